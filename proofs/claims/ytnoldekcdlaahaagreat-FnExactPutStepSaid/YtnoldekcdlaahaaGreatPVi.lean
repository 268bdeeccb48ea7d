/- A part. -/
import Derived.Test.YtnoldekcdlaahaaGreatPZt
import Derived.Test.YtnoldekcdlaahaaGreatPZq
import Derived.Test.YtnoldekcdlaahaaGreatPTa
import Derived.Test.YtnoldekcdlaahaaGreatPVn
import Derived.Test.YtnoldekcdlaahaaGreatPZo
import Derived.Test.YtnoldekcdlaahaaGreatPXd
import Derived.Test.YtnoldekcdlaahaaGreatPEy
set_option linter.unusedSimpArgs false
set_option linter.unusedVariables false
set_option maxHeartbeats 8000000
set_option maxRecDepth 10000
open Go.Proofs.Tryz
namespace Go.Proofs.YtnoldekcdlaahaaGreat
open Go.Vm
theorem AEq (w:DWorld) (r:DRef) {x:DRow} (hx:x∈Ej w r):0≤x.id∧x.id≤1000000000:=by
 unfold Ej at hx
 split at hx
 ·simp at hx
 ·rename_i b hb
  rcases h:DJ w.c0.cols b.g with _ | l
  ·rw[h] at hx; simp at hx
  ·rw[h] at hx
   have:=(Si (Q9 h)).2.2 x hx
   exact⟨this.1,this.2.1⟩
theorem jT {α:Type} {l:List α} {p q:α→Bool} (h:∀ x∈l,p x=q x):l.all p=l.all q:=by
 rw[abz,aJ,aJ]
 exact⟨fun h2 x hx=>by rw[← h x hx]; exact h2 x hx,fun h2 x hx=>by rw[h x hx]; exact h2 x hx⟩
theorem AG1 {w:DWorld} (hd:Il w.d=true):w.d.l.all (V5 w)=gW w:=by
 refine jT fun r hr=>?_
 obtain⟨h1,h2,h3⟩:=ACE hd hr
 unfold V5 RY kT
 rcases ht:there w r with _ | _
 ·simp only[ag]
 rcases k1:r.kind==1 with _ | _
 ·have k2:=gu h1 k1
  rw[k2]
  simp only[aj,ag,aS,aB,aX,bf]
  refine jT fun x hx=>?_
  have hi:=AEq w r hx
  exact(ACF h1 h2 h3 x.id AOQ).symm
 ·have k2:(r.kind==2)=false:=by
   have:r.kind=1:=by simpa using k1
   rw[this]; rfl
  rw[k2]
  rcases hm:r.many==w.c0.slots with _ | _<;>simp[bne,hm]
theorem AEr {w:DWorld} (hd:Il w.d=true):kR w=(kU w&&(gX w&&V8 w)):=by
 have h:Rf w.b (QR w)=(w.b.all (O9 w)&&Rf w.b (QC w)):=by
  rw[abz,ay,XO,XO,aJ]
  constructor
  ·intro h
   refine⟨fun x hx=>?_,fun k hk=>?_⟩
   ·obtain⟨i,hi,rfl⟩:=List.mem_iff_getElem.1 hx
    have:=h i hi
    simp only[QR,ay] at this
    exact this.1
   ·have:=h k hk
    simp only[QR,ay,vz hd] at this
    exact this.2
  ·rintro⟨h1,h2⟩ k hk
   simp only[QR,ay,vz hd]
   exact⟨h1 _ (ax hk),h2 k hk⟩
 unfold kR kU V8
 rw[h]
 ac_rfl
theorem rU (w:DWorld):WA w=Ec w:=by
 unfold WA Ec
 rcases hd:Il w.d with _ | _
 ·simp only[ag]
 rw[AG1 hd,AEr hd]
 ac_rfl
theorem iK (w:DWorld) (hf:Aa w):Ctr prog 28 [.agg w.c] [.val (.c (.v (.bool (Ec w))))]:=by
 rw[← rU]
 exact h_ w hf
def mM (w:DWorld):Bool:=decide (w.time<1000000)&&(decide (w.t<1000000)&&(decide (w.e<1000000)&&decide (w.d.ver<1000000)))
def mP (w:DWorld):Bool:=w.time==1000000||(w.t==1000000||(w.e==1000000||w.d.ver==1000000))
theorem Xj (w:DWorld):Ctr prog 239 [.agg w.c] [.val (.c (.v (.bool (mP w))))]:=by
 refine CM call239 func239 ntmps239 results239 fun hw=>?_
 rcases h1:w.time==1000000 with _ | _<;>rcases h2:w.t==1000000 with _ | _<;>rcases h3:w.e==1000000 with _ | _ <;>
  simp only[go_sem,h1,h2,h3,mP,dh,bZ]
theorem ABF {w:DWorld} (h:Ec w=true):mP w = !mM w:=by
 unfold Ec headB at h
 simp only[ay,aaV,aaA,Ad,aZ] at h
 obtain⟨⟨_,⟨_,h1⟩,⟨_,h2⟩,⟨_,h3⟩⟩,_,h4,_⟩:=h
 have key:∀ x:Int,x≤1000000→(x==1000000) = !decide (x<1000000):=fun x hx=>by
  by_cases e:x=1000000
  ·subst e; rfl
  ·have e1:(x==1000000)=false:=by simpa using e
   have e2:decide (x<1000000)=true:=AOS
   rw[e1,e2]; rfl
 unfold mP mM
 rw[key _ h1,key _ h2,key _ h3,key _ AOQ]
 simp only[Bool.not_and]
def BG:DTask:=⟨0,0,0,[],0,Gh,0,0,[],0,0,0,0,0,false,[]⟩
def J9 (w:DWorld) (code:Int) (d:DDeed):DDeed:=⟨d.op,d.task,d.r,d.id,d.q,d.res,code,d.stamp,d.inv,w.time,d.ret⟩
def YO (w:DWorld) (d:DDeed):DDeed:=⟨d.op,d.task,d.r,d.id,d.q,d.res,d.code,d.stamp,d.inv,d.lin,w.time⟩
def endW (w:DWorld) (k h:Nat):DWorld:=⟨w.c0,w.time,w.t,w.e,w.d,w.b,w.m,w.x,w.p.set k (-1),w.tasks.set k BG,w.deeds.modify h (YO w)⟩
def EJ (w:DWorld):DWorld:=⟨w.c0,IntKind.i64.wrap (w.time+1),w.t,w.e,w.d,w.b,w.m,w.x,w.p,w.tasks,w.deeds⟩
def wdR (w:DWorld) (a b c d e f g h:Cl):List Cl:=[a,.v (.int .i64 w.c0.slots),.v (.int .i64 w.c0.bufs),.v (.int .i64 w.time),.v (.int .i64 w.t),.v (.int .i64 w.e),.v (.int .i64 w.d.ver),b,c,d,e,f,g,h]
@[go_sem] theorem AKb (w:DWorld) (a b c d e f g h:Cl):wdR w a b c d e f g h = [a,.v (.int .i64 w.c0.slots),.v (.int .i64 w.c0.bufs),.v (.int .i64 w.time),.v (.int .i64 w.t),.v (.int .i64 w.e),.v (.int .i64 w.d.ver),b,c,d,e,f,g,h]:=rfl
theorem AEs (w:DWorld) {st:List Ob} {l:Nat} {x1 x2 x3 x4 x5 x6 x7 x8:Cl} (h:st[l]?=some ⟨44,14,[wdR w x1 x2 x3 x4 x5 x6 x7 x8],true,true⟩):InlS prog 30 st [.lp l 0 0] (.c (.v (.bool (mM w)))) st:=by
 refine ACR (fn:=f30) call30 func30 rfl mixed ntmps30 results30 (by kernel_rfl) rfl fun m env=>?_
 have hob:Cf st l=some ⟨44,14,[wdR w x1 x2 x3 x4 x5 x6 x7 x8],true,true⟩:=by simp[Cf,h]
 simp only[go_sem] at hob
 rcases h1:decide (w.time<1000000) with _ | _<;>rcases h2:decide (w.t<1000000) with _ | _<;>rcases h3:decide (w.e<1000000) with _ | _ <;>
  simp only[go_sem,hob,h1,h2,h3,mM,aj,ag]
def opAt (w:DWorld) (k:Int):Int:=match w.tasks[k.toNat]? with
 | some t=>t.op
 | none=>1
theorem Yh {k a b:Int} (h:Ad k a b=true) (ha:0≤a):∃ n:Nat,k=n∧(n:Int)≤b:=by
 simp[Ad] at h
 exact⟨k.toNat,AOQ,AOQ⟩
theorem PW {w:DWorld} (h:Ec w=true):w.tasks.length=5∧w.p.length=5:=by
 unfold Ec at h
 simp only[ay,iP] at h
 omega
def PX {α:Type} (p:α→Bool) (l:List α):Int:=match l.findIdx? p with
 | some i=>(i:Int)
 | none=>-1
theorem SH {α:Type} {p:α→Bool} {l:List α} {k:Nat} (hk:k<l.length) (h:FC l (fun x=>!p x) k) (hp:p l[k]=true):PX p l=k:=by
 have:l.findIdx? p=some k:=List.findIdx?_eq_some_iff_getElem.2 ⟨hk,hp,fun j hj=>by simpa using h.2 j AOQ hj⟩
 simp[PX,this]
theorem SI {α:Type} {p:α→Bool} {l:List α} (h:FC l (fun x=>!p x) l.length):PX p l = -1:=by
 have:l.findIdx? p=none:=List.findIdx?_eq_none_iff.2 fun x hx=>by
  obtain⟨i,hi,rfl⟩:=aaC hx
  simpa using h.2 i hi hi
 simp[PX,this]
theorem WS {α:Type} (p:α→Bool) (l:List α):PX p l = -1∨∃ (k:Nat) (h:k<l.length),PX p l=k∧p l[k]=true:=by
 unfold PX
 split
 ·rename_i i hi
  obtain⟨h1,h2,_⟩:=List.findIdx?_eq_some_iff_getElem.1 hi
  exact .inr ⟨i,h1,rfl,h2⟩
 ·exact .inl rfl
def Xk (id:Int) (d:DDeed):Bool:=(d.op==1)&&((d.id==id)&&decide (id≥0))
def Nv (l:List DDeed) (id:Int):Int:=PX (Xk id) l
theorem JY (l:List DDeed) (id:Int) (hl:l.length≤1048576):Ctr prog 208 [.c (.sl (l.map DDeed.c)),.c (.v (.int .i64 (id)))] [.val (.c (.v (.int .i64 (Nv l id))))]:=by
 refine CM call208 func208 ntmps208 results208 fun hw=>?_
 unfold Nv
 simp only[go_sem,ae]
 refine ABK 0 (A:=Nat) (fun x=>[(5,.c (.v (.int .i64 (x))))]) (fun _=>[]) (FC l fun d=>!Xk id d) (fun x=>l.length-x) 0 ⟨⟨rfl,rfl⟩,rfl,DZ⟩ ?_
 intro k hk
 refine AOK (fun h=>?_) fun h=>?_
 ·have hk':k<l.length:=by simpa using h
  have hw1:IntKind.i64.wrap ((k:Int)+1)=(k:Int)+1:=wrap_i64 AOQ AOQ
  have e0:Xk id l[k]=((l[k].op==1)&&((l[k].id==id)&&decide (id≥0))):=rfl
  simp only[go_sem,AA _ hk',hk']
  try refine AAm ?_
  try simp only[go_sem,AA _ hk',hk']
  rcases q1:l[k].op==1 with _ | _
  ·simp only[go_sem,AA _ hk',hk',hw1,q1]
   exact⟨k+1,⟨rfl,rfl⟩,rfl,BH hk' hk (by rw[e0,q1]; rfl),AOQ⟩
  rcases q2:l[k].id==id with _ | _
  ·simp only[go_sem,AA _ hk',hk',hw1,q1,q2]
   exact⟨k+1,⟨rfl,rfl⟩,rfl,BH hk' hk (by rw[e0,q1,q2]; rfl),AOQ⟩
  rcases q3:decide (id≥0) with _ | _
  ·simp only[go_sem,AA _ hk',hk',hw1,q1,q2,q3]
   exact⟨k+1,⟨rfl,rfl⟩,rfl,BH hk' hk (by rw[e0,q1,q2,q3]; rfl),AOQ⟩
  ·exact ANd
 ·exact ANe
theorem JZ (l:List DDeed) (id:Int) (hl:l.length≤1048576):Ctr prog 243 [.c (.sl (l.map DDeed.c)),.c (.v (.int .i64 (id)))] [.val (.c (.v (.int .i64 (Nv l id))))]:=by
 refine CM call243 func243 ntmps243 results243 fun hw=>?_
 unfold Nv
 simp only[go_sem,ae]
 refine ABK 0 (A:=Nat) (fun x=>[(9,.c (.v (.int .i64 (x))))]) (fun _=>[]) (FC l fun d=>!Xk id d) (fun x=>l.length-x) 0 ⟨⟨rfl,rfl⟩,rfl,DZ⟩ ?_
 intro k hk
 refine AOK (fun h=>?_) fun h=>?_
 ·have hk':k<l.length:=by simpa using h
  have hw1:IntKind.i64.wrap ((k:Int)+1)=(k:Int)+1:=wrap_i64 AOQ AOQ
  have e0:Xk id l[k]=((l[k].op==1)&&((l[k].id==id)&&decide (id≥0))):=rfl
  simp only[go_sem,AA _ hk',hk']
  try refine AAm ?_
  try simp only[go_sem,AA _ hk',hk']
  rcases q3:decide (id≥0) with _ | _
  ·simp only[go_sem,AA _ hk',hk',hw1,q3]
   exact⟨k+1,⟨rfl,rfl⟩,rfl,BH hk' hk (by rw[e0,q3,aK,aK]; rfl),AOQ⟩
  rcases q1:l[k].op==1 with _ | _
  ·simp only[go_sem,AA _ hk',hk',hw1,q1,q3]
   exact⟨k+1,⟨rfl,rfl⟩,rfl,BH hk' hk (by rw[e0,q1]; rfl),AOQ⟩
  rcases q2:l[k].id==id with _ | _
  ·simp only[go_sem,AA _ hk',hk',hw1,q1,q2,q3]
   exact⟨k+1,⟨rfl,rfl⟩,rfl,BH hk' hk (by rw[e0,q1,q2]; rfl),AOQ⟩
  ·exact ANd
 ·exact ANe
def Zh (n s:Int):Int:=if(n == -1&&decide (s≥1))=true then s else n
def NK (n s:Int):Bool:=n == -1&&decide (s≥1)
theorem rV (n s:Int):Ctr prog 209 [.c (.v (.int .i64 (n))),.c (.v (.int .i64 (s)))] [.val (.c (.v (.int .i64 (Zh n s)))),.val (.c (.v (.bool (NK n s))))]:=by
 refine CM call209 func209 ntmps209 results209 fun hw=>?_
 have e:decide (s<1) = !decide (s≥1):=by by_cases h:s<1<;>simp[h]<;>omega
 exact AL6
theorem rW (n s:Int):Ctr prog 245 [.c (.v (.int .i64 (n))),.c (.v (.int .i64 (s)))] [.val (.c (.v (.int .i64 (Zh n s)))),.val (.c (.v (.bool (NK n s))))]:=by
 refine CM call245 func245 ntmps245 results245 fun hw=>?_
 have e:decide (s>0)=decide (s≥1):=by by_cases h:s>0<;>simp[h]<;>omega
 exact AL6
def Tq (s:Int) (x:DSlot):DSlot:=⟨Zh x.ins s,x.l⟩
def FU (c:DChunk) (i:Nat) (s:Int):DChunk:=⟨c.next,c.l.modify i (Tq s)⟩
theorem Df {α:Type} (f:α→α) {l:List α} {i:Nat} (h:i<l.length):l.modify i f=l.set i (f l[i]):=by
 apply abk
 intro j
 rw[List.getElem?_modify,wE]
 by_cases e:i=j
 ·subst e; simp[h]
 ·simp[e]
theorem YP (c:DChunk) (i:Nat) (s:Int) (hc:EI c) (hi:i<c.l.length):Ctr prog 207 [.agg c.c,.c (.v (.int .i64 ((i:Int)))),.c (.v (.int .i64 (s)))] [.agg (FU c i s).o,.val (.c (.v (.bool (NK c.l[i].ins s))))]:=by
 have hlen:=hc
 rw[CE] at hlen
 have hlen:=hlen.1
 refine CM call207 func207 ntmps207 results207 fun hw=>?_
 simp only[go_sem]
 refine CW (ML c hc) fun _=>?_
 simp only[go_sem,ae,wrap_i64 (n:=(c.l.length:Int)-1) AOQ AOQ]
 try refine AAm ?_
 try simp only[go_sem]
 first | refine ABL _ (AO (i:Int) 0 ((c.l.length:Int)-1)) ?_ | refine AAM _ (AO (i:Int) 0 ((c.l.length:Int)-1)) fun _=>?_
 have h1:Ad (i:Int) 0 ((c.l.length:Int)-1)=true:=by simp[Ad]; omega
 simp only[go_sem,h1,AA _ hi,hi]
 refine AAM _ (rV c.l[i].ins s) fun _=>?_
 exact ALQ
theorem YQ (c:DChunk) (i:Nat) (s:Int) (hc:EI c) (hi:i<c.l.length):Ctr prog 242 [.agg c.c,.c (.v (.int .i64 ((i:Int)))),.c (.v (.int .i64 (s)))] [.agg (FU c i s).o,.val (.c (.v (.bool (NK c.l[i].ins s))))]:=by
 refine CM call242 func242 ntmps242 results242 fun hw=>?_
 simp only[go_sem]
 refine CW (JL c hc) fun _=>?_
 simp only[go_sem]
 refine CW (EC c (i:Int)) fun _=>?_
 have h1:BX c (i:Int)=true:=by simp[BX]; omega
 simp only[go_sem,h1,AA _ hi,hi]
 refine AAM _ (rW c.l[i].ins s) fun _=>?_
 exact ALQ
def AF9 (w:DWorld) (r:DRef) (id:Int):Int:=match O3 w r.buf with
 | some b=>((b.c0.l[(id-r.first).toNat]?).map DSlot.ins).getD 0
 | none=>0
noncomputable def insOf (w:DWorld) (r:DRef) (id:Int):Int:=
 if there w r=true then(if(r.kind==1)=true then AF9 w r id else if(r.kind==2&&(KC (Ej w r) id).isSome)=true then 1 else 0) else 0
def setT (w:DWorld) (n:Nat) (t:DTask):DWorld:=⟨w.c0,w.time,w.t,w.e,w.d,w.b,w.m,w.x,w.p,w.tasks.set n t,w.deeds⟩
def Ed (t:DTask) (pc:Int):DTask:=⟨t.op,pc,t.h,t.r,t.id,t.q,t.ts,t.ver,t.l,t.i,t.j,t.s,t.at0,t.own,t.won,t.got⟩
def Ag (w:DWorld) (t:DTask) (pc:Int):DTask:=⟨t.op,pc,t.h,t.r,t.id,t.q,t.ts,t.ver,t.l,t.i,t.j,w.t,w.time,t.own,t.won,t.got⟩
def Ce (w:DWorld) (n:Nat) (t:DTask):DWorld:=⟨w.c0,w.time,w.t,w.e,w.d,w.b,w.m,w.x,w.p.set n w.e,w.tasks.set n (Ed t 1),w.deeds⟩
def codeW (w:DWorld) (n:Nat) (t:DTask) (code:Int):DWorld:=⟨w.c0,w.time,w.t,w.e,w.d,w.b,w.m,w.x,w.p,w.tasks.set n (Ed t 9),w.deeds.modify t.h.toNat (J9 w code)⟩
def PY (s a:Int) (d:DDeed):DDeed:=⟨d.op,d.task,d.r,d.id,d.q,d.res,1,s,d.inv,a,d.ret⟩
def Zi (l:List DDeed) (h:Int) (s a:Int):List DDeed:=if h<0 then l else l.modify h.toNat (PY s a)
def Bh (i:Nat) (s:Int) (b:DBuf):DBuf:=⟨b.gen,b.kind,FU b.c0 i s,b.g⟩
def WT (w:DWorld) (k op:Int):Bool:=Ad k 0 2&&((opAt w k==op)&&mM w)
noncomputable def MC (w:DWorld) (k op:Int):Bool:=Ec w&&WT w k op
def Jm (w:DWorld) (k:Int):DTask:=w.tasks.getD k.toNat BG
structure AtWork (w:DWorld) (n:Nat) (t:DTask) (op:Int):Prop where
 lt:n<w.tasks.length
 lp:n<w.p.length
 at_:w.tasks[n]=t
 hh:t.h.toNat<w.deeds.length
 h0:t.h=(t.h.toNat:Int)
 th:t.l.all (there w)=true
 own:ownB w t=true
 sw:swB w t (w.deeds[t.h.toNat]'hh)=true
 op_:t.op=op
 ok:G8 t n=true
 ld:w.deeds.length≤1048576
 lm:w.m.length≤1048576
 lb:w.b.length≤1048576
 lr:w.d.l.length≤1048576
 ht:w.tasks.length=5
theorem mQ {w:DWorld} {k op:Int} (hf:Aa w) (h1:Ec w=true) (h2:Ad k 0 2=true) (h3:(opAt w k==op)=true) (h4:op≠0) (h5:op≠1∨True):∃ n:Nat,k=n∧(n:Int)≤2∧Jm w k=Jm w n∧AtWork w n (Jm w k) op:=by
 obtain⟨n,rfl,hn⟩:=Yh h2 AOQ
 have hl:=PW h1
 have hlt:n<w.tasks.length:=AOQ
 have hta:Jm w n=w.tasks[n]:=by simp[Jm,hlt]
 have hop:w.tasks[n].op=op:=by simpa [opAt,hlt] using h3
 unfold Ec at h1
 simp only[ay] at h1
 obtain⟨_,_,_,_,_,_,_,_,_,_,ht,_⟩:=h1
 have g:=XO.1 ht n hlt
 simp only[QL,ay,r_] at g
 obtain⟨g1,g2,g3⟩:=g
 have g3:gV w n w.tasks[n]=true:=by
  rcases g3 with g3 | g3
  ·rw[hop] at g3; exact absurd (by simpa using g3) h4
  ·exact g3
 unfold gV at g3
 rcases hd:w.deeds[w.tasks[n].h.toNat]? with _ | d
 ·rw[hd] at g3; cases g3
 rw[hd] at g3
 obtain⟨hh,rfl⟩:=aF.1 hd
 simp only[ay] at g3
 have hnn:0≤w.tasks[n].h:=by
  simp only[G8,ay] at g1
  have:=aJ.1 g1.2.2.2.2.1 w.tasks[n].h (by simp[numsL])
  simpa [CP] using this
 rw[Ar,IG] at hf
 obtain⟨f1,f2,f3,f4,f5,f6,f7,f8⟩:=hf
 refine⟨n,rfl,hn,rfl, ?_⟩
 rw[hta]
 exact⟨hlt,AOQ,rfl,hh,AOQ,g3.2.1,g3.2.2.1,g3.2.2.2,hop,g1,f8.1,f4,f3.1,f2,hl.1⟩
theorem rX {l:List DDeed} {id:Int} (h:¬ Nv l id<0):∃ (j:Nat) (h:j<l.length),Nv l id=j:=by
 rcases WS (Xk id) l with e | ⟨j,hj,e,_⟩
 ·unfold Nv at h; omega
 ·exact⟨j,hj,e⟩
theorem Oq {w:DWorld} {k op:Int} (h:Ec w=false∨Ad k 0 2=false∨(opAt w k==op)=false∨mM w=false):MC w k op=false:=by
 unfold MC WT
 rcases h with h | h | h | h<;>rw[h]<;>simp
theorem rY {r:DRef} {id:Int} (h:CU r id=true):0≤r.first∧r.first≤id∧(id≤9223372036854775807→IntKind.i64.wrap (id-r.first)=id-r.first∧id-r.first<r.many):=by
 simp only[CU,ay,aZ] at h
 obtain⟨h1,h2,h3⟩:=h
 refine⟨h1,h2,fun h4=>?_⟩
 rw[wrap_i64 AOQ AOQ] at h3 ⊢
 exact⟨rfl,h3⟩
def fqI:Option DRow→Int
 | none=>0
 | some r=>r.id
def fqL:Option DRow→List DVal
 | none=>[]
 | some r=>r.l
theorem xQ (o:Option DRow) (b:Bool) : [Rq o,.val (.c (.v (.bool (b))))].map Zt = [.val (.agg [.v (.int .i64 (fqI o)),.sl ((fqL o).map DVal.c)]),.val (.c (.v (.bool (b))))]:=by
 cases o with
 | none=>rfl
 | some r=>simp only[Rq,fqI,fqL,YR,di,Zt,DRow.o_er]; rfl
theorem Xl (l:List DRow) (n:Int) (ha:AEJ Hf l):Ctr prog 206 [.c (.sl (l.map DRow.c)),.c (.v (.int .i64 (n)))] [.val (.agg [.v (.int .i64 (fqI (KC l n))),.sl ((fqL (KC l n)).map DVal.c)]),.val (.c (.v (.bool ((KC l n).isSome))))]:=by
 rw[← xQ]; exact(zC l n ha).frz
theorem AC0 {w:DWorld} {r:DRef} {id:Int} (h:there w r=false):insOf w r id=0:=by simp[insOf,h]
theorem AF_ (w:DWorld) (r:DRef) (id:Int) (hf:Aa w) (hc:CU r id=true):Ctr prog 91 [.agg w.c,.agg r.c,.c (.v (.int .i64 (id)))] [.val (.c (.v (.int .i64 (insOf w r id))))]:=by
 obtain⟨c1,c2,c3⟩:=rY hc
 refine CM call91 func91 ntmps91 results91 fun hw=>?_
 have hid:=KW hw.2.2.1
 obtain⟨c4,c5⟩:=c3 hid
 simp only[go_sem]
 try refine AAm ?_
 try simp only[go_sem]
 first | refine CY (GR w r) ?_ | refine CW (GR w r) fun _=>?_
 rcases h1:there w r with _ | _
 ·simp only[go_sem,h1,AC0 h1]
 obtain⟨q,hq,hb,hat⟩ | ⟨hb,hat⟩:=FB w r.buf
 rotate_left
 ·simp only[there,hat] at h1; cases h1
 obtain⟨j,hj⟩:=aQ (show 0≤id-r.first from AOQ)
 rcases h2:r.kind==1 with _ | _
 ·have hr:insOf w r id=if(r.kind==2&&(KC (Ej w r) id).isSome)=true then 1 else 0:=by simp only[insOf,h1,h2,bf,aX,aB]
  rw[hr]
  simp only[go_sem,h1,h2]
  try refine AAm ?_
  try simp only[go_sem,h1,h2]
  first | refine CY (Me w r hf hq hb) ?_ | refine CW (Me w r hf hq hb) fun _=>?_
  simp only[go_sem]
  try refine AAm ?_
  try simp only[go_sem]
  first | refine ABL _ (Xl (Ej w r) id (AAX w r).big) ?_ | refine AAM _ (Xl (Ej w r) id (AAX w r).big) fun _=>?_
  rcases h3:(KC (Ej w r) id).isSome with _ | _
  ·simp only[go_sem,h3,aK,aB,aX]
  rcases h4:r.kind==2 with _ | _<;>simp only[go_sem,h3,h4,aN,aB,aX,bf]
 ·have hlen:(w.b[q].c0.l.length:Int)=r.many:=by
   have h3:=h1
   simp only[there,hat,OU,ay,r_,iP] at h3
   rcases h3.2.2 with h3 | h3
   ·simp only[bne,h2] at h3; cases h3
   ·exact h3
  have hjl:j<w.b[q].c0.l.length:=AOQ
  have hr:insOf w r id=w.b[q].c0.l[j].ins:=by
   simp only[insOf,h1,h2,bf,AF9,hat,hj,bW]
   simp[hjl]
  have d1:decide (r.first<0)=false:=AOS
  have d2:decide (id<r.first)=false:=AOS
  have d3:decide ((j:Int)≥(w.b[q].c0.l.length:Int))=false:=AOS
  rw[hj] at c4
  rw[hr]
  simp only[go_sem,h1,h2,hb,AA _ hq,hq,ae,c4,hj,d1,d2,d3,AA _ hjl,hjl]
  try refine AAm ?_
  try simp only[go_sem,h1,h2,hb,AA _ hq,hq,ae,c4,hj,d1,d2,d3,AA _ hjl,hjl]
  try refine AAm ?_
  try simp only[go_sem,h1,h2,hb,AA _ hq,hq,ae,c4,hj,d1,d2,d3,AA _ hjl,hjl]
theorem AP {st:List Ob} {l ty sz:Nat} {xs ys:List (List Cl)} {wr live:Bool} (h:Cf st l=some ⟨ty,sz,xs,wr,live⟩) (hn:BJ xs=true) (e:QG xs=ys):BorX st (.ref l) (.sl ys):=.inl (by simp[YT,h,hn,e])
theorem QM {st:List Ob} {w:DWorld} {a b c d e f g h:Cl} (h1:BorX st a (.sl (w.c0.cols.map intC))) (h2:BorX st b (.sl (w.d.l.map DRef.c))) (h3:BorX st c (.sl (w.b.map DBuf.c))) (h4:BorX st d (.sl (w.m.map intC))) (h5:BorX st e (.sl (w.x.map DDead.c)))
  (h6:BorX st f (.sl (w.p.map intC))) (h7:BorX st g (.sl (w.tasks.map DTask.c))) (h8:BorX st h (.sl (w.deeds.map DDeed.c))):BorL st (wdR w a b c d e f g h) w.c:=
 ⟨h1,.inl rfl,.inl rfl,.inl rfl,.inl rfl,.inl rfl,.inl rfl,h2,h3,h4,h5,h6,h7,h8,trivial⟩
theorem IK {st:List Ob} (r:DRef):BorL st r.c r.c:=⟨.inl rfl,.inl rfl,.inl rfl,.inl rfl,.inl rfl,trivial⟩
def AGA (t:DTask) (hv pc:Int) (a b c d e:Nat):List Cl:=[.v (.int .i64 t.op),.v (.int .i64 pc),.v (.int .i64 hv),.ref a,.v (.int .i64 t.id),.v (.int .i64 t.q.kind),.v (.int .i64 t.q.p.kind),.v (.int .i64 t.q.p.col),.v (.int .i64 t.q.p.op),.v (.int .i64 t.q.p.v.ty),.v (.int .i64 t.q.p.v.n),.v (.string t.q.p.v.s),.ref b,.v (.int .i64 t.q.col),.ref c,.v (.int .i64 t.ts),.v (.int .i64 t.ver),.ref d,.v (.int .i64 t.i),.v (.int .i64 t.j),.v (.int .i64 t.s),.v (.int .i64 t.at0),.v (.int .i64 t.own),.v (.bool t.won),.ref e]
theorem AG2 {st:List Ob} {t:DTask} {hv:Int} {a b c d e y1 y2 y3 y4 y5 z1 z2 z3 z4 z5:Nat} {xs:List (List Cl)} {u1 u2 u3 u4 u5 v1 v2 v3 v4 v5:Bool} (h1:Cf st a=some ⟨y1,z1,t.r.map DVal.c,u1,v1⟩) (h2:Cf st b=some ⟨y2,z2,t.q.p.l.map DPred.o,u2,v2⟩) (h3:Cf st c=some ⟨y3,z3,t.q.out.map intC,u3,v3⟩)
  (h4:Cf st d=some ⟨y4,z4,xs,u4,v4⟩) (h5:Cf st e=some ⟨y5,z5,t.got.map DRow.o,u5,v5⟩) (eh:t.h=hv) (hxs:xs=t.l.map DRef.c):BorR st (AGA t hv t.pc a b c d e) (DTask.c t):=by
 subst eh
 subst hxs
 have g:∀ (x:Value),UF st (.v x) (.v x):=fun x=>.inr ⟨rfl,rfl⟩
 have g1:UF st (.ref a) (.sl (t.r.map DVal.c)):=.inl ⟨a,_,rfl,h1,DD _,by rw[FN]⟩
 have g2:UF st (.ref b) (.sl (t.q.p.l.map DPred.c)):=.inl ⟨b,_,rfl,h2,BR _,by rw[JF]⟩
 have g3:UF st (.ref c) (.sl (t.q.out.map intC)):=.inl ⟨c,_,rfl,h3,AX _,by rw[Ah]⟩
 have g4:UF st (.ref d) (.sl (t.l.map DRef.c)):=.inl ⟨d,_,rfl,h4,BO _,by rw[DI]⟩
 have g5:UF st (.ref e) (.sl (t.got.map DRow.c)):=.inl ⟨e,_,rfl,h5,BF _,by rw[Jk]⟩
 simp only[go_sem,BorR,AGA]
 exact AM4
theorem AC1 {w:DWorld} {r:DRef} {b:DBuf} (h1:there w r=true) (h2:(r.kind==1)=true) (hat:O3 w r.buf=some b):(b.c0.l.length:Int)=r.many:=by
 simp only[there,hat,OU,ay,r_,iP] at h1
 rcases h1.2.2 with h3 | h3
 ·simp only[bne,h2] at h3; cases h3
 ·exact h3
def MM (c:DChunk):DChunk:=if BX c c.next=true then⟨c.next+1,c.l⟩ else c
def U6 (c:DChunk):Int:=if BX c c.next=true then c.next else -1
theorem AEt {c:DChunk} (h:c.l.length≤1048576) (i:Int):Ad i 0 ((c.l.length:Int)-1)=BX c i:=by
 rw[abz]; simp only[Ad,BX,ay,aZ]; omega
theorem iL (c:DChunk) (hc:EI c):Ctr prog 255 [.agg c.c] [.agg (MM c).o,.val (.c (.v (.int .i64 (U6 c))))]:=by
 have hlen:=hc
 rw[CE] at hlen
 have hlen:=hlen.1
 have e1:=AEt hlen c.next
 refine CM call255 func255 ntmps255 results255 fun hw=>?_
 simp only[go_sem]
 refine CW (ML c hc) fun _=>?_
 simp only[go_sem,ae,wrap_i64 (n:=(c.l.length:Int)-1) AOQ AOQ]
 try refine AAm ?_
 try simp only[go_sem]
 first | refine ABL _ (AO c.next 0 ((c.l.length:Int)-1)) ?_ | refine AAM _ (AO c.next 0 ((c.l.length:Int)-1)) fun _=>?_
 rcases h1:BX c c.next with _ | _
 ·simp only[go_sem,e1,h1,MM,U6,aB,aX,ED]
  try exact AII
 ·have e2:IntKind.i64.wrap (c.next+1)=c.next+1:=by simp only[BX,ay,aZ] at h1; exact wrap_i64 AOQ AOQ
  simp only[go_sem,e1,h1,e2,MM,U6,bf,ED]
  try (refine ABH ?_; simp only[go_sem,ED])
  try exact AII
theorem iM (c:DChunk) (hc:EI c):Ctr prog 260 [.agg c.c] [.agg (MM c).o,.val (.c (.v (.int .i64 (U6 c))))]:=by
 have hlen:=hc
 rw[CE] at hlen
 have hlen:=hlen.1
 refine CM call260 func260 ntmps260 results260 fun hw=>?_
 simp only[go_sem]
 refine CW (JL c hc) fun _=>?_
 simp only[go_sem]
 try refine AAm ?_
 try simp only[go_sem]
 first | refine CY (EC c c.next) ?_ | refine CW (EC c c.next) fun _=>?_
 rcases h1:BX c c.next with _ | _
 ·simp only[go_sem,h1,MM,U6,aB,aX,ED]
  try exact AII
 ·have e2:IntKind.i64.wrap (c.next+1)=c.next+1:=by simp only[BX,ay,aZ] at h1; exact wrap_i64 AOQ AOQ
  simp only[go_sem,h1,e2,MM,U6,bf,ED]
  try (refine ABH ?_; simp only[go_sem,ED])
  try exact AII
def JG (w:DWorld):DRef:=w.d.l.getLast?.getD ⟨0,0,0,0,0⟩
def lastB (w:DWorld):Bool:=!w.d.l.isEmpty
theorem rZ {w:DWorld} (h:0<w.d.l.length):JG w=w.d.l[w.d.l.length-1]:=by
 simp only[JG,List.getLast?_eq_getElem?]
 rw[au AOQ]; rfl
theorem Zj (w:DWorld) (hl:w.d.l.length≤1048576):Ctr prog 146 [.agg w.c] [.val (.agg (JG w).c),.val (.c (.v (.bool (lastB w))))]:=by
 refine CM call146 func146 ntmps146 results146 fun hw=>?_
 exact AIA
theorem Zk (w:DWorld) (hl:w.d.l.length≤1048576):Ctr prog 152 [.agg w.c] [.val (.agg (JG w).c),.val (.c (.v (.bool (lastB w))))]:=by
 refine CM call152 func152 ntmps152 results152 fun hw=>?_
 exact AIA
end Go.Proofs.YtnoldekcdlaahaaGreat
