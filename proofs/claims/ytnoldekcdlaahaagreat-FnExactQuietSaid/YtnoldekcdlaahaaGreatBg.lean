/- A part. -/
import Derived.Test.YtnoldekcdlaahaaGreatZp
import Derived.Test.YtnoldekcdlaahaaGreatVa
import Derived.Test.YtnoldekcdlaahaaGreatZf
import Derived.Test.YtnoldekcdlaahaaGreatOa
set_option linter.unusedSimpArgs false
set_option linter.unusedVariables false
set_option maxHeartbeats 4000000
set_option maxRecDepth 10000
open Go.Proofs.Tryz
namespace Go.Proofs.YtnoldekcdlaahaaGreat
open Go.Vm
def IB (w:DWorld) (id:Int):Int:=if 0≤id then(w.m[id.toNat]?).getD 0 else 0
theorem ND {w:DWorld} {n:Nat} (h:n<w.m.length):IB w n=w.m[n]:=by simp[IB,h]
theorem Zb {w:DWorld} {id:Int} (h:¬ (0≤id∧id<w.m.length)):IB w id=0:=by
 unfold IB
 split
 ·rename_i h0
  rw[uU AOh]; rfl
 ·rfl
theorem AE8 (w:DWorld) (id:Int) (hm:w.m.length≤1048576):Ctr prog 323 [.agg w.c,.c (.v (.int .i64 id))] [.val (.c (.v (.int .i64 (IB w id))))]:=by
 refine CM call323 func323 ntmps323 results323 fun hw=>?_
 simp only[go_sem,ae]
 try refine AAm ?_
 try simp only[go_sem,ae]
 first | refine AB5 _ (RS id 0 _) ?_ | refine AAT _ (RS id 0 _) fun _=>?_
 simp only[go_sem,ae]
 rw[wrap_i64 (n:=(w.m.length:Int)-1) AOh AOh]
 by_cases hb:0≤id∧id<w.m.length
 ·obtain⟨n,rfl⟩:=aO hb.1
  have hn:n<w.m.length:=AOh
  have e1:(decide ((n:Int)≥0)&&decide ((n:Int)≤(w.m.length:Int)-1))=true:=AOj
  simp only[go_sem,ae,e1,AA _ hn,hn,ND hn]
 ·have e1:(decide (id≥0)&&decide (id≤(w.m.length:Int)-1))=false:=by simp; omega
  simp only[go_sem,ae,e1,Zb hb]
theorem mM (w:DWorld) (id:Int) (hm:w.m.length≤1048576):Ctr prog 244 [.agg w.c,.c (.v (.int .i64 id))] [.val (.c (.v (.int .i64 (IB w id))))]:=by
 refine CM call244 func244 ntmps244 results244 fun hw=>?_
 by_cases hb:0≤id∧id<w.m.length
 ·obtain⟨n,rfl⟩:=aO hb.1
  have hn:n<w.m.length:=AOh
  have e1:decide ((n:Int)<0)=false:=AOi
  have e2:decide ((n:Int)≥(w.m.length:Int))=false:=AOj
  simp only[go_sem,ae,e1,e2,AA _ hn,hn,ND hn]
 ·rw[Zb hb]
  by_cases h0:id<0
  ·have e1:decide (id<0)=true:=by simpa using h0
   simp only[go_sem,ae,e1]
  ·have e1:decide (id<0)=false:=by simpa using h0
   have e2:decide (id≥(w.m.length:Int))=true:=AOj
   simp only[go_sem,ae,e1,e2]
def setT (w:DWorld) (n:Nat) (t:DTask):DWorld:=⟨w.c0,w.time,w.t,w.e,w.d,w.b,w.m,w.x,w.p,w.tasks.set n t,w.deeds⟩
def DV (t:DTask) (pc:Int):DTask:=⟨t.op,pc,t.h,t.r,t.id,t.q,t.ts,t.ver,t.l,t.i,t.j,t.s,t.at0,t.own,t.won,t.got⟩
def lT (t:DTask) (l:List DRef) (pc:Int):DTask:=⟨t.op,pc,t.h,t.r,t.id,t.q,t.ts,t.ver,l,t.i,t.j,t.s,t.at0,t.own,t.won,t.got⟩
def Ag (w:DWorld) (t:DTask) (pc:Int):DTask:=⟨t.op,pc,t.h,t.r,t.id,t.q,t.ts,t.ver,t.l,t.i,t.j,w.t,w.time,t.own,t.won,t.got⟩
def DU (t:DTask) (pc:Int):DTask:=⟨t.op,pc,t.h,t.r,t.id,t.q,t.ts,t.ver,t.l,t.i,t.j,t.s,t.at0,t.own,true,t.got⟩
def Bh (w:DWorld) (n:Nat) (t:DTask):DWorld:=⟨w.c0,w.time,w.t,w.e,w.d,w.b,w.m,w.x,w.p.set n w.e,w.tasks.set n (DV t 1),w.deeds⟩
def codeW (w:DWorld) (n:Nat) (t:DTask) (code:Int):DWorld:=⟨w.c0,w.time,w.t,w.e,w.d,w.b,w.m,w.x,w.p,w.tasks.set n (DV t 9),w.deeds.modify t.h.toNat (Cf w code)⟩
def IW (s a:Int) (d:DDeed):DDeed:=⟨d.op,d.task,d.r,d.id,d.q,d.res,1,s,d.inv,a,d.ret⟩
def O1 (l:List DDeed) (h:Int) (s a:Int):List DDeed:=if h<0 then l else l.modify h.toNat (IW s a)
def D6 (i:Nat) (s:Int) (b:DBuf):DBuf:=⟨b.gen,b.kind,I8 b.c0 i s,b.g⟩
def Zc (w:DWorld) (r:DRef) (id s:Int):Bool:=Jr (YA w r id) s
def Dw (w:DWorld) (r:DRef) (id s a:Int):DWorld:=
 if Zc w r id s=true then⟨w.c0,w.time,w.t,w.e,w.d,w.b.modify r.buf.toNat (D6 (id-r.first).toNat s),w.m,w.x,w.p,w.tasks,O1 w.deeds (OH w.deeds id) s a⟩ else w
def NQ (w:DWorld) (id:Int):Int:=if EU w id<0 then -1 else((w.tasks[(EU w id).toNat]?).map DTask.h).getD (-1)
def CP (w:DWorld) (id s a:Int):DWorld:=
 if Jr (IB w id) s=true then⟨w.c0,w.time,w.t,w.e,w.d,w.b,w.m.set id.toNat s,w.x,w.p,w.tasks,O1 w.deeds (NQ w id) s a⟩ else w
def BM (w:DWorld) (n:Nat) (t:DTask):DWorld:=⟨w.c0,w.time,w.t,w.e,w.d,w.b,w.m.set t.id.toNat (-1),w.x,w.p,w.tasks.set n (DU t 6),w.deeds⟩
noncomputable def CQ (w:DWorld) (n:Nat) (t:DTask):DWorld:=
 if(t.pc==0)=true then Bh w n t else
 if(t.pc==1)=true then(if decide (Ib w.d t.id<0)=true then codeW w n t 2 else setT w n (lT t [w.d.l.getD (Ib w.d t.id).toNat (l0 t)] 2)) else
 if(t.pc==2)=true then(if(insOf w (l0 t) t.id==0)=true then codeW w n t 2 else setT w n (DV t (if(insOf w (l0 t) t.id == -1)=true then 3 else 5))) else
 if(t.pc==3)=true then setT w n (Ag w t 4) else
 if(t.pc==4)=true then setT (Dw w (l0 t) t.id t.s t.at0) n (DV t 5) else
 if(t.pc==5)=true then(if(IB w t.id==0)=true then BM w n t else if(IB w t.id == -1)=true then setT w n (DV t 6) else codeW w n t 2) else
 if(t.pc==6)=true then setT w n (Ag w t 7) else
 if(t.pc==7)=true then(if t.won=true then setT (CP w t.id t.s t.at0) n (DV t 9) else codeW (CP w t.id t.s t.at0) n t 2) else
 endW w n t.h.toNat
def Wi (w:DWorld) (k op:Int):Bool:=Aa k 0 2&&((opAt w k==op)&&TV w)
noncomputable def NR (w:DWorld) (k op:Int):Bool:=DY w&&Wi w k op
def Oe (w:DWorld) (k:Int):DTask:=w.tasks.getD k.toNat CX
noncomputable def MK (w:DWorld) (k:Int):DWorld:=if NR w k 2=true then Dj (CQ w k.toNat (Oe w k)) else w
structure AtWork (w:DWorld) (n:Nat) (t:DTask) (op:Int):Prop where
 lt:n<w.tasks.length
 lp:n<w.p.length
 at_:w.tasks[n]=t
 hh:t.h.toNat<w.deeds.length
 h0:t.h=(t.h.toNat:Int)
 th:t.l.all (there w)=true
 own:ownB w t=true
 sw:swB w t (w.deeds[t.h.toNat]'hh)=true
 op_:t.op=op
 ok:IJ t n=true
 ld:w.deeds.length≤1048576
 lm:w.m.length≤1048576
 lb:w.b.length≤1048576
 lr:w.d.l.length≤1048576
 ht:w.tasks.length=5
theorem mO {w:DWorld} {k op:Int} (hf:AX w) (h1:DY w=true) (h2:Aa k 0 2=true) (h3:(opAt w k==op)=true) (h4:op≠0) (h5:op≠1∨True):∃ n:Nat,k=n∧(n:Int)≤2∧Oe w k=Oe w n∧AtWork w n (Oe w k) op:=by
 obtain⟨n,rfl,hn⟩:=ZB h2 AOh
 have hl:=Hm h1
 have hlt:n<w.tasks.length:=AOh
 have hta:Oe w n=w.tasks[n]:=by simp[Oe,hlt]
 have hop:w.tasks[n].op=op:=by simpa [opAt,hlt] using h3
 unfold DY at h1
 simp only[ay] at h1
 obtain⟨_,_,_,_,_,_,_,_,_,_,ht,_⟩:=h1
 have g:=TQ.1 ht n hlt
 simp only[PW,ay,qw] at g
 obtain⟨g1,g2,g3⟩:=g
 have g3:WS w n w.tasks[n]=true:=by
  rcases g3 with g3 | g3
  ·rw[hop] at g3; exact absurd (by simpa using g3) h4
  ·exact g3
 unfold WS at g3
 rcases hd:w.deeds[w.tasks[n].h.toNat]? with _ | d
 ·rw[hd] at g3; cases g3
 rw[hd] at g3
 obtain⟨hh,rfl⟩:=aF.1 hd
 simp only[ay] at g3
 have hnn:0≤w.tasks[n].h:=by
  simp only[IJ,ay] at g1
  have:=aP.1 g1.2.2.2.2.1 w.tasks[n].h (by simp[numsL])
  simpa [CE] using this
 rw[A8,H_] at hf
 obtain⟨f1,f2,f3,f4,f5,f6,f7,f8⟩:=hf
 refine⟨n,rfl,hn,rfl, ?_⟩
 rw[hta]
 exact⟨hlt,AOh,rfl,hh,AOh,g3.2.1,g3.2.2.1,g3.2.2.2,hop,g1,f8.1,f4,f3.1,f2,hl.1⟩
theorem rG {l:List DDeed} {id:Int} (h:¬ OH l id<0):∃ (j:Nat) (h:j<l.length),OH l id=j:=by
 rcases Wv (X9 id) l with e | ⟨j,hj,e,_⟩
 ·unfold OH at h; omega
 ·exact⟨j,hj,e⟩
theorem jr {w:DWorld} {id:Int} (h:¬ EU w id<0):∃ (j:Nat) (h:j<w.tasks.length),EU w id=j∧w.tasks[j].op=2∧w.tasks[j].won=true:=by
 rcases Wv (VB id) w.tasks with e | ⟨j,hj,e,h2⟩
 ·unfold EU at h; omega
 ·refine⟨j,hj,e, ?_⟩
  simp only[VB,ay,ZE] at h2
  exact⟨h2.1,h2.2.2⟩
theorem rH {d:DDir} {id:Int} (h:¬ Ib d id<0):∃ (j:Nat) (h:j<d.l.length),Ib d id=j:=by
 rcases Wv (fun r=>Az r id) d.l with e | ⟨j,hj,e,_⟩
 ·unfold Ib at h; omega
 ·exact⟨j,hj,e⟩
theorem SL {w:DWorld} (h1:DY w=true) {k:Nat} (hk:k<w.tasks.length) (h0:w.tasks[k].op≠0):∃ (y:Nat) (h:y<w.deeds.length),w.tasks[k].h=(y:Int)∧w.deeds[y].task=(k:Int):=by
 unfold DY at h1
 simp only[ay] at h1
 obtain⟨_,_,_,_,_,_,_,_,_,_,ht,_⟩:=h1
 have g:=TQ.1 ht k hk
 simp only[PW,ay,qw] at g
 obtain⟨g1,g2,g3⟩:=g
 have g3:WS w k w.tasks[k]=true:=by
  rcases g3 with g3 | g3
  ·exact absurd (by simpa using g3) h0
  ·exact g3
 unfold WS at g3
 rcases hd:w.deeds[w.tasks[k].h.toNat]? with _ | d
 ·rw[hd] at g3; cases g3
 rw[hd] at g3
 obtain⟨hh,rfl⟩:=aF.1 hd
 simp only[ay,Yo,ZE] at g3
 have hnn:0≤w.tasks[k].h:=by
  simp only[IJ,ay] at g1
  have:=aP.1 g1.2.2.2.2.1 w.tasks[k].h (by simp[numsL])
  simpa [CE] using this
 exact⟨w.tasks[k].h.toNat,hh,AOh,g3.1.1⟩
theorem O3 {w:DWorld} {k op:Int} (h:DY w=false∨Aa k 0 2=false∨(opAt w k==op)=false∨TV w=false):NR w k op=false:=by
 unfold NR Wi
 rcases h with h | h | h | h<;>rw[h]<;>simp
theorem NS {w:DWorld} {k:Int} (h:NR w k 2=false):MK w k=w:=by simp[MK,h]
end Go.Proofs.YtnoldekcdlaahaaGreat
namespace Go.Vm
open Go.RowKit
variable {P:Program} {w0:Bs} {St0 St:Nat→Nat→Prop} {β:Nat→Option Nat} {s:MS} {a:Act} {w:World} {st:List Ob}
def UF (st:List Ob) (c d:Cl):Prop:=(∃ l ob,c = .ref l∧DT st l=some ob∧DI ob.xs=true∧d = .sl (Qa ob.xs))∨(Hr c=true∧d=er c)
def BorR (st:List Ob):List Cl→List Cl→Prop
 | [],[]=>True
 | c::cs,d::ds=>UF st c d∧BorR st cs ds
 | _,_=>False
def BorX (st:List Ob) (c d:Cl):Prop:=dX st c=some d∨∃ l ob ys,c = .ref l∧DT st l=some ob∧d = .sl ys∧ys.length=ob.xs.length∧∀ (i:Nat) x y,ob.xs[i]?=some x→ys[i]?=some y→BorR st x y
def BorL (st:List Ob):List Cl→List Cl→Prop
 | [],[]=>True
 | c::cs,d::ds=>BorX st c d∧BorL st cs ds
 | _,_=>False
def AI_ (st:List Ob):AV→AV→Prop
 | .c c,.c d=>BorX st c d
 | .agg cs,.agg ds=>BorL st cs ds
 | _,_=>False
def AAQ (st:List Ob):List AV→List AV→Prop
 | [],[]=>True
 | x::xs,y::ys=>AI_ st x y∧AAQ st xs ys
 | _,_=>False
theorem BorR.at:∀ {cs ds:List Cl},BorR st cs ds→cs.length=ds.length∧∀ (k:Nat) (d:Cl),ds[k]?=some d→∃ c,cs[k]?=some c∧UF st c d
 | [],[],_=>⟨rfl,fun k d h=>AO_⟩
 | c::cs,d::ds,h=>by
  obtain⟨q1,q2⟩:=BorR.at h.2
  exact AMP
 | [],_::_,h=>h.elim
 | _::_,[],h=>h.elim
theorem BorL.at:∀ {cs ds:List Cl},BorL st cs ds→cs.length=ds.length∧∀ (k:Nat) (d:Cl),ds[k]?=some d→∃ c,cs[k]?=some c∧BorX st c d
 | [],[],_=>⟨rfl,fun k d h=>AO_⟩
 | c::cs,d::ds,h=>by
  obtain⟨q1,q2⟩:=BorL.at h.2
  exact AMP
 | [],_::_,h=>h.elim
 | _::_,[],h=>h.elim
section
variable {φ:Nat→Nat→Nat→Prop}
theorem AAR (h:Core w0 St0 St β s a w) (hφ:VZ w0 w St s.st β φ) {c d:Cl} (hc:BorX s.st c d) {u:Value} (hu:RdC w St s.st β c u):RdD w (AllSt w St s.st β φ) d u:=by
 rcases hc with hc | ⟨l,ob,ys,rfl,hob,rfl,hlen,hrows⟩
 ·exact oz h hφ hc hu
 obtain⟨hl,hlive⟩:=CS hob
 have hu:BN w s.st β l u:=by simpa only[RdC] using hu
 simp only[BN,hl] at hu
 have hx2:=hu.2 hlive
 simp only[RdD]
 cases hβ:β l with
 | none =>
  simp only[hβ] at hx2
  obtain⟨rfl,hn⟩:=hx2
  have:ys = []:=aai (by rw[hlen,hn]; rfl)
  subst this
  exact⟨none,0,rfl,aT _,az _,⟨0,AOi⟩,.inl rfl⟩
 | some b =>
  simp only[hβ] at hx2
  obtain⟨cap,cs,e1,e2,e3,e4,e5⟩:=hx2
  obtain⟨_,_,cs',g1,g2,g3⟩:=h.obs l ob b hl hlive hβ
  rw[e4] at g1
  simp only[ak,Obj.cells.injEq,abG] at g1
  subst g1
  have hrow:∀ (i:Nat) y,ys[i]?=some y→∃ x,ob.xs[i]?=some x∧x.length=ob.sz∧BorR s.st x y:=fun i y hy=>by
   have hi:i<ob.xs.length:=by rw[← hlen]; exact(aF.1 hy).1
   exact⟨ob.xs[i],au hi,g2 _ (ax hi),hrows i _ _ (au hi) hy⟩
  have hw:∀ y∈ys,y.length=ob.sz:=fun y hy=>by
   obtain⟨i,hi⟩:=List.getElem?_of_mem hy
   obtain⟨x,_,h2,h3⟩:=hrow i y hi
   rw[← h3.at.1,h2]
  refine⟨some ⟨b,0,none⟩,cap,by rw[e1,hlen],by rw[hlen]; exact e2,e3,⟨ob.sz,hw⟩,.inr ⟨b,0,rfl,ADp ob.sz hw fun i y hi=>AC7 fun j d hj=>?_⟩⟩
  obtain⟨x,hx,hxl,hb⟩:=hrow i y hi
  obtain⟨c,hc,hcd⟩:=hb.at.2 j d hj
  have hk:=FZ g2 i j x c hx hc
  obtain⟨v,hv,hr⟩:=g3 _ c hk
  refine⟨.inr ⟨l,ob,hl,hlive,.inl hβ⟩,v,by simp only[World.cell?,e4,uX]; exact hv, ?_⟩
  rcases hcd with ⟨l2,ob2,rfl,hob2,hnr,rfl⟩ | ⟨hnr,rfl⟩
  ·have hr2:BN w s.st β l2 v:=by simpa only[RdB,RdC] using hr
   have:=RdO.frz _ _ _ (zD h hφ hob2 hnr hr2)
   simp only[er] at this
   exact RdD.mono (fun b o hbo=>by
    rcases hbo with hbo | hbo
    ·exact .inl hbo
    ·exact .inr ⟨l2,hbo⟩) (fun _ _ _=>rfl) _ _ this
  ·cases ho:Gi c with
   | true =>
    obtain⟨u2,hu2,hro⟩:=hφ.1 l ob b _ c hl hlive hβ hk ho
    have e:u2=v:=by
     simp only[World.cell?,e4,aby,aC,aW] at hu2
     rw[hv] at hu2
     exact(uV hu2).symm
    subst e
    exact RdD.mono (fun b o hbo=>by
     rcases hbo with hbo | hbo
     ·exact .inl hbo
     ·exact .inr ⟨l,ob,hl,hlive,.inr ⟨_,hbo⟩⟩) (fun _ _ _=>rfl) _ _ (RdO.frz _ _ _ hro)
   | false =>
    have hrc:=hr.toC ho
    cases c with
    | ref l=>simp[Hr] at hnr
    | v x=>simp only[er]; exact RdD.mono (fun _ _ h=>.inl h) (fun _ _ _=>rfl) _ _ (by simpa only[RdC] using hrc)
    | sl x=>simp only[er]; exact RdD.mono (fun _ _ h=>.inl h) (fun _ _ _=>rfl) _ _ (by simpa only[RdC] using hrc)
    | ow ty sz x=>simp[Gi] at ho
theorem Zd (h:Core w0 St0 St β s a w) (hφ:VZ w0 w St s.st β φ):∀ {xs ys:List AV},AAQ s.st xs ys→∀ {us:List Value},AVRs w St s.st β xs us→RdAs w (AllSt w St s.st β φ) ys us
 | [],[],_,us,hu=>by
  simp only[AVRs] at hu
  exact hu
 | x::xs,y::ys,hx,us,hu=>by
  simp only[AVRs] at hu
  obtain⟨v,vs,e,g1,g2⟩:=hu
  refine⟨v,vs,e, ?_,Zd h hφ hx.2 g2⟩
  have hx:=hx.1
  cases x<;>cases y<;>simp only[AI_] at hx
  ·simp only[AVR] at g1
   exact AAR h hφ hx g1
  ·simp only[AVR] at g1
   obtain⟨us,e1,e2,e3⟩:=g1
   obtain⟨q1,q2⟩:=hx.at
   refine⟨us,e1,by rw[← q1,e2],fun k d hk=>?_⟩
   obtain⟨c,hc,hcd⟩:=q2 k d hk
   obtain⟨y,hy,hr⟩:=e3 k c hc
   exact⟨y,hy,AAR h hφ hcd hr⟩
 | [],_::_,h,_,_=>h.elim
 | _::_,[],h,_,_=>h.elim
end
theorem InlK.bor {f:FuncId} {args:List AV} {dst:Option Nat} {K:MS→Prop} {A B C:Prop} {args':List AV} (rs:List Res) (hx:AAQ s.st args args') (hc:rs.all Ji=true) (h:Ctr P f args' rs) (hk:Yy rs→ACI s dst K s.st rs) :
  PK A (PK B (PK C (InlK P f s args dst K))):=.inr (.inr (.inr ⟨h.1,fun w0 St0 St β a w us h1 h2=>by
 obtain⟨φ,hφ⟩:=h1.own
 refine(h.2 w _ us (fun b o hb=>AllSt.lt h1 hφ hb) (Zd h1 hφ hx h2)).mono fun e w' hb=>?_
 obtain⟨vs,bs,St2,hb⟩:=hb
 have hb:=hb.clo hc h1.stIn
 obtain⟨β',k1,k2⟩:=RD h1 hb
 have hwf:Yy rs:=by
  obtain⟨Φs,hr,_⟩:=hb.res
  exact hr.wf
 have e1:=hb.ret
 exact⟨_,e1,⟨s.n,s.env,(Iw s.st rs).2⟩,retA (Iw s.st rs).1,rfl,hk hwf,St,β',k1,LD k2⟩⟩))
theorem InlS.bor {f:FuncId} {args args':List AV} (rs:List Res) (hx:AAQ st args args') (hc:rs.all Ji=true) (h:Ctr P f args' rs):InlS P f st args (retA (Iw st rs).1) (Iw st rs).2:=⟨h.1,fun w0 St0 St β s a w us hst h1 h2=>by
 subst hst
 obtain⟨φ,hφ⟩:=h1.own
 refine(h.2 w _ us (fun b o hb=>AllSt.lt h1 hφ hb) (Zd h1 hφ hx h2)).mono fun e w' hb=>?_
 obtain⟨vs,bs,St2,hb⟩:=hb
 have hb:=hb.clo hc h1.stIn
 obtain⟨β',k1,k2⟩:=RD h1 hb
 exact⟨_,hb.ret,St,β',k1,LD k2⟩⟩
theorem BorX.set {α:Type} {f g:α→List Cl} {xs:List α} {n l ty sz:Nat} {row:List Cl} {wr live:Bool} (hob:DT st l=some ⟨ty,sz,(xs.map f).set n row,wr,live⟩) (hnr:∀ x,(f x).all Hr=true) (her:∀ x,KI (f x)=g x)
  (hrow:∀ x,xs[n]?=some x→BorR st row (g x)):BorX st (.ref l) (.sl (xs.map g)):=by
 have gen:∀ r:List Cl,r.all Hr=true→BorR st r (KI r):=by
  intro r
  induction r with
  | nil=>intro _; simp only[KI,BorR]
  | cons c r ih =>
   intro h
   simp only[bC,ay] at h
   rw[KI]
   exact⟨.inr ⟨h.1,rfl⟩,ih h.2⟩
 refine .inr ⟨l,_,_,rfl,hob,rfl,AOi,fun i x y hx hy=>?_⟩
 simp only[qp,yx] at hy
 obtain⟨z,hz,rfl⟩:=hy
 rw[yz] at hx
 by_cases e:n=i
 ·subst e
  have hn:n<xs.length:=(aF.1 hz).1
  simp only[ae,hn,aX,ak] at hx
  subst hx
  exact hrow z hz
 ·simp only[e,aW,qp,hz,bW,ak] at hx
  subst hx
  rw[← her]
  exact gen _ (hnr z)
def openR (l i:Nat):Nat→Nat→List Ob→List Ob
 | 0,_,st=>st
 | n+1,off,st=>match DT st l with
  | some ob=>if ob.wr=true then match ob.xs[i]? with
   | some row=>match row[off]? with
    | some (.ow ty sz xs)=>openR l i n (off+1) (Bc st l i off ob row ty sz xs)
    | _=>openR l i n (off+1) st
   | none=>st
   else st
  | none=>st
theorem Head.openR (l i:Nat):∀ (n off:Nat) (s:MS),Head s ⟨s.n,s.env,Go.Vm.openR l i n off s.st⟩
 | 0,_,s=>⟨rfl,fun _ _ _ _ _ _ h=>⟨_,_,h⟩⟩
 | n+1,off,s=>by
  rw[Go.Vm.openR]
  split
  ·rename_i ob hob
   split
   ·rename_i hwr
    split
    ·rename_i row hrow
     split
     ·rename_i ty sz xs hc
      refine Head.trans (t:=⟨s.n,s.env,Bc s.st l i off ob row ty sz xs⟩) ⟨rfl,fun w0 St0 St β a w h=>?_⟩ (Head.openR l i n (off+1) _)
      obtain⟨b,u,β',_,_,hcore,_⟩:=h.openCell hob hwr hrow hc
      exact⟨_,_,hcore⟩
     ·exact Head.openR l i n (off+1) s
    ·exact⟨rfl,fun _ _ _ _ _ _ h=>⟨_,_,h⟩⟩
   ·exact⟨rfl,fun _ _ _ _ _ _ h=>⟨_,_,h⟩⟩
  ·exact⟨rfl,fun _ _ _ _ _ _ h=>⟨_,_,h⟩⟩
theorem EndH.openR {vars:List ResultVar} {rs:List Res} (l i n:Nat) (hk:EndH P vars rs .ret ⟨s.n,s.env,Go.Vm.openR l i n 0 s.st⟩):EndH P vars rs .ret s:=by
 obtain⟨t,h1,h2⟩:=hk
 exact⟨t,(Head.openR l i n 0 s).trans h1,h2⟩
theorem DrawK.headD {l:List Oper} {t:MS} {K:MS→Prop} (hh:Head s t) (hok:FP s.n l.toArray=true) (hops:(l.all fun o=>o.op.operands.toList.all Au)=true) (h:vpD P l.toArray K l t):DrawK P l.toArray s K:=ADs fun w0 St0 St β a w hc=>by
 obtain⟨St',β',hc'⟩:=hh.2 w0 St0 St β a w hc
 have:=YM (by rw[hh.1]; exact hok) hops hc' h
 rwa [hh.1] at this
theorem DrawK.headE {x:Option (Nat×Nat)} {l:List Oper} {t:MS} {K:MS→Prop} (hh:Head s t) (hok:FP s.n l.toArray=true) (hops:(l.all fun o=>o.op.operands.toList.all Au)=true) (h:vpE P x l.toArray K l 0 [(0,t.st)] [] t) (hx:zQ l.toArray x=true:=by rfl):DrawK P l.toArray s K:=ADs fun w0 St0 St β a w hc=>by
 obtain⟨St',β',hc'⟩:=hh.2 w0 St0 St β a w hc
 have:=Vr hx (by rw[hh.1]; exact hok) hops hc' h
 rwa [hh.1] at this
end Go.Vm
namespace Go.Proofs.YtnoldekcdlaahaaGreat

open Go.Vm
theorem Ze:∀ (cs:List Int) (vs:List DVal),fits cs vs=true→vs.length=cs.length∧∀ v∈vs,BK v=true
 | [],[],_=>⟨rfl,fun v hv=>by cases hv⟩
 | [],_::_,h=>by simp[fits] at h
 | _::_,[],h=>by simp[fits] at h
 | c::cs,v::vs,h=>by
  simp only[fits,ay] at h
  obtain⟨h1,h2⟩:=Ze cs vs h.2
  refine⟨by simp[h1],fun x hx=>?_⟩
  rcases dh.1 hx with rfl | hx
  ·exact h.1.1
  ·exact h2 x hx
theorem Y6 (w:DWorld) (r:DRef):fitS Gu (C_ w r):=by
 unfold C_
 split
 ·exact⟨az _,fun x hx=>by cases hx⟩
 ·rename_i b hb
  rcases h:DK w.c0.cols b.g with _ | l
  ·exact⟨az _,fun x hx=>by cases hx⟩
  ·obtain⟨h1,h2,h3⟩:=TI (SA h)
   refine⟨by simp only[aI]; omega,fun x hx=>?_⟩
   obtain⟨q1,q2⟩:=Ze _ _ (h3 x hx).2.2
   rw[Ja]
   refine⟨AOh,fun v hv=>?_⟩
   have:=UX (q2 v hv)
   rw[Sl]; omega
theorem BI {α:Type} {f:α→List Cl} {l:List α} (h:∀ x,Fa (f x)=true):JV (l.map f)=true:=ZI fun x hx=>by
 obtain⟨y,_,rfl⟩:=kN.1 hx
 exact h y
theorem rJ {N ty sz:Nat} {R:List (List Cl)} {wr live:Bool} (h:JV R=true):BD N ⟨ty,sz,R,wr,live⟩=true:=by
 simp only[BD,qw]
 exact .inr (aP.2 fun x hx=>vS (AFh (Vb h x hx)))
theorem AE9 {R:List (List Cl)} {i:Nat} {x:List Cl} (h:JV R=true) (hx:Fa x=true):JV (R.set i x)=true:=ZI fun y hy=>by
 rcases aaW hy with h' | rfl
 ·exact Vb h y h'
 ·exact hx
theorem set_self {R:List (List Cl)} {i:Nat} (hi:i<R.length) (x:List Cl):(R.set i x)[i]?=some x:=AP_
def MkS (ty sz:Nat) (k l l':Int) (cl':List Cl) (rs:List AV):Prop:=∃ (R:List (List Cl)) (k':Int),cl' = [.ow ty sz R]∧rs = [.c (.v (.int .i64 k'))]∧k≤k'∧k'+64*l'≤k+64*l∧JV R=true
def MkP {α:Type} (f:α→List Cl) (sz:α→Int→Int) (xs:List α) (k l lf:Int) (x:Nat×List (List Cl)×Int×Int):Prop:=
 x.1≤xs.length∧x.2.1.length=xs.length∧(∀ (j:Nat) (h:j<xs.length),x.1≤j→x.2.1[j]?=some (f xs[j]))∧JV x.2.1=true∧k≤x.2.2.1∧x.2.2.1+64*x.2.2.2≤k+64*(l-xs.length+x.1)∧Xt sz (xs.drop x.1) x.2.2.2=lf∧x.2.2.2≤l
theorem mP {n:Nat} {l:Int} (h:0≤Fv n l):Fv n l=l-n:=by
 unfold Fv at h ⊢
 split at h
 ·omega
 ·rename_i h2; rw[aZ h2]
theorem MkP.start {α:Type} {f:α→List Cl} {sz:α→Int→Int} {xs:List α} {k l:Int} (hf:∀ x,Fa (f x)=true) (h0:0≤DW sz xs l):MkP f sz xs k l (DW sz xs l) (0,xs.map f,k,l-xs.length):=by
 obtain⟨s1,s2,s3⟩:=AZ h0
 have e:=mP s1
 refine⟨az _,AOi,fun j h _=>by simp[h],BI hf,xZ _,AOl, ?_,AOl⟩
 simp only[aa5]
 rw[← e]
 exact s3.symm
theorem MkP.room {α:Type} {f:α→List Cl} {sz:α→Int→Int} {xs:List α} {k l lf:Int} {i:Nat} {R:List (List Cl)} {k1 l1:Int} (h:MkP f sz xs k l lf (i,R,k1,l1)) (hi:i<xs.length) (h0:0≤lf) :
  0≤sz xs[i] l1∧R[i]?=some (f xs[i])∧i<R.length∧k≤k1∧k1+64*l1≤k+64*l-64∧l1≤l:=by
 obtain⟨a1,a2,a3,a4,a5,a6,a7,a8⟩:=h
 dsimp only at *
 rw[aG hi,Xt] at a7
 rw[← a7] at h0
 obtain⟨s1,s2,s3⟩:=AZ h0
 exact⟨s1,a3 i hi (aT _),AOh,a5,AOh,a8⟩
theorem MkP.step {α:Type} {f:α→List Cl} {sz:α→Int→Int} {xs:List α} {k l lf:Int} {i:Nat} {R:List (List Cl)} {k1 l1:Int} (h:MkP f sz xs k l lf (i,R,k1,l1)) (hi:i<xs.length) (h0:0≤lf) {row:List Cl} {k2:Int} (hr:Fa row=true) (hk:k1≤k2) (hk2:k2+64*sz xs[i] l1≤k1+64*l1+64) (hl:sz xs[i] l1≤l1) :
  MkP f sz xs k l lf (i+1,R.set i row,k2,sz xs[i] l1):=by
 obtain⟨a1,a2,a3,a4,a5,a6,a7,a8⟩:=h
 dsimp only at *
 rw[aG hi,Xt] at a7
 have h0':=h0
 rw[← a7] at h0'
 obtain⟨s1,s2,s3⟩:=AZ h0'
 refine⟨hi,by simpa using a2,fun j hj hij=>?_,AE9 a4 hr,AOl,AOl,by simp only; rw[← s3]; exact a7,AOl⟩
 simp only at hij ⊢
 rw[List.getElem?_set_ne AOh]
 exact a3 j hj AOh
theorem MkP.done {α:Type} {f:α→List Cl} {sz:α→Int→Int} {xs:List α} {k l lf:Int} {i:Nat} {R:List (List Cl)} {k1 l1:Int} (ty n:Nat) (h:MkP f sz xs k l lf (i,R,k1,l1)) (hi:i=xs.length):JV R=true∧MkS ty n k l lf [.ow ty n R] [.c (.v (.int .i64 k1))]:=by
 obtain⟨a1,a2,a3,a4,a5,a6,a7,a8⟩:=h
 dsimp only at *
 subst hi
 rw[aV] at a7
 simp only[Xt] at a7
 exact⟨a4,R,k1,rfl,rfl,a5,AOh,a4⟩
theorem MCtr.mono {P:Program} {f:FuncId} {g:Bool} {cl:List Cl} {args:List AV} {Q Q':List Cl→List AV→Prop} (h:MCtr P f g cl args Q) (hQ:∀ cl' rs,Q cl' rs→Q' cl' rs):MCtr P f g cl args Q':=
 ⟨h.1,h.2.1,fun w St us G vs h1 h2 h3 h4=>(h.2.2 w St us G vs h1 h2 h3 h4).mono fun e w' hb=>by
  obtain⟨cl',rs,rv,G',h0,hr⟩:=hb
  exact⟨cl',rs,rv,G',hQ _ _ h0,hr⟩⟩
def jv:Nat→Int→ByteArray→ByteArray
 | 0,_,out=>out
 | n+1,k,out=>if k>0 then jv n (k.tdiv 10) (strOfNums [IntKind.u8.wrap (48+k.tmod 10)]++out) else out
def IC (k:Int):ByteArray:=if k≤0 then ByteArray.mk #[109,48] else ByteArray.mk #[109]++jv 19 k (ByteArray.mk #[])
theorem ADC (n:Int):(strOfNums [n]).size=1:=by rw[strOfNums_size]; rfl
theorem EQ (k:Int) (hk:0≤k) (hb:k≤4000000000000000000):Ctr prog 137 [.c (.v (.int .i64 k))] [.val (.c (.v (.string (IC k))))]:=by
 refine CM call137 func137 ntmps137 results137 fun hw=>?_
 by_cases h0:k≤0
 ·simp only[go_sem,h0,IC]
 ·simp only[go_sem,h0,IC]
  refine AB7 0 [0,3] (A:=Nat×Int×ByteArray) (fun x=>⟨20,[(0,.c (.v (.int .i64 x.2.1))),(3,.c (.v (.string x.2.2)))],[]⟩)
   (fun x=>jv x.1 x.2.1 x.2.2=jv 19 k (ByteArray.mk #[])∧0≤x.2.1∧x.2.1.toNat<10 ^ x.1∧x.2.2.size+x.1≤19∧x.2.1≤k) (fun x=>x.1) (19,k,ByteArray.mk #[]) ⟨⟨rfl,rfl⟩,by simp[trim,Cb],rfl,hk,by show k.toNat<10 ^ 19; omega,by show _≤_; simp[ByteArray.size],xZ _⟩ ?_
  rintro⟨n,j,out⟩ ⟨h1,h2,h3,h4,h5⟩
  dsimp only at h1 h2 h3 h4 h5
  refine AOb (fun h=>?_) fun h=>?_
  ·have hj:0<j:=by simpa using h
   cases n with
   | zero=>simp at h3; omega
   | succ n =>
    have hm1:0≤j.tmod 10:=Int.tmod_nonneg 10 h2
    have hm2:j.tmod 10<10:=Int.tmod_lt_of_pos j AOh
    have hd1:0≤j.tdiv 10:=Int.tdiv_nonneg h2 AOh
    have hd2:j.tdiv 10≤j:=Int.tdiv_le_self _ h2
    have hd3:(j.tdiv 10).toNat<10 ^ n:=by
     rw[di h2]
     rw[Nat.pow_succ] at h3
     omega
    have hb2:j.toNat<10 ^ 19:=bP h3 (aax AOh AOh)
    have h10:((10:Int)=0)=False:=AOi
    have hsz:(strOfNums [IntKind.u8.wrap (48+j.tmod 10)]).size+out.size≤maxLen:=by rw[ADC]; simp only[maxLen]; omega
    simp only[go_sem,wrap_i64 (n:=j.tmod 10) AOh AOh,wrap_i64 (n:=48+j.tmod 10) AOh AOh,wrap_i64 (n:=j.tdiv 10) AOh AOh,hsz,h10,aI]
    refine⟨(n,j.tdiv 10,_),⟨rfl,rfl⟩,rfl,⟨?_,hd1,hd3, ?_,AOl⟩,AOl⟩
    ·rw[← h1]
     show _=if j>0 then _ else _
     rw[bu hj]
    ·simp only[ByteArray.size_append,ADC]; omega
  ·have hj:j=0:=by simp at h; omega
   subst hj
   have hd:∀ n out,jv n 0 out=out:=fun n out=>by cases n<;>rfl
   rw[hd] at h1
   have hsz:(#[109]:Array UInt8).size+(jv 19 k (ByteArray.mk #[])).size≤maxLen:=by rw[← h1]; show 1+_≤9223372036854775807; omega
   simp only[go_sem,h1,hsz]
theorem Dk {N ty sz:Nat} {R:List (List Cl)} {wr live:Bool} (h:JV R=true) : [(⟨ty,sz,R,wr,live⟩:Ob)].all (BD N)=true:=by
 simp only[bC,bU,aS]
 exact rJ h
def H7 {α:Type} (y:Int→α→α) (c:Int→α→Int):Int→List α→List α
 | _,[]=>[]
 | k,x::xs=>y k x::H7 y c (c k x) xs
def ER {α:Type} (c:Int→α→Int):Int→List α→Int
 | k,[]=>k
 | k,x::xs=>ER c (c k x) xs
theorem Es {α:Type} {c:Int→α→Int} (hc:∀ k x,k≤c k x):∀ (xs:List α) (k:Int),k≤ER c k xs
 | [],k=>xZ _
 | x::xs,k=>by
  have:=Es hc xs (c k x)
  have:=hc k x
  simp only[ER]; omega
theorem H8 {α:Type} {c:Int→α→Int} (B:Int) (hB:0≤B):∀ (xs:List α) (_:∀ x∈xs,∀ k,c k x≤k+B) (k:Int),ER c k xs≤k+xs.length*B
 | [],_,k=>by simp[ER]
 | x::xs,h,k=>by
  have h1:=h x AOi k
  have h2:=H8 B hB xs (fun y hy=>h y AP1) (c k x)
  simp only[ER,df,Int.natCast_add,Int.natCast_one,Int.add_mul,Int.one_mul]
  omega
theorem JO {α:Type} (y:Int→α→α) (c:Int→α→Int):∀ (xs:List α) (k:Int),(H7 y c k xs).length=xs.length
 | [],k=>rfl
 | x::xs,k=>by simp[H7,JO y c xs]
def MkX {α:Type} (y:Int→α→α) (c:Int→α→Int) (xs:List α) (k0:Int) (x:Nat×List α×Int):Prop:=
 x.1≤xs.length∧x.2.1.length=x.1∧H7 y c k0 xs=x.2.1++H7 y c x.2.2 (xs.drop x.1)∧ER c k0 xs=ER c x.2.2 (xs.drop x.1)∧k0≤x.2.2
section
variable {α:Type} {y:Int→α→α} {c:Int→α→Int} {xs:List α} {k0 k1:Int} {i:Nat} {dn:List α}
theorem MkX.start:MkX y c xs k0 (0,[],k0):=⟨az _,rfl,AOi,AOi,xZ _⟩
theorem MkX.room (h:MkX y c xs k0 (i,dn,k1)) (hi:i<xs.length) (hc:∀ k x,k≤c k x) (f:α→List Cl) :
  ((dn++xs.drop i).map f)[i]?=some (f xs[i])∧c k1 xs[i]≤ER c k0 xs∧k0≤k1∧i<((dn++xs.drop i).map f).length:=by
 obtain⟨a1,a2,a3,a4,a5⟩:=h
 dsimp only at *
 refine⟨?_, ?_,a5,AOj⟩
 ·rw[qp,aY AOh,a2,jP,aaV]
  simp[hi]
 ·rw[a4,aG hi]
  exact Es hc _ _
theorem MkX.set (h:MkX y c xs k0 (i,dn,k1)) (hi:i<xs.length) (f:α→List Cl) (z:α):((dn++xs.drop i).map f).set i (f z)=((dn ++ [z])++xs.drop (i+1)).map f:=by
 obtain⟨a1,a2,a3,a4,a5⟩:=h
 dsimp only at *
 rw[← TT,abh _ _ AOh,a2,jP,aG hi,List.set_cons_zero,bM]
 rfl
theorem MkX.step (h:MkX y c xs k0 (i,dn,k1)) (hi:i<xs.length) (hc:∀ k x,k≤c k x):MkX y c xs k0 (i+1,dn ++ [y k1 xs[i]],c k1 xs[i]):=by
 obtain⟨a1,a2,a3,a4,a5⟩:=h
 dsimp only at *
 have:=hc k1 xs[i]
 refine⟨hi,by simp[a2], ?_, ?_,AOl⟩
 ·rw[a3,aG hi,H7,bM]; rfl
 ·rw[a4,aG hi,ER]
theorem MkX.fin (h:MkX y c xs k0 (i,dn,k1)) (hi:i=xs.length):dn++xs.drop i=H7 y c k0 xs∧k1=ER c k0 xs:=by
 obtain⟨a1,a2,a3,a4,a5⟩:=h
 dsimp only at *
 subst hi
 rw[aV] at a3 a4 ⊢
 simp only[H7,ER,bI] at a3 a4 ⊢
 exact⟨a3.symm,a4.symm⟩
end
def HdX {α:Type} (y:Int→α→α) (c:Int→α→Int) (xs:List α) (k0:Int) (x:Nat×Int):Prop:=
 x.1≤xs.length∧(H7 y c k0 xs).drop x.1=H7 y c x.2 (xs.drop x.1)∧ER c k0 xs=ER c x.2 (xs.drop x.1)∧k0≤x.2
section
variable {α:Type} {y:Int→α→α} {c:Int→α→Int} {xs:List α} {k0 k1:Int} {i:Nat}
theorem HdX.start:HdX y c xs k0 (0,k0):=⟨az _,AOi,AOi,xZ _⟩
theorem HdX.room (h:HdX y c xs k0 (i,k1)) (hi:i<xs.length) (hc:∀ k x,k≤c k x) (f:α→List Cl) :
  ((H7 y c k0 xs).map f)[i]?=some (f (y k1 xs[i]))∧c k1 xs[i]≤ER c k0 xs∧k0≤k1:=by
 obtain⟨a1,a2,a3,a4⟩:=h
 dsimp only at *
 refine⟨?_, ?_,a4⟩
 ·have:(H7 y c k0 xs)[i]?=some (y k1 xs[i]):=by
   have h2:((H7 y c k0 xs).drop i)[0]?=(H7 y c k0 xs)[i]?:=by rw[aaV]; rfl
   rw[← h2,a2,aG hi,H7]; rfl
  rw[qp,this]; rfl
 ·rw[a3,aG hi]
  exact Es hc _ _
theorem HdX.step (h:HdX y c xs k0 (i,k1)) (hi:i<xs.length) (hc:∀ k x,k≤c k x):HdX y c xs k0 (i+1,c k1 xs[i]):=by
 obtain⟨a1,a2,a3,a4⟩:=h
 dsimp only at *
 have:=hc k1 xs[i]
 refine⟨hi, ?_, ?_,AOl⟩
 ·have h2:(H7 y c k0 xs).drop (i+1)=((H7 y c k0 xs).drop i).drop 1:=by rw[List.drop_drop]
  simp only
  rw[h2,a2,aG hi,H7]; rfl
 ·rw[a3,aG hi,ER]
theorem HdX.fin (h:HdX y c xs k0 (i,k1)) (hi:i=xs.length):k1=ER c k0 xs:=by
 obtain⟨a1,a2,a3,a4⟩:=h
 dsimp only at *
 subst hi
 rw[aV] at a3
 exact a3.symm
end
theorem AAS {α:Type} {c:Int→α→Int}:∀ (xs:List α) (_:∀ x∈xs,∀ k,k≤c k x) (k:Int),k≤ER c k xs
 | [],_,k=>xZ _
 | x::xs,h,k=>by
  have h1:=AAS xs (fun y hy=>h y AP1) (c k x)
  have h2:=h x AOi k
  simp only[ER]; omega
theorem ADE {α:Type} {c:Int→α→Int} {sz:α→Int→Int}:∀ (xs:List α) (_:∀ x∈xs,∀ k l,0≤sz x l→l≤1048576→c k x+64*sz x l≤k+64*l+64∧sz x l≤l) (k l:Int),0≤Xt sz xs l→l≤1048576→ER c k xs+64*Xt sz xs l≤k+64*l+64*xs.length
 | [],_,k,l,_,_=>by simp[ER,Xt]
 | x::xs,h,k,l,h0,hl=>by
  simp only[Xt] at h0 ⊢
  obtain⟨h1,h2,h3⟩:=AZ h0
  have g1:=h x AOi k l h1 hl
  have g2:=ADE xs (fun y hy=>h y AP1) (c k x) _ h2 AOh
  rw[h3]
  simp only[ER,df,Int.natCast_add,Int.natCast_one]
  omega
theorem KL {α:Type} {c:Int→α→Int} {sz:α→Int→Int} (xs:List α) (h:∀ x∈xs,∀ k l,0≤sz x l→l≤1048576→c k x+64*sz x l≤k+64*l+64∧sz x l≤l) (k:Int) {l:Int} (h0:0≤DW sz xs l) (hl:l≤1048576):ER c k xs+64*DW sz xs l≤k+64*l:=by
 unfold DW at h0 ⊢
 obtain⟨h1,h2,h3⟩:=AZ h0
 have e:=mP h1
 have g2:=ADE xs h k _ h2 AOh
 rw[h3]; omega
theorem Pi {α:Type} {c:Int→α→Int} (hc:∀ k x,c k x≤k+64) (xs:List α) (k l:Int) (h0:0≤Fv xs.length l):ER c k xs+64*Fv xs.length l≤k+64*l:=by
 have e:=mP h0
 have g:=H8 (c:=c) 64 AOh xs (fun x _ k=>hc k x) k
 omega
def qo (k:Int) (_:Int):Int:=k
def mkY (k:Int) (_:Int):Int:=IntKind.u8.wrap k
def Lu (k:Int) (_:Int):Int:=k+1
theorem Jk (k x:Int):k≤Lu k x:=by unfold Lu; omega
theorem Pj (k x:Int):Lu k x≤k+64:=by unfold Lu; omega
theorem MP {x:Int} (h:0≤x):decide (x<0)=false:=AOj
theorem wz {n:Int} (h : -9223372036854775808≤n:=by omega) (h2:n≤9223372036854775807:=by omega):IntKind.i64.wrap n=n:=wrap_i64 h h2
theorem JC:((3:Int)=0)=False:=AOi
theorem Af (a b c:Int):a+b+c=a+(b+c):=Int.add_assoc _ _ _
def xh {α:Type} (P:Program) (f:FuncId) (ty sz:Nat) (e:α→List Cl) (y:Int→α→α) (c:Int→α→Int) (xs:List α) (k:Int):Prop:=
 MCtr P f false [.ow ty sz (xs.map e)] [.c (.v (.int .i64 k))] (fun cl' rs=>cl' = [.ow ty sz ((H7 y c k xs).map e)]∧rs = [.c (.v (.int .i64 (ER c k xs)))])
abbrev HdE {α:Type} (P:Program) (f:FuncId) (e:α→List Cl) (y:Int→α→α) (c:Int→α→Int) (xs:List α) (k:Int):Prop:=
 Ctr P f [.c (.sl ((H7 y c k xs).map e)),.c (.v (.int .i64 k))] [.val (.c (.v (.int .i64 (ER c k xs))))]
theorem ACx {P:Program} {s:MS} {K:MS→Prop} {f:FuncId} {A B C:Prop} {args:List AV} {d:Option Nat} {α:Type} {ty sz l:Nat} {e:α→List Cl} {y:Int→α→α} {c:Int→α→Int} {xs:List α} {k:Int} (h:xh P f ty sz e y c xs k) (hx:args=mkA false [.ref l] :: [.c (.v (.int .i64 k))])
  (ho:OwnL s.st [.ref l] [.ow ty sz (xs.map e)] [] (fun _=>True)) (hk:K (MS.put ⟨s.n,s.env,JI s.st [.ref l] [.ow ty sz ((H7 y c k xs).map e)]⟩ d (retA [.c (.v (.int .i64 (ER c k xs)))]))):PK A (PK B (PK (MutK P f s args d K) C)):=
 ADr false h hx ho rfl (.inr rfl) fun cl' rs hM=>by
  obtain⟨rfl,rfl⟩:=hM
  exact⟨⟨rfl,⟨rfl,rfl⟩,trivial⟩,hk⟩
def mkS {α:Type} (us:List Value) (n ty sz:Nat) (e:α→List Cl) (xs:List α) (x:Nat×List α×Int):MS:=
 ⟨n,[(0,.pin (.c (.ref 0)) (mkV false us)),(1,.c (.v (.int .i64 x.2.2))),(5,.c (.v (.int .i64 x.1)))],[⟨ty,sz,(x.2.1++xs.drop x.1).map e,true,true⟩]⟩
def jG {α:Type} (n:Nat) (e:α→List Cl) (y:Int→α→α) (c:Int→α→Int) (xs:List α) (k:Int) (x:Nat×Int):MS:=
 ⟨n,[(0,.c (.sl ((H7 y c k xs).map e))),(1,.c (.v (.int .i64 x.2))),(5,.c (.v (.int .i64 x.1)))],[]⟩
section
variable {α:Type} {y:Int→α→α} {c:Int→α→Int} {xs:List α} {k0 k1:Int} {i:Nat} {dn:List α}
theorem MkX.len (h:MkX y c xs k0 (i,dn,k1)):(dn++xs.drop i).length=xs.length:=by have h1:=h.1; have h2:=h.2.1; dsimp only at h1 h2; simp; omega
theorem MkX.finL (h:MkX y c xs k0 (i,dn,k1)) (hi:decide ((i:Int)<xs.length)=false):dn++xs.drop i=H7 y c k0 xs∧k1=ER c k0 xs:=h.fin (by have:=h.1; simp at hi; dsimp only at this; omega)
theorem HdX.finL (h:HdX y c xs k0 (i,k1)) (hi:decide ((i:Int)<xs.length)=false):k1=ER c k0 xs:=h.fin (by have:=h.1; simp at hi; dsimp only at this; omega)
end
end Go.Proofs.YtnoldekcdlaahaaGreat
