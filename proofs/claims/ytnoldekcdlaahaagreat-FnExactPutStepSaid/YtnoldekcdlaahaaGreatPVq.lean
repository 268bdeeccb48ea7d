/- A part. -/
import Derived.Test.YtnoldekcdlaahaaGreatPVi
import Derived.Test.YtnoldekcdlaahaaGreatPVj
import Derived.Test.YtnoldekcdlaahaaGreatPVo
import Derived.Test.YtnoldekcdlaahaaGreatPTa
set_option linter.unusedSimpArgs false
set_option linter.unusedVariables false
set_option maxHeartbeats 4000000
set_option maxRecDepth 10000
open Go.Proofs.Tryz
namespace Go.Proofs.YtnoldekcdlaahaaGreat
open Go.Vm
def IW (d:DDir) (r:DRef):DDir:=⟨IntKind.i64.wrap (d.ver+1),d.l ++ [r]⟩
def UG (d:DDir) (r:DRef):Bool:=Il (IW d r)
def VW (d:DDir) (r:DRef):DDir:=if UG d r=true then IW d r else d
theorem ny (d:DDir) (r:DRef) (hl:d.l.length<1048576):Ctr prog 259 [.agg d.c,.agg r.c] [.agg (VW d r).o,.val (.c (.v (.bool (UG d r))))]:=by
 have hl2:d.l.length≤2147483648:=AOQ
 have hl3:(IW d r).l.length≤1048576:=by simp[IW]; omega
 have hm:d.l.map DRef.c ++ [DRef.c r]=(IW d r).l.map DRef.c:=by simp[IW]
 have hm2:=hm
 simp only[go_sem] at hm2
 refine CM call259 func259 ntmps259 results259 fun hw=>?_
 simp only[go_sem]
 have hx:d.l.length≤2147483647∨d.l.length≤1099511627775:=.inl AOQ
 have hd:=RV (IW d r) hl3
 have hc:=U3 d AOQ
 have e1:UG d r=false→VW d r=d:=fun h=>by simp[VW,h]
 have e2:UG d r=true→VW d r=IW d r:=fun h=>by simp[VW,h]
 have e3:UG d r=Il (IW d r):=rfl
 have e4:(IW d r).ver=IntKind.i64.wrap (d.ver+1):=rfl
 refine ACQ 6 8 [0,1,2,3,4,5,6,7,8,9,10,11,12] [0,1,2,3,4,5,7,8,6,9,10,11,12] rfl (by kernel_rfl) (by kernel_rfl) ?_ ?_
 rotate_left
 simp only[go_sem]
 refine ACQ 3 7 [0,1,2,3,4,5,6,7,8,9,10,11,12] [0,1,2,6,7,3,4,5,8,9,10,11,12] rfl (by kernel_rfl) (by kernel_rfl) ?_ ?_
 all_goals
  simp only[go_sem]
  refine ACU 11 9 (by kernel_rfl) ?_
  simp only[go_sem,Om,ae,hl2,hx,aH,BO,hm2]
  refine ACK (args:=[.agg (IW d r).c]) _ (by simp only[DI,go_sem]; try rfl) rfl hd fun _=>?_
  rcases h1:Il (IW d r) with _ | _
  ·simp only[go_sem,h1,aS]
   first | refine CW (hc) fun _=>?_ | (refine ABH ?_; simp only[go_sem]; refine CZ (hc) ?_)
   simp only[go_sem,e3,h1,e1 (e3.trans h1),BO]
   try exact AII
  ·exact AM5
theorem nz (d:DDir) (r:DRef) (hl:d.l.length<1048576):Ctr prog 264 [.agg d.c,.agg r.c] [.agg (VW d r).o,.val (.c (.v (.bool (UG d r))))]:=by
 have hl2:d.l.length≤2147483648:=AOQ
 have hl3:(IW d r).l.length≤1048576:=by simp[IW]; omega
 have hm:d.l.map DRef.c ++ [DRef.c r]=(IW d r).l.map DRef.c:=by simp[IW]
 have hm2:=hm
 simp only[go_sem] at hm2
 have hx:d.l.length≤2147483647∨d.l.length≤1099511627775:=.inl AOQ
 have hd:=RU (IW d r) hl3
 have hc:=TK d AOQ
 have e1:UG d r=false→VW d r=d:=fun h=>by simp[VW,h]
 have e2:UG d r=true→VW d r=IW d r:=fun h=>by simp[VW,h]
 have e3:UG d r=Il (IW d r):=rfl
 have e4:(IW d r).ver=IntKind.i64.wrap (d.ver+1):=rfl
 refine CM call264 func264 ntmps264 results264 fun hw=>?_
 simp only[go_sem]
 refine CW (hc) fun _=>?_
 simp only[go_sem]
 repeat (refine ABH ?_; simp only[go_sem,Om,ae,hl2,hx,aH,BO,hm2])
 try simp only[go_sem,Om,ae,hl2,hx,aH,BO,hm2]
 refine ACK (args:=[.agg (IW d r).c]) _ (by simp only[DI,go_sem]; try rfl) rfl hd fun _=>?_
 rcases h1:Il (IW d r) with _ | _
 ·simp only[go_sem,h1,aS]
  first | refine CW (hc) fun _=>?_ | (refine ABH ?_; simp only[go_sem]; refine CZ (hc) ?_)
  simp only[go_sem,e3,h1,e1 (e3.trans h1),BO]
  try exact AII
 ·exact AM5
def LZ (w:DWorld) (r:DRef):DChunk:=((w.b[r.buf.toNat]?).map DBuf.c0).getD ⟨0,[]⟩
def Iw (c:DChunk) (b:DBuf):DBuf:=⟨b.gen,b.kind,c,b.g⟩
def Dn (w:DWorld) (r:DRef) (c:DChunk):DWorld:=⟨w.c0,w.time,w.t,w.e,w.d,w.b.modify r.buf.toNat (Iw c),w.m,w.x,w.p,w.tasks,w.deeds⟩
def VX (w:DWorld):Bool:=lastB w&&((JG w).kind==1)
def Be (w:DWorld) (t:DTask) (l:List DRef) (pc:Int):DTask:=⟨t.op,pc,t.h,t.r,t.id,t.q,t.ts,w.d.ver,l,t.i,t.j,t.s,t.at0,t.own,t.won,t.got⟩
def Cj (t:DTask) (i:Int):DTask:=⟨t.op,3,t.h,t.r,IntKind.i64.wrap ((l0 t).first+i),t.q,t.ts,t.ver,t.l,i,t.j,t.s,t.at0,t.own,t.won,t.got⟩
def BP (t:DTask) (own pc:Int):DTask:=⟨t.op,pc,t.h,t.r,t.id,t.q,t.ts,t.ver,t.l,t.i,t.j,t.s,t.at0,own,t.won,t.got⟩
def idD (id:Int) (d:DDeed):DDeed:=⟨d.op,d.task,d.r,id,d.q,d.res,d.code,d.stamp,d.inv,d.lin,d.ret⟩
def EM (w:DWorld) (h:Nat) (g:DDeed→DDeed):DWorld:=⟨w.c0,w.time,w.t,w.e,w.d,w.b,w.m,w.x,w.p,w.tasks,w.deeds.modify h g⟩
def Di (w:DWorld) (b:List DBuf):DWorld:=⟨w.c0,w.time,w.t,w.e,w.d,b,w.m,w.x,w.p,w.tasks,w.deeds⟩
def E_ (w:DWorld) (r:DRef) (j:Nat) (id s a:Int):DWorld:=
 if NK ((((LZ w r).l[j]?).map DSlot.ins).getD 0) s=true then⟨w.c0,w.time,w.t,w.e,w.d,w.b.modify r.buf.toNat (Bh j s),w.m,w.x,w.p,w.tasks,Zi w.deeds (Nv w.deeds id) s a⟩ else w
def DX (w:DWorld) (b:Int):DRef:=⟨b,((w.b[b.toNat]?).map DBuf.gen).getD 0,1,endOf w.d,w.c0.slots⟩
def A_ (w:DWorld) (d:DDir):DWorld:=⟨w.c0,w.time,w.t,w.e,d,w.b,w.m++List.replicate w.c0.slots.toNat 0,w.x,w.p,w.tasks,w.deeds⟩
def DV (w:DWorld) (t:DTask):DWorld:=Di w (Oo w.b (t.own-1))
noncomputable def Dt (w:DWorld) (n:Nat) (t:DTask):DWorld:=
 if(t.pc==0)=true then Ce w n t else
 if(t.pc==1)=true then(if VX w=true then setT w n (Be w t [JG w] 2) else setT w n (Be w t [] 5)) else
 if(t.pc==2)=true then(if BX (LZ w (l0 t)) (LZ w (l0 t)).next=true then setT (EM (Dn w (l0 t) (MM (LZ w (l0 t)))) t.h.toNat (idD (IntKind.i64.wrap ((l0 t).first+(LZ w (l0 t)).next)))) n (Cj t (LZ w (l0 t)).next) else setT w n (Ed t 5)) else
 if(t.pc==3)=true then setT (Dn w (l0 t) (iE (LZ w (l0 t)) t.i t.r)) n (Ed t 4) else
 if(t.pc==4)=true then setT w n (Ag w t 6) else
 if(t.pc==5)=true then(if GN w.b<0 then codeW w n t 3 else setT (Di w (QI w.b w.c0.slots)) n (BP t (GN w.b+1) 8)) else
 if(t.pc==6)=true then setT (E_ w (l0 t) t.i.toNat (IntKind.i64.wrap ((l0 t).first+t.i)) t.s t.at0) n (Ed t 7) else
 if(t.pc==8)=true then(if(t.ver != w.d.ver)=true then setT (DV w t) n (BP t 0 1) else
  if UG w.d (DX w (t.own-1))=true then setT (A_ w (IW w.d (DX w (t.own-1)))) n (BP t 0 1) else codeW (DV w t) n (BP t 0 9) 3) else
 endW w n t.h.toNat
noncomputable def Q4 (w:DWorld) (k:Int):DWorld:=if MC w k 1=true then EJ (Dt w k.toNat (Jm w k)) else w
theorem Pm {w:DWorld} {k:Int} (h:MC w k 1=false):Q4 w k=w:=by simp[Q4,h]
theorem ABn {t:DTask} {k:Int} (h:G8 t k=true):0≤t.i∧0≤t.own:=by
 simp only[G8,ay] at h
 have g:=aJ.1 h.2.2.2.2.1
 exact⟨by simpa [CP] using g t.i (by simp[numsL]),by simpa [CP] using g t.own (by simp[numsL])⟩
theorem Md {w:DWorld} {t:DTask} {d:DDeed} {k:Int} (h:swB w t d=true) (hok:G8 t k=true) (hth:t.l.all (there w)=true) (h2:t.op=1) (h3:(Ad t.pc 2 4||Ad t.pc 6 7)=true) :
  ∃ (r:DRef) (q:Nat) (hq:q<w.b.length),t.l = [r]∧there w r=true∧(r.kind==1)=true∧r.buf=(q:Int)∧O3 w r.buf=some w.b[q]∧LZ w r=w.b[q].c0∧(t.pc≠2→∃ j:Nat,t.i=j∧j<w.b[q].c0.l.length):=by
 have e1:(t.op==1)=true:=by rw[h2]; rfl
 simp only[swB,e1,bf,ACC,ay,r_,iP,aZ,aaV] at h
 obtain⟨_,_,h4⟩:=h
 have h4:=h4.resolve_left fun h5=>by simp[h5.1,h5.2] at h3
 obtain⟨h5,h6,h7⟩:=h4
 obtain⟨r,hr⟩:=List.length_eq_one_iff.1 (show t.l.length=1 from AOQ)
 have e3:l0 t=r:=by simp[l0,hr]
 rw[e3] at h6 h7
 have hkr:(r.kind==1)=true:=by simpa using h6
 have hthr:there w r=true:=by rw[hr] at hth; simpa using hth
 obtain⟨q,hq,hb,hat⟩ | ⟨_,hat⟩:=FB w r.buf
 rotate_left
 ·simp only[there,hat] at hthr; cases hthr
 refine⟨r,q,hq,hr,hthr,hkr,hb,hat,by simp[LZ,hb,hq],fun h8=>?_⟩
 have h9:=h7.resolve_left h8
 obtain⟨j,hj⟩:=aQ (ABn hok).1
 exact⟨j,hj,by have:=AC1 hthr hkr hat; omega⟩
theorem jr {w:DWorld} {t:DTask} (h:ownB w t=true) (h2:t.op=1) (h3:t.pc=8):∃ (q:Nat),q<w.b.length∧t.own=(q:Int)+1:=by
 have e1:((t.op==1)&&(t.pc==8))=true:=by rw[h2,h3]; rfl
 simp only[ownB,e1,bf,TV,ay,Ad,aZ] at h
 exact⟨(t.own-1).toNat,AOQ,AOQ⟩
theorem jv {w:DWorld} (h:Ec w=true):w.d.l.length≤8:=by
 unfold Ec Il at h
 simp only[ay,aaV,aaA] at h
 omega
theorem Q5 {w:DWorld} (h:Ec w=true):1≤w.c0.slots∧w.c0.slots≤4:=by
 unfold Ec headB L8 Ad at h
 simp only[ay,aZ] at h
 omega
end Go.Proofs.YtnoldekcdlaahaaGreat
