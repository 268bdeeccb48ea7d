/- A part. -/
import Derived.Test.YtnoldekcdlaahaaGreatZs
import Derived.Test.YtnoldekcdlaahaaGreatZp
import Derived.Test.YtnoldekcdlaahaaGreatAa
import Derived.Deep.RegionLaw
import Derived.Test.YtnoldekcdlaahaaGreatZc
import Derived.Test.YtnoldekcdlaahaaGreatZf
set_option linter.unusedSimpArgs false
set_option linter.unusedVariables false
set_option maxHeartbeats 8000000
set_option maxRecDepth 100000
open Go.Proofs.Tryz
namespace Go.Proofs.YtnoldekcdlaahaaGreat
open Go.Vm
section
variable {p q r:Prop}
theorem AQH(h:p:=by kernel_rfl):p:=h
theorem AQI(h:p:=by intro w; go_simp):p:=h
end
theorem Yr (w:DWorld) (hf:AX w):Ctr prog 85 [.agg w.c] [.val (.c (.v (.bool (Xl w))))]:=by
 refine CM call85 func85 ntmps85 results85 fun hw=>?_
 have hld:=ABW hf
 unfold Xl
 simp only[go_sem]
 refine AB4 1 (A:=Nat) (fun x=>[(3,.c (.v (.int .i64 (x))))]) (fun _=>[⟨44,14,[w.c],true,true⟩]) (Ea w.deeds (deed1 w)) (fun x=>w.deeds.length-x) 0 ⟨⟨rfl,rfl⟩,rfl,Ce⟩ ?_
 intro j hj
 refine AOb (fun h=>?_) fun h=>?_
 ·have hj':j<w.deeds.length:=by simpa using h
  simp only[go_sem,AA _ hj',hj']
  try refine AAm ?_
  try simp only[go_sem,AA _ hj',hj']
  first | refine CY (WG w.deeds[j]) ?_ | refine CW (WG w.deeds[j]) fun _=>?_
  rcases q1:Fg w.deeds[j] with _ | _
  ·simp only[go_sem,q1,BH (p:=deed1 w) hj' (by simp only[deed1,q1,ai])]
  rcases q2:decide (w.deeds[j].inv≥w.time) with _ | _
  rotate_left
  ·simp only[go_sem,q1,q2,BH (p:=deed1 w) hj' (by simp only[deed1,q1,q2]; rfl)]
  rcases q3:decide (w.deeds[j].lin≥w.time) with _ | _
  rotate_left
  ·simp only[go_sem,q1,q2,q3,BH (p:=deed1 w) hj' (by simp only[deed1,q1,q2,q3]; rfl)]
  rcases q4:decide (w.deeds[j].ret≥w.time) with _ | _
  rotate_left
  ·simp only[go_sem,q1,q2,q3,q4,BH (p:=deed1 w) hj' (by simp only[deed1,q1,q2,q3,q4]; rfl)]
  exact AML
 have hj':j=w.deeds.length:=AO9
 subst hj'
 simp only[go_sem,CV hj]
noncomputable def WU (w:DWorld):Bool:=headB w&&(MN w.d&&(!decide (w.d.ver>1000000)&&(((w.p.length:Int)==5)&&(Oz w.p w.e&&(((w.tasks.length:Int)==5)&&(Xl w&&(mG w&&(w.d.l.all (WX w)&&(Ru w&&qi w)))))))))
theorem ik (w:DWorld) (hf:AX w):Ctr prog 28 [.agg w.c] [.val (.c (.v (.bool (WU w))))]:=by
 refine CM call28 func28 ntmps28 results28 fun hw=>?_
 have hlt:=NV hf
 unfold WU headB
 simp only[go_sem,bi,aU,aN]
 try refine AAm ?_
 try simp only[go_sem]
 first | refine CY (WJ w.c0) ?_ | refine CW (WJ w.c0) fun _=>?_
 rcases h1:Nw w.c0 with _ | _
 ·simp only[go_sem,h1,ai,aj,aH]
 simp only[go_sem,h1,aj]
 try refine AAm ?_
 try simp only[go_sem]
 first | refine AB5 _ (AP w.time 0 1000000) ?_ | refine AAT _ (AP w.time 0 1000000) fun _=>?_
 rcases h2:Aa w.time 0 1000000 with _ | _
 ·simp only[go_sem,h2,ai,aj,aH]
 simp only[go_sem,h2,aj]
 try refine AAm ?_
 try simp only[go_sem]
 first | refine AB5 _ (AP w.t 1 1000000) ?_ | refine AAT _ (AP w.t 1 1000000) fun _=>?_
 rcases h3:Aa w.t 1 1000000 with _ | _
 ·simp only[go_sem,h3,ai,aj,aH]
 simp only[go_sem,h3,aj]
 try refine AAm ?_
 try simp only[go_sem]
 first | refine AB5 _ (AP w.e 0 1000000) ?_ | refine AAT _ (AP w.e 0 1000000) fun _=>?_
 rcases h4:Aa w.e 0 1000000 with _ | _
 ·simp only[go_sem,h4,ai,aj,aH]
 simp only[go_sem,h4,aj]
 try refine AAm ?_
 try simp only[go_sem]
 first | refine CY (Ym w.d (lenD hf)) ?_ | refine CW (Ym w.d (lenD hf)) fun _=>?_
 rcases h5:MN w.d with _ | _
 ·simp only[go_sem,h5,ai,aj,aH]
 simp only[go_sem,h5,aj]
 rcases h6:decide (w.d.ver>1000000) with _ | _
 rotate_left
 ·exact AOQ
 rcases h12:((w.p.length:Int)==5) with _ | _
 ·have g:((w.p.length:Int) != 5)=true:=by simp only[bne,h12,aK]
  simp only[go_sem,h6,g,aK,ai,aj]
  try refine AAm ?_
  try simp only[go_sem,h6,g]
 have g12:((w.p.length:Int) != 5)=false:=by simp only[bne,h12,aJ]
 simp only[go_sem,h6,g12,aK,aj]
 try refine AAm ?_
 try simp only[go_sem,h6,g12]
 first | refine AB5 _ (WN w.p w.e (AGK hf)) ?_ | refine AAT _ (WN w.p w.e (AGK hf)) fun _=>?_
 rcases h13:Oz w.p w.e with _ | _
 ·simp only[go_sem,h13,ai]
 rcases h11:((w.tasks.length:Int)==5) with _ | _
 ·have g:((w.tasks.length:Int) != 5)=true:=by simp only[bne,h11,aK]
  simp only[go_sem,h13,g,ai,aj]
  try refine AAm ?_
  try simp only[go_sem,h13,g]
 have g11:((w.tasks.length:Int) != 5)=false:=by simp only[bne,h11,aJ]
 simp only[go_sem,h13,g11,aj]
 try refine AAm ?_
 try simp only[go_sem,h13,g11]
 try refine AAm ?_
 try simp only[go_sem]
 first | refine CY (Yr w hf) ?_ | refine CW (Yr w hf) fun _=>?_
 rcases h7:Xl w with _ | _
 ·simp only[go_sem,h7,ai,aj,aH]
 simp only[go_sem,h7,aj]
 try refine AAm ?_
 try simp only[go_sem]
 first | refine CY (jF w hf) ?_ | refine CW (jF w hf) fun _=>?_
 rcases h8:mG w with _ | _
 ·simp only[go_sem,h8,ai,aj,aH]
 simp only[go_sem,h8,aj]
 try refine AAm ?_
 try simp only[go_sem]
 first | refine CY (mJ w hf) ?_ | refine CW (mJ w hf) fun _=>?_
 rcases h9:w.d.l.all (WX w) with _ | _
 ·simp only[go_sem,h9,ai,aj,aH]
 simp only[go_sem,h9,aj]
 try refine AAm ?_
 try simp only[go_sem]
 first | refine CY (Yq w hf) ?_ | refine CW (Yq w hf) fun _=>?_
 rcases h10:Ru w with _ | _
 ·simp only[go_sem,h10,ai,aj,aH]
 simp only[go_sem,h10,aj]
 have hl5:w.tasks.length=w.p.length:=by
  exact AN2
 unfold qi
 refine AB4 1 (A:=Nat) (fun x=>[(3,.c (.v (.int .i64 (x))))]) (fun _=>[⟨44,14,[w.c],true,true⟩]) (xK w.tasks fun k t=>PW w k t (w.p[k]?.getD 0)) (fun x=>w.tasks.length-x) 0 ⟨⟨rfl,rfl⟩,rfl,qh⟩ ?_
 intro k hk
 refine AOb (fun h=>?_) fun h=>?_
 ·have hk':k<w.tasks.length:=by simpa using h
  have hp:k<w.p.length:=AOh
  have e1:(w.p[k]?.getD 0)=w.p[k]:=by rw[au hp]; rfl
  simp only[go_sem,AA _ hk',hk']
  try refine AAm ?_
  try simp only[go_sem,AA _ hk',hk']
  first | refine CY (SK w k hf hk' hp) ?_ | refine CW (SK w k hf hk' hp) fun _=>?_
  rcases h14:PW w k w.tasks[k] w.p[k] with _ | _
  ·simp only[go_sem,h14,JL (p:=fun k t=>PW w k t (w.p[k]?.getD 0)) hk' (by rw[e1]; exact h14)]
  ·exact AMk
 have hk':k=w.tasks.length:=by have:=hk.1; simp at h; omega
 subst hk'
 rw[TP hk]
 exact AIk
theorem LM (w:DWorld) (hf:AX w):Ctr prog 39 [.agg w.c] [.val (.c (.v (.bool (DY w))))]:=by
 refine CM call39 func39 ntmps39 results39 fun hw=>?_
 have hlt:=NV hf
 have hld:=ABW hf
 unfold DY headB
 simp only[go_sem]
 try refine AAm ?_
 try simp only[go_sem]
 first | refine CY (WI w.c0) ?_ | refine CW (WI w.c0) fun _=>?_
 rcases h1:Nw w.c0 with _ | _
 ·simp only[go_sem,h1,ai,aj,aH]
 simp only[go_sem,h1,aj]
 try refine AAm ?_
 try simp only[go_sem]
 first | refine AB5 _ (AL w.time 0 1000000) ?_ | refine AAT _ (AL w.time 0 1000000) fun _=>?_
 rcases h2:Aa w.time 0 1000000 with _ | _
 ·simp only[go_sem,h2,ai,aj,aH]
 simp only[go_sem,h2,aj]
 try refine AAm ?_
 try simp only[go_sem]
 first | refine AB5 _ (AL w.t 1 1000000) ?_ | refine AAT _ (AL w.t 1 1000000) fun _=>?_
 rcases h3:Aa w.t 1 1000000 with _ | _
 ·simp only[go_sem,h3,ai,aj,aH]
 simp only[go_sem,h3,aj]
 try refine AAm ?_
 try simp only[go_sem]
 first | refine AB5 _ (AL w.e 0 1000000) ?_ | refine AAT _ (AL w.e 0 1000000) fun _=>?_
 rcases h4:Aa w.e 0 1000000 with _ | _
 ·simp only[go_sem,h4,ai,aj,aH]
 simp only[go_sem,h4,aj]
 try refine AAm ?_
 try simp only[go_sem]
 first | refine CY (Yl w.d (lenD hf)) ?_ | refine CW (Yl w.d (lenD hf)) fun _=>?_
 rcases h5:MN w.d with _ | _
 ·simp only[go_sem,h5,ai,aj,aH]
 simp only[go_sem,h5,aj]
 rcases h6:decide (w.d.ver>1000000) with _ | _
 rotate_left
 ·exact AOQ
 simp only[go_sem,h6,aK,aj]
 try refine AAm ?_
 try simp only[go_sem]
 first | refine CY (iZ w hf) ?_ | refine CW (iZ w hf) fun _=>?_
 rcases h7:lq w with _ | _
 ·simp only[go_sem,h7,ai,aj,aH]
 simp only[go_sem,h7,aj]
 try refine AAm ?_
 try simp only[go_sem]
 first | refine CY (Yp w hf) ?_ | refine CW (Yp w hf) fun _=>?_
 rcases h8:Ru w with _ | _
 ·simp only[go_sem,h8,ai,aj,aH]
 simp only[go_sem,h8,aj]
 try refine AAm ?_
 try simp only[go_sem]
 first | refine CY (Yw w hf) ?_ | refine CW (Yw w hf) fun _=>?_
 rcases h9:iU w with _ | _
 ·simp only[go_sem,h9,ai,aj,aH]
 simp only[go_sem,h9,aj]
 try refine AAm ?_
 try simp only[go_sem]
 first | refine CY (ig w hf) ?_ | refine CW (ig w hf) fun _=>?_
 rcases h10:iV w with _ | _
 ·simp only[go_sem,h10,ai,aj,aH]
 simp only[go_sem,h10,aj]
 rcases h11:((w.tasks.length:Int)==5) with _ | _
 ·have g:((w.tasks.length:Int) != 5)=true:=by simp only[bne,h11,aK]
  simp only[go_sem,g,ai]
  try refine AAm ?_
  try simp only[go_sem,g]
 have g11:((w.tasks.length:Int) != 5)=false:=by simp only[bne,h11,aJ]
 rcases h12:((w.p.length:Int)==5) with _ | _
 ·have g:((w.p.length:Int) != 5)=true:=by simp only[bne,h12,aK]
  simp only[go_sem,g11,g,ai,aj]
  try refine AAm ?_
  try simp only[go_sem,g11,g]
 have g12:((w.p.length:Int) != 5)=false:=by simp only[bne,h12,aJ]
 simp only[go_sem,g11,g12,aj]
 try refine AAm ?_
 try simp only[go_sem,g11,g12]
 first | refine AB5 _ (WM w.p w.e (AGK hf)) ?_ | refine AAT _ (WM w.p w.e (AGK hf)) fun _=>?_
 rcases h13:Oz w.p w.e with _ | _
 ·simp only[go_sem,h13,ai]
 simp only[go_sem,h13,aj]
 have hl5:w.tasks.length=w.p.length:=by
  exact AN2
 unfold qi
 refine AB4 1 (A:=Nat) (fun x=>[(79,.c (.v (.int .i64 (x))))]) (fun _=>[⟨44,14,[w.c],true,true⟩]) (xK w.tasks fun k t=>PW w k t (w.p[k]?.getD 0)) (fun x=>w.tasks.length-x) 0 ⟨⟨rfl,rfl⟩,rfl,qh⟩ ?_
 intro k hk
 refine AOb (fun h=>?_) fun h=>?_
 ·have hk':k<w.tasks.length:=by simpa using h
  have hp:k<w.p.length:=AOh
  have e1:(w.p[k]?.getD 0)=w.p[k]:=by rw[au hp]; rfl
  simp only[go_sem,AA _ hk',hk']
  try refine AAm ?_
  try simp only[go_sem,AA _ hk',hk']
  first | refine CY (SE w k hf hk' hp) ?_ | refine CW (SE w k hf hk' hp) fun _=>?_
  rcases h14:PW w k w.tasks[k] w.p[k] with _ | _
  ·simp only[go_sem,h14,JL (p:=fun k t=>PW w k t (w.p[k]?.getD 0)) hk' (by rw[e1]; exact h14),ai]
  ·exact AMk
 have hk':k=w.tasks.length:=by have:=hk.1; simp at h; omega
 subst hk'
 rw[TP hk,aj]
 unfold Xl
 simp only[go_sem]
 refine AB4 1 (A:=Nat) (fun x=>[(90,.c (.v (.int .i64 (x))))]) (fun _=>[⟨44,14,[w.c],true,true⟩]) (Ea w.deeds (deed1 w)) (fun x=>w.deeds.length-x) 0 ⟨⟨rfl,rfl⟩,rfl,Ce⟩ ?_
 intro j hj
 refine AOb (fun h=>?_) fun h=>?_
 ·have hj':j<w.deeds.length:=by simpa using h
  simp only[go_sem,AA _ hj',hj']
  try refine AAm ?_
  try simp only[go_sem,AA _ hj',hj']
  first | refine CY (WH w.deeds[j]) ?_ | refine CW (WH w.deeds[j]) fun _=>?_
  rcases q1:Fg w.deeds[j] with _ | _
  ·simp only[go_sem,q1,BH (p:=deed1 w) hj' (by simp only[deed1,q1,ai]),ai]
  rcases q2:decide (w.deeds[j].inv≥w.time) with _ | _
  rotate_left
  ·simp only[go_sem,q1,q2,BH (p:=deed1 w) hj' (by simp only[deed1,q1,q2]; rfl),ai]
  rcases q3:decide (w.deeds[j].lin≥w.time) with _ | _
  rotate_left
  ·simp only[go_sem,q1,q2,q3,BH (p:=deed1 w) hj' (by simp only[deed1,q1,q2,q3]; rfl),ai]
  rcases q4:decide (w.deeds[j].ret≥w.time) with _ | _
  rotate_left
  ·simp only[go_sem,q1,q2,q3,q4,BH (p:=deed1 w) hj' (by simp only[deed1,q1,q2,q3,q4]; rfl),ai]
  exact AML
 have hj':j=w.deeds.length:=AO9
 subst hj'
 rw[CV hj,aj]
 simp only[go_sem]
 try refine AAm ?_
 try simp only[go_sem]
 first | refine CY (SI w hf) ?_ | refine CW (SI w hf) fun _=>?_
 exact AIk
theorem AGL (w:DWorld) (r:DRef) {x:DRow} (hx:x∈C_ w r):0≤x.id∧x.id≤1000000000:=by
 unfold C_ at hx
 split at hx
 ·simp at hx
 ·rename_i b hb
  rcases h:DK w.c0.cols b.g with _ | l
  ·rw[h] at hx; simp at hx
  ·rw[h] at hx
   have:=(TI (SA h)).2.2 x hx
   exact⟨this.1,this.2.1⟩
theorem lu {α:Type} {l:List α} {p q:α→Bool} (h:∀ x∈l,p x=q x):l.all p=l.all q:=by
 rw[Bool.eq_iff_iff,aP,aP]
 exact⟨fun h2 x hx=>by rw[← h x hx]; exact h2 x hx,fun h2 x hx=>by rw[h x hx]; exact h2 x hx⟩
theorem AIK {w:DWorld} (hd:MN w.d=true):w.d.l.all (WX w)=iU w:=by
 refine lu fun r hr=>?_
 obtain⟨h1,h2,h3⟩:=ACq hd hr
 unfold WX Rt lg
 rcases ht:there w r with _ | _
 ·simp only[ai]
 rcases k1:r.kind==1 with _ | _
 ·have k2:=jB h1 k1
  rw[k2]
  simp only[aj,ai,aK,aC,aW,aX]
  refine lu fun x hx=>?_
  have hi:=AGL w r hx
  exact(ACr h1 h2 h3 x.id AOh).symm
 ·have k2:(r.kind==2)=false:=by
   have:r.kind=1:=by simpa using k1
   rw[this]; rfl
  rw[k2]
  rcases hm:r.many==w.c0.slots with _ | _<;>simp[bne,hm]
theorem AGM {w:DWorld} (hd:MN w.d=true):mG w=(lq w&&(iV w&&WT w)):=by
 have h:Rw w.b (Qj w)=(w.b.all (PU w)&&Rw w.b (QT w)):=by
  rw[Bool.eq_iff_iff,ay,TQ,TQ,aP]
  constructor
  ·intro h
   refine⟨fun x hx=>?_,fun k hk=>?_⟩
   ·obtain⟨i,hi,rfl⟩:=abo.1 hx
    have:=h i hi
    simp only[Qj,ay] at this
    exact this.1
   ·have:=h k hk
    simp only[Qj,ay,xM hd] at this
    exact this.2
  ·rintro⟨h1,h2⟩ k hk
   simp only[Qj,ay,xM hd]
   exact⟨h1 _ (ax hk),h2 k hk⟩
 unfold mG lq WT
 rw[h]
 ac_rfl
theorem xP (w:DWorld):WU w=DY w:=by
 unfold WU DY
 rcases hd:MN w.d with _ | _
 ·simp only[ai]
 rw[AIK hd,AGM hd]
 ac_rfl
theorem LP (w:DWorld) (hf:AX w):Ctr prog 28 [.agg w.c] [.val (.c (.v (.bool (DY w))))]:=by
 rw[← xP]
 exact ik w hf
def TV (w:DWorld):Bool:=decide (w.time<1000000)&&(decide (w.t<1000000)&&(decide (w.e<1000000)&&decide (w.d.ver<1000000)))
def qj (w:DWorld):Bool:=w.time==1000000||(w.t==1000000||(w.e==1000000||w.d.ver==1000000))
theorem Rx (w:DWorld):Ctr prog 239 [.agg w.c] [.val (.c (.v (.bool (qj w))))]:=by
 refine CM call239 func239 ntmps239 results239 fun hw=>?_
 rcases h1:w.time==1000000 with _ | _<;>rcases h2:w.t==1000000 with _ | _<;>rcases h3:w.e==1000000 with _ | _ <;>
  simp only[go_sem,h1,h2,h3,qj,cZ,bT]
theorem lw {w:DWorld} (h:DY w=true):qj w = !TV w:=by
 unfold DY headB at h
 simp only[ay,aa4,aaL,Aa,bf] at h
 obtain⟨⟨_,⟨_,h1⟩,⟨_,h2⟩,⟨_,h3⟩⟩,_,h4,_⟩:=h
 have key:∀ x:Int,x≤1000000→(x==1000000) = !decide (x<1000000):=fun x hx=>by
  by_cases e:x=1000000
  ·subst e; rfl
  ·have e1:(x==1000000)=false:=by simpa using e
   have e2:decide (x<1000000)=true:=AOj
   rw[e1,e2]; rfl
 unfold qj TV
 rw[key _ h1,key _ h2,key _ h3,key _ AOh]
 simp only[Bool.not_and]
def ABX:DResult:=⟨[],0,false,⟨0,0,ByteArray.empty⟩⟩
def CX:DTask:=⟨0,0,0,[],0,IU,0,0,[],0,0,0,0,0,false,[]⟩
def AGN (w:DWorld) (t:DTask):DTask:=⟨t.op,t.pc,(w.deeds.length:Int),t.r,t.id,t.q,t.ts,t.ver,t.l,t.i,t.j,t.s,t.at0,t.own,t.won,t.got⟩
def AGO (w:DWorld) (k:Int) (t:DTask) (d:DDeed):DDeed:=⟨t.op,k,d.r,d.id,d.q,d.res,d.code,d.stamp,w.time,-1,-1⟩
def Cf (w:DWorld) (code:Int) (d:DDeed):DDeed:=⟨d.op,d.task,d.r,d.id,d.q,d.res,code,d.stamp,d.inv,w.time,d.ret⟩
def Ry (w:DWorld) (d:DDeed):DDeed:=⟨d.op,d.task,d.r,d.id,d.q,d.res,d.code,d.stamp,d.inv,d.lin,w.time⟩
def endW (w:DWorld) (k h:Nat):DWorld:=⟨w.c0,w.time,w.t,w.e,w.d,w.b,w.m,w.x,w.p.set k (-1),w.tasks.set k CX,w.deeds.modify h (Ry w)⟩
def Dj (w:DWorld):DWorld:=⟨w.c0,IntKind.i64.wrap (w.time+1),w.t,w.e,w.d,w.b,w.m,w.x,w.p,w.tasks,w.deeds⟩
open Go.RowKit
theorem AEq {w0:Bs} {St0 St:Nat→Nat→Prop} {β:Nat→Option Nat} {s:MS} {a:Act} {w:World} (h:Core w0 St0 St β s a w) {ob:Ob} {b:Nat} {l0:Nat} (hl:s.st[l0]?=some ob) (hlive:ob.live=true) (hwr:ob.wr=true) (hβ:β l0=some b)
  {a':Act} {w':World} {d cap:Nat} {rows:List (List Cl)} {cs:Array Value}
  (h1:a'.defers = []) (h2:a'.tmps.size=a.tmps.size) (h3:a'.tmps.getD d undef = .slice (some ⟨b,0,none⟩) rows.length cap)
  (hB:Below 0 w w') (hk:∀ k,k≠b→w'.heap[k]?=w.heap[k]?) (hsz:qx w' b=qx w b)
  (hc:w'.heap[b]?=some (.cells cs ob.ty (0,0))) (hcs:cs.size=cap*ob.sz) (hcap:rows.length≤cap) (hmax:cap≤maxLen)
  (hr:∀ x∈rows,x.length=ob.sz) (hv:∀ (k:Nat) (c:Cl),rows.flatten[k]?=some c→∃ y,cs[k]?=some y∧c = .v y∧QZ y=true) :
  Core w0 St0 St (fun _=>some b) ⟨s.n,[(d,.c (.ref 0))],[⟨ob.ty,ob.sz,rows,true,true⟩]⟩ a' w':=by
 obtain⟨g1,g2,g3⟩:=h.obs l0 ob b hl hlive hβ
 exact {
  defers:=h1
  size:=h2.trans h.size
  lim:=h.lim
  env:=fun i=>by
   simp only[Cb]
   by_cases e:d=i
   ·subst e
    have hd:d<1000000:=by
     rcases bQ d a'.tmps.size with h' | h'
     ·exact bP h' (by rw[h2,h.size]; exact h.lim)
     ·simp[h',undef] at h3
    simp only[aX,AVR,RdC,BN,aQ]
    rw[Tc hd,h3]
    exact⟨rfl,fun _=>⟨cap,cs,rfl,hcap,hmax,hc,hcs⟩⟩
   ·simp only[e,aW,AVR]
  below:=h.below.step hB (fun k hk1 hk2=>hk k fun e=>by
    subst e
    rcases g1 with g1 | g1
    ·omega
    ·exact hk2 g1) (fun k _=>by
    by_cases e:k=b
    ·subst e; exact hsz
    ·exact oN (hk k e))
  st0:=h.st0
  stOld:=h.stOld
  stIn:=fun x o hx=>bP (h.stIn x o hx) hB.size
  obs:=fun l o x hl2 hlv hx=>by
   cases hx
   rcases l with _ | l
   ·simp only[aQ,ak] at hl2
    subst hl2
    refine⟨g1,bP g2 hB.size,cs,hc,hr,fun k c hkc=>?_⟩
    obtain⟨y,q1,rfl,q3⟩:=hv k c hkc
    exact⟨y,q1,by simp only[RdB,RdC,RdD]; exact⟨trivial,q3⟩⟩
   ·simp at hl2
  nil:=fun l o _ _ hx=>by cases hx
  inj:=fun l l' o1 o2 x q1 q2 _ _ _ _=>by
   rcases l with _ | l<;>rcases l' with _ | l'
   ·rfl
   ·simp at q2
   ·simp at q1
   ·simp at q1
  sep:=fun l o x k hl2 hlv hx hs=>by
   cases hx
   have:=(h.sep l0 ob b k hl hlive hβ hs).1
   rw[hwr] at this
   cases this
  own:=⟨fun _ _ _=>False,fun l o x k c hl2 hlv hx hkc how=>by
   rcases l with _ | l
   ·simp only[aQ,ak] at hl2
    subst hl2
    obtain⟨y,_,rfl,_⟩:=hv k c hkc
    cases how
   ·simp at hl2,fun _ _ _ hx=>hx.elim,fun _ _ _ _ _ hx=>hx.elim⟩ }
theorem AEr {a:Act} {n:Nat} (h:a.tmps.size=n):∃ l:List Value,a.tmps=l.toArray∧l.length=n:=⟨a.tmps.toList,AOi,AO7⟩
theorem Dv {α:Type} {l:List α} {n:Nat} (h:l.length=n+1):∃ x t,l=x::t∧t.length=n:=by
 cases l with
 | nil=>simp at h
 | cons x t=>exact⟨x,t,rfl,AO7⟩
theorem UA (b:Nat) (ty:TypeId):∀ (vs:List Value) (o:Nat) (w:World) (cs:Array Value),w.heap[b]?=some (.cells cs ty (0,0))→o+vs.length≤cs.size →
  ∃ cs':Array Value,(w.setCells b o vs).heap[b]?=some (.cells cs' ty (0,0))∧cs'.size=cs.size∧(∀ k,cs'[k]?=if o≤k∧k<o+vs.length then vs[k-o]? else cs[k]?)∧(∀ k,k≠b→(w.setCells b o vs).heap[k]?=w.heap[k]?)∧Below 0 w (w.setCells b o vs)
 | [],o,w,cs,h,_=>⟨cs,h,rfl,fun k=>by rw[aZ (by simp only[y7]; omega)],fun _ _=>rfl,Below.refl _ _⟩
 | v::vs,o,w,cs,h,hl=>by
  have hl':o+1+vs.length≤(cs.setIfInBounds o v).size:=by simp at hl ⊢; omega
  have h1:(w.setCell ⟨b,o,none⟩ v).heap[b]?=some (.cells (cs.setIfInBounds o v) ty (0,0)):=by
   show (w.heap.modify b _)[b]?=_
   rw[Array.getElem?_modify,bu rfl,h]
   rfl
  obtain⟨cs',g1,g2,g3,g4,g5⟩:=UA b ty vs (o+1) (w.setCell ⟨b,o,none⟩ v) _ h1 hl'
  refine⟨cs',g1,by rw[g2]; simp,fun k=>?_,fun k hk=>?_, ?_⟩
  ·rw[g3]
   simp only[df]
   by_cases e:k=o
   ·subst e
    rw[aZ AOh,bu AOh,Array.getElem?_setIfInBounds,bu rfl,bu (by simp at hl; omega),jP]
    rfl
   ·by_cases e2:o+1≤k∧k<o+1+vs.length
    ·rw[bu e2,bu AOh,show k-o=(k-(o+1))+1 from AOh]
     rfl
    ·rw[aZ e2,aZ AOh,Array.getElem?_setIfInBounds,aZ (Ne.symm e)]
  ·rw[World.setCells,g4 k hk]
   show (w.heap.modify b _)[k]?=_
   rw[Array.getElem?_modify,aZ (Ne.symm hk)]
  ·rw[World.setCells]
   refine Below.trans ?_ g5
   refine⟨rfl,rfl,rfl, ?_,fun k hk=>AOh⟩
   show w.heap.size≤(w.heap.modify b _).size
   rw[Array.size_modify]; exact aT _
theorem Xm {n:Nat}:∀ (L:List (List Cl)) (m:Nat),(∀ x∈L,x.length=n)→(L.take m).flatten=L.flatten.take (m*n)∧(L.drop m).flatten=L.flatten.drop (m*n)
 | [],m,_=>AOi
 | x::L,0,_=>AOi
 | x::L,m+1,h=>by
  obtain⟨h1,h2⟩:=Xm L m fun y hy=>h y (aa3 _ hy)
  have hx:x.length=n:=h x (abz ..)
  have e:(m+1)*n=x.length+m*n:=by rw[hx,jH,Nat.one_mul,Nat.add_comm]
  simp only[abg,List.drop_succ_cons,dm,h1,h2,e,List.take_length_add_append,List.drop_length_add_append]
  exact⟨trivial,trivial⟩
theorem TR {n:Nat}:∀ (L:List (List Cl)),(∀ x∈L,x.length=n)→L.flatten.length=L.length*n
 | [],_=>AOi
 | x::L,h=>by
  rw[dm,bn,TR L fun y hy=>h y (aa3 _ hy),h x (abz ..),df,jH,Nat.one_mul,Nat.add_comm]
theorem AAM {n:Nat} (L:List (List Cl)) (m:Nat) (h:∀ x∈L,x.length=n) (hm:m<L.length) (k:Nat):(L.eraseIdx m).flatten[k]?=if k<m*n then L.flatten[k]? else L.flatten[k+n]?:=by
 rw[List.eraseIdx_eq_take_drop_succ,aaF,(Xm L m h).1,(Xm L (m+1) h).2]
 have hl:=TR L h
 have hmn:m*n≤L.flatten.length:=by rw[hl]; exact aaw n AOh
 rw[List.getElem?_append]
 have ht:(L.flatten.take (m*n)).length=m*n:=by rw[bz]; omega
 rw[ht]
 split
 ·rename_i h1
  rw[aaJ,bu h1]
 ·rename_i h1
  rw[aaV,jH,Nat.one_mul]
  congr 1
  omega
def Fh (l:List DDead) (i:Int):List DDead:=if 0≤i∧i.toNat<l.length then l.eraseIdx i.toNat else l
theorem Xn (l:List DDead):LG 3 (l.map DDead.c)=true:=OY (fun _=>rfl) l
theorem l7 {α β:Type} (f:α→β):∀ (l:List α) (i:Nat),(l.eraseIdx i).map f=(l.map f).eraseIdx i
 | [],_=>rfl
 | _::_,0=>rfl
 | x::l,i+1=>by simp only[List.eraseIdx_cons_succ,YG,l7 f l i]
theorem ACs:(prog.info? 145).map (·.size)=some 3:=AQH
theorem AEs:prog.underlying 40=some (.slice 145):=AQH
def MJ (cs:Array Value) (i n:Nat):List Value:=(cs.toList.drop ((i+1)*3)).take ((n-(i+1))*3)
theorem O0 {cs:Array Value} {i n cap:Nat} (h:n≤cap) (hc:cs.size=cap*3):(MJ cs i n).length=(n-(i+1))*3:=by
 simp[MJ,hc]; omega
theorem Uk {cs:Array Value} {i n j:Nat} (hj:j<(n-(i+1))*3):(MJ cs i n)[j]?=cs[(i+1)*3+j]?:=by
 unfold MJ
 rw[aaJ,bu hj,aaV]
 simp
theorem jk (l:List DDead) (i:Int) (hl:l.length≤1048576):Ctr prog 341 [.c (.sl (l.map DDead.c)),.c (.v (.int .i64 (i)))] [.own 145 3 ((Fh l i).map DDead.c) true]:=by
 refine CM call341 func341 ntmps341 results341 fun hw=>?_
 have hl2:l.length≤2147483648:=AOh
 simp only[go_sem,Xn,ae,hl2,aI,Bj]
 rcases h1:decide (i<0) with _ | _
 rotate_left
 ·have hw:Fh l i=l:=by simp at h1; unfold Fh; rw[aZ AOh]
  simp only[go_sem,ae,h1,hw,Bj]
  simp
 rcases h2:decide (i≥(l.length:Int)) with _ | _
 rotate_left
 ·have hw:Fh l i=l:=by simp at h1 h2; unfold Fh; rw[aZ AOh]
  simp only[go_sem,ae,h1,h2,hw,Bj]
  simp
 simp only[go_sem,ae,h1,h2]
 refine ADs ?_
 intro w0 St0 St β a w hc
 have hn:i.toNat<l.length∧i=(i.toNat:Int):=by simp at h1 h2; omega
 obtain⟨hn,hi⟩:=hn
 generalize i.toNat=m at hn hi
 have e5:=hc.env 5
 have e1:=hc.env 1
 simp only[Cb,Nat.reduceEqDiff,aX,aW,Nat.reduceBEq,AVR,RdC,BN,RdD,aaN,aQ,Nat.one_ne_zero,Nat.succ_ne_zero] at e5 e1
 cases hb:β 1 with
 | none =>
  simp only[hb] at e5
  have:=(e5.2 trivial).2
  have h0:l = []:=by simpa using this
  rw[h0] at hn; simp at hn
 | some b =>
  simp only[hb] at e5
  obtain⟨_,e5⟩:=e5
  obtain⟨cap,cs,e5,hcap,hmax,hcs,hsz⟩:=e5 trivial
  rw[ae] at e5 hcap
  obtain⟨_,hbw,cs',hcs',_,hcell⟩:=hc.obs 1 _ b rfl rfl hb
  obtain rfl:cs=cs':=by
   rw[hcs] at hcs'
   simpa using hcs'
  obtain⟨tl,ht,htl⟩:=AEr hc.size
  obtain⟨tmps,defers⟩:=a
  dsimp only at ht e5 e1
  subst ht
  simp only[List.length] at htl
  obtain⟨x0,t0,rfl,g0⟩:=Dv htl; obtain⟨x1,t1,rfl,g1⟩:=Dv g0; obtain⟨x2,t2,rfl,g2⟩:=Dv g1; obtain⟨x3,t3,rfl,g3⟩:=Dv g2
  obtain⟨x4,t4,rfl,g4⟩:=Dv g3; obtain⟨x5,t5,rfl,g5⟩:=Dv g4; obtain⟨x6,t6,rfl,g6⟩:=Dv g5; obtain⟨x7,t7,rfl,g7⟩:=Dv g6
  obtain⟨x8,t8,rfl,g8⟩:=Dv g7; obtain⟨x9,t9,rfl,g9⟩:=Dv g8; obtain⟨x10,t10,rfl,g10⟩:=Dv g9; obtain⟨x11,t11,rfl,g11⟩:=Dv g10
  obtain⟨x12,t12,rfl,g12⟩:=Dv g11; obtain⟨x13,t13,rfl,g13⟩:=Dv g12; obtain⟨x14,t14,rfl,g14⟩:=Dv g13; obtain⟨x15,t15,rfl,g15⟩:=Dv g14
  obtain⟨x16,t16,rfl,g16⟩:=Dv g15; obtain⟨x17,t17,rfl,g17⟩:=Dv g16; obtain⟨x18,t18,rfl,g18⟩:=Dv g17; obtain⟨x19,t19,rfl,g19⟩:=Dv g18
  obtain⟨x20,t20,rfl,g20⟩:=Dv g19; obtain⟨x21,t21,rfl,g21⟩:=Dv g20; obtain⟨x22,t22,rfl,g22⟩:=Dv g21; obtain⟨x23,t23,rfl,g23⟩:=Dv g22
  obtain⟨x24,t24,rfl,g24⟩:=Dv g23; obtain⟨x25,t25,rfl,g25⟩:=Dv g24
  obtain rfl:t25 = []:=abt.1 g25
  clear htl g0 g1 g2 g3 g4 g5 g6 g7 g8 g9 g10 g11 g12 g13 g14 g15 g16 g17 g18 g19 g20 g21 g22 g23 g24 g25
  rw[hi] at e1
  have k5:x5 = .slice (some ⟨b,0,none⟩) l.length cap:=e5
  have k1:x1 = .int .i64 (m:Int):=e1.1
  clear e5 e1
  subst k5
  subst k1
  have hcs2:cs.size=cap*3:=hsz
  obtain⟨A,hA,hnews⟩:∃ A:Addr,(if cap=m+1 then some (⟨b,0,none⟩:Addr) else some ⟨b,(m+1)*3,none⟩)=some A∧Go.RowKit.Hid (∀ j u,(MJ cs m l.length)[j]?=some u→({ heap:=w.heap,tape:=w.tape,drawn:=w.drawn+1,os:=w.os,output:=w.output }:World).cell? (A.add j)=some u):=by
   by_cases h:cap=m+1
   ·refine⟨⟨b,0,none⟩,by simp[h],fun j u hu=>?_⟩
    have h0:(MJ cs m l.length).length=0:=by rw[O0 AOh hcs2]; omega
    rw[abt.1 h0] at hu
    simp at hu
   ·refine⟨⟨b,(m+1)*3,none⟩,by simp[h],fun j u hu=>?_⟩
    have hj:j<(l.length-(m+1))*3:=by
     have:=(aF.1 hu).1
     rwa [O0 AOh hcs2] at this
    rw[Uk hj] at hu
    rw[Addr.add_lit]
    show (match w.heap[b]? with | some (.cells cs _ _)=>cs[(m+1)*3+j]? | _=>none)=some u
    rw[hcs]; exact hu
  have hwr:IntKind.i64.wrap ((m:Int)+1)=(m:Int)+1:=by rw[IntKind.wrap_i64]; omega
  have hp0:(0:Int)≤(m:Int)+1:=AOh
  have hp1:(m:Int)+1≤(l.length:Int):=AOh
  have hp2:((m:Int)+1).toNat=m+1:=AOh
  have hmc:m≤cap:=AOh
  have s1:Go.RowKit.Hid ((MJ cs m l.length).length=(l.length-(m+1))*3):=O0 AOh hcs2
  have hnc:∀ j u,(MJ cs m l.length)[j]?=some u→cs[(m+1)*3+j]?=some u∧j<(l.length-(m+1))*3:=fun j u hu=>by
   have hj:j<(l.length-(m+1))*3:=by
    have:=(aF.1 hu).1
    rwa [s1.out] at this
   rw[Uk hj] at hu
   exact⟨hu,hj⟩
  have h3:∀ x∈l.map DDead.c,x.length=3:=fun x hx=>by
   obtain⟨d,_,rfl⟩:=kN.1 hx
   rfl
  have hcv:∀ (k:Nat) (c:Cl),(l.map DDead.c).flatten[k]?=some c→∃ n:Int,cs[k]?=some (.int .i64 n)∧c = .v (.int .i64 n)∧QZ (.int .i64 n)=true:=fun k c hk=>by
   obtain⟨u,q1,q2⟩:=hcell k c hk
   obtain⟨r,hr,hcr⟩:=aba.1 (bF hk)
   obtain⟨d,_,rfl⟩:=kN.1 hr
   have hcr:c∈ [Cl.v (.int .i64 d.buf),Cl.v (.int .i64 d.gen),Cl.v (.int .i64 d.at0)]:=hcr
   simp only[dh,List.not_mem_nil,or_false] at hcr
   rcases hcr with rfl | rfl | rfl<;>simp only[RdB,RdC,RdD] at q2<;>exact⟨_,by rw[q1,q2.1],rfl,q2.2⟩
  have s2:Go.RowKit.Hid (∀ u∈MJ cs m l.length,u.oneCell'=true):=fun u hu=>by
   obtain⟨j,hj⟩:=List.getElem?_of_mem hu
   obtain⟨g1,g2⟩:=hnc j u hj
   have hlt:(m+1)*3+j<(l.map DDead.c).flatten.length:=by rw[TR _ h3,ae]; omega
   obtain⟨n,q1,_⟩:=hcv ((m+1)*3+j) _ (au hlt)
   rw[q1] at g1
   cases g1
   rfl
  have s3:Go.RowKit.Hid (∀ j,j<(MJ cs m l.length).length→(w.drew.cell? ⟨b,0+m*3+j,none⟩).isSome=true∧w.drew.frozen? ⟨b,0+m*3+j,none⟩=false):=fun j hj=>by
   rw[s1.out] at hj
   rw[uX]
   constructor
   ·show (match w.heap[b]? with | some (.cells cs _ _)=>cs[m*3+j]? | _=>none).isSome=true
    rw[hcs]
    simp; omega
   ·show (match w.heap[b]? with | some (.cells _ _ (lo,hi))=>decide (lo≤m*3+j)&&decide (m*3+j<hi) | _=>false)=false
    rw[hcs]; simp
  obtain⟨ii,hii,hiz⟩:=yx.1 ACs
  refine wpAny_take (i:=0) (v:=.slice (some ⟨b,0,none⟩) l.length cap) rfl AQH AQH AQH (fun _ _ _ h=>by cases h.1) (Or.inl ⟨by rfl,AQI⟩) ?_
  refine wpAny_take (i:=1) (v:=.int .i64 (m:Int)) rfl AQH AQH AQH (fun _ _ _ h=>by cases h.1) (Or.inl ⟨by rfl,AQI⟩) ?_
  refine wpAny_take (i:=3) (v:=.slice (some ⟨b,0,none⟩) l.length cap) rfl AQH AQH AQH (fun _ _ _ h=>by cases h.1) (Or.inl ⟨by rfl,AQI⟩) ?_
  refine wpAny_take (i:=4) (v:=.int .i64 (m:Int)) rfl AQH AQH AQH (fun _ _ _ h=>by cases h.1) (Or.inl ⟨by rfl,AQI⟩) ?_
  refine wpAny_take (i:=5) (v:=.int .i64 ((m:Int)+1)) rfl AQH AQH AQH (fun _ _ _ h=>by cases h.1) (Or.inl ⟨by rfl,AQI⟩) ?_
  refine wpAny_ready (rs:=[2,6]) AQH AOi (AllReady.cons rfl (fun K hK=>?_) (AllReady.cons rfl (fun K hK=>?_) AllReady.nil))
  all_goals (go_simp; refine hK _ _ ?_; clear hK K)
  refine wpAny_ready (rs:=[6]) AQH AOi (AllReady.cons rfl (fun K hK=>?_) AllReady.nil)
  rotate_left
  refine wpAny_ready (rs:=[2]) AQH AOi (AllReady.cons rfl (fun K hK=>?_) AllReady.nil)
  all_goals
   go_simp
   refine hK _ _ ?_
   clear hK K
   refine wpAny_ready (rs:=[7]) AQH AOi (AllReady.cons rfl (fun K hK=>?_) AllReady.nil)
   refine step_append_room rfl (.tmp 20) (.tmp 24) 40 rfl 145 ii 3 AEs hii hiz b 0 m cap (by simp[Act.eval]) A (l.length-(m+1)) (cap-(m+1)) (MJ cs m l.length) (by simp[Act.eval]) s1.out hnews.out s2.out AOh s3.out ?_
   refine hK _ _ ?_
   clear hK K
   refine wpAny_ready (rs:=[8]) AQH AOi (AllReady.cons rfl (fun K hK=>?_) AllReady.nil)
   go_simp
   refine hK _ _ ?_
   clear hK K
   refine wpAny_done AQH ?_ _
   obtain⟨cs',g1,g2,g3,g4,g5⟩:=UA b 145 (MJ cs m l.length) (m*3) w.drew cs hcs (by rw[s1.out,hcs2]; omega)
   have hwo:Fh l i=l.eraseIdx m:=by rw[hi]; unfold Fh; rw[bu ⟨AOh,by simpa using hn⟩]; rfl
   refine⟨rfl,⟨26,[(4,.c (.ref 0))],[⟨145,3,(Fh l i).map DDead.c,true,true⟩]⟩, ?_,rfl,St,fun _=>some b, ?_⟩
   ·simp only[go_sem,Bj]
    simp
   rw[hwo]
   refine AEq hc (l0:=1) rfl rfl rfl hb (cap:=cap) (cs:=cs') hc.defers rfl ?_ (Below.trans (show Below 0 w w.drew from⟨rfl,rfl,rfl,aT _,fun k hk=>AOh⟩) g5) g4 ((y8 hcs g1).2 g2) g1 (by rw[g2,hcs2]) ?_ hmax ?_ ?_
   ·show Value.slice _ _ _=_
    rw[ae,List.length_eraseIdx,bu hn]
    congr 1
    omega
   ·rw[ae,List.length_eraseIdx,bu hn]; omega
   ·intro x hx
    obtain⟨d,_,rfl⟩:=kN.1 hx
    rfl
   ·intro k c hk
    rw[l7,AAM _ m h3 (by simpa using hn)] at hk
    rw[g3]
    split at hk
    ·rename_i hlt
     obtain⟨n,q1,q2,q3⟩:=hcv k c hk
     rw[aZ AOh]
     exact⟨_,q1,q2,q3⟩
    ·rename_i hge
     obtain⟨n,q1,q2,q3⟩:=hcv _ c hk
     have hlt:=(aF.1 hk).1
     rw[TR _ h3,ae] at hlt
     rw[s1.out,bu AOh,Uk AOh,show (m+1)*3+(k-m*3)=k+3 from AOh]
     exact⟨_,q1,q2,q3⟩
def xe (i:Int):Nat→List DDead→List DDead
 | _,[]=>[]
 | k,x::l=>if((k:Int) != i)=true then x::xe i (k+1) l else xe i (k+1) l
theorem iq (i:Int):∀ (l:List DDead) (k:Nat),i<k→xe i k l=l
 | [],_,_=>rfl
 | x::l,k,h=>by
  have e:((k:Int) != i)=true:=AOj
  simp only[xe,e,aX,iq i l (k+1) AOh]
theorem l9 (i:Int):∀ (l:List DDead) (k:Nat),(k:Int)≤i→xe i k l=l.eraseIdx (i.toNat-k)
 | [],_,_=>by simp[xe]
 | x::l,k,h=>by
  by_cases e:(k:Int)=i
  ·have e1:((k:Int) != i)=false:=by simp; omega
   have e2:i.toNat-k=0:=AOh
   simp only[xe,e1,e2,aC,aW,List.eraseIdx_cons_zero]
   exact iq i l (k+1) AOh
  ·have e1:((k:Int) != i)=true:=by simp; omega
   have e2:i.toNat-k=(i.toNat-(k+1))+1:=AOh
   simp only[xe,e1,e2,aX,List.eraseIdx_cons_succ]
   rw[l9 i l (k+1) AOh]
theorem AIL (l:List DDead) (i:Int):xe i 0 l=Fh l i:=by
 unfold Fh
 by_cases h:0≤i
 ·rw[l9 i l 0 AO7]
  split
  ·rfl
  ·rename_i h2
   rw[List.eraseIdx_of_length_le AOh]
 ·rw[iq i l 0 AOj,aZ AOh]
theorem AEt (i:Int) (l:List DDead) {k:Nat} (h:k<l.length):xe i k (l.drop k)=if((k:Int) != i)=true then l[k]::xe i (k+1) (l.drop (k+1)) else xe i (k+1) (l.drop (k+1)):=by
 rw[aG h,xe]
theorem jl (l:List DDead) (i:Int) (hl:l.length≤1048576):Ctr prog 337 [.c (.sl (l.map DDead.c)),.c (.v (.int .i64 (i)))] [.own 145 3 ((Fh l i).map DDead.c) true]:=by
 refine CM call337 func337 ntmps337 results337 fun hw=>?_
 simp only[go_sem,ae]
 refine AB6 [7] (A:=Nat×List DDead) (fun x=>[(6,.c (.v (.int .i64 (x.1)))),(5,.c (.ref 0))]) (fun x=>[⟨145,3,x.2.map DDead.c,true,true⟩]) (fun x=>x.1≤l.length∧x.2.length≤x.1∧x.2++xe i x.1 (l.drop x.1)=xe i 0 l) (fun x=>l.length-x.1) (0,[]) (AB3 [(0,false)] ⟨rfl,rfl,rfl,trivial⟩ rfl) ⟨az _,aT _,rfl⟩ ?_
 rintro⟨k,out⟩ ⟨hk,hol,hb⟩
 dsimp only at hk hol hb
 refine AOc (fun h=>?_) fun h=>?_
 ·have hk':k<l.length:=by simpa using h
  rw[AEt i l hk'] at hb
  have hol2:out.length+1≤2147483648:=AOh
  rcases hc:((k:Int) != i) with _ | _
  ·rw[hc] at hb
   simp only[go_sem,ae,hc,wrap_i64 (n:=(k:Int)+1) AOh AOh]
   exact⟨(k+1,out),AB3 [(0,false)] ⟨rfl,rfl,AY DDead.pure,trivial⟩ rfl,⟨hk',AOl,hb⟩,AOl⟩
  ·rw[hc] at hb
   have hd:out.map DDead.c ++ [[Cl.v (.int .i64 l[k].buf),Cl.v (.int .i64 l[k].gen),Cl.v (.int .i64 l[k].at0)]]=(out ++ [l[k]]).map DDead.c:=by rw[XC]; rfl
   simp only[go_sem,ae,bC,bU,Gi,aK,aS,hd,AA _ hk',hk',hc,hol2,aI,wrap_i64 (n:=(k:Int)+1) AOh AOh]
   exact⟨(k+1,out ++ [l[k]]),AB3 [(2,false)] ⟨rfl,rfl,AY DDead.pure,trivial⟩ rfl,⟨hk',AOj,by rw[bM]; exact hb⟩,AOl⟩
 ·have hk':k=l.length:=by simp at h; omega
  subst hk'
  rw[aV] at hb
  have:out=Fh l i:=by rw[← AIL,← hb]; simp[xe]
  rw[← this]
  simp only[go_sem,Bj]
  try simp
theorem iw (l:List DRef):LG 5 (l.map DRef.c)=true:=OY (fun _=>rfl) l
theorem Rz (l:List DRef) (h:l.length≤1048576):Ctr prog 170 [.c (.sl (l.map DRef.c))] [.own 133 5 (l.map DRef.c) true]:=by
 refine CM call170 func170 ntmps170 results170 fun hw=>?_
 have hl:l.length≤2147483648:=AOh
 simp only[go_sem,iw,ae,hl,aI,Ba]
 try simp
theorem jm (d:DDir) (h:d.l.length≤1048576):Ctr prog 113 [.agg d.c] [.agg d.o]:=by
 refine CM call113 func113 ntmps113 results113 fun hw=>?_
 simp only[go_sem]
 refine ABU ?_
 simp only[go_sem]
 refine ACJ _ (Rz d.l h) ?_
 simp only[go_sem,Ba]
 try exact AIj
theorem ql (d:DDir) (h:d.l.length≤1048576):Ctr prog 78 [.agg d.c] [.agg d.o]:=by
 refine CM call78 func78 ntmps78 results78 fun hw=>?_
 have hl:d.l.length≤2147483648:=AOh
 simp only[go_sem]
 refine ABU ?_
 simp only[go_sem,iw,ae,hl,aI,Ba]
 try exact AIj
theorem AGP {N:Nat} {a b c d:Ob} (ha:BD N a=true) (hb:BD N b=true) (hc:BD N c=true) (hd:BD N d=true) : [a,b,c,d].all (BD N)=true:=by simp[ha,hb,hc,hd]
def xQ (n:Int):List Cl:=[.v (.int .i64 n),.v (.slice none 0 0)]
def AAN (n:Int) (l:Nat):List Cl:=[.v (.int .i64 n),.ref l]
@[go_sem] theorem AKL (n:Int):xQ n = [.v (.int .i64 n),.v (.slice none 0 0)]:=rfl
@[go_sem] theorem AI5 (n:Int) (l:Nat):AAN n l = [.v (.int .i64 n),.ref l]:=rfl
theorem Qh (c:DChunk) (hc:F_ c):Ctr prog 233 [.agg c.c] [.agg c.o]:=by
 rw[EE] at hc
 refine CM call233 func233 ntmps233 results233 fun hw=>?_
 have hlen:=hc.1
 simp only[go_sem]
 refine AB6 [] (A:=Nat×List DSlot) (fun x=>[(12,.c (.v (.int .i64 (x.1))))]) (fun x=>[⟨140,2,[c.c],true,true⟩,⟨140,2,[xQ 0],true,true⟩,⟨140,2,[AAN c.next 3],true,true⟩,⟨199,2,x.2.map DSlot.o,true,true⟩]) (fun x=>x.1≤c.l.length∧x.2.length=x.1∧x.2++c.l.drop x.1=c.l) (fun x=>c.l.length-x.1) (0,[]) (Head.trans (Head.nilR 2 1 199 2 ⟨140,2,[xQ c.next],true,true⟩ (xQ c.next) rfl rfl rfl) (AB3 [(0,false),(1,true),(2,true),(3,false)] ⟨rfl,rfl,rfl,rfl,rfl,rfl,trivial⟩ rfl)) ⟨az _,rfl,rfl⟩ ?_
 rintro⟨k,out⟩ ⟨hk,hol,hb⟩
 dsimp only at hk hol hb
 refine AOb (fun h=>?_) fun h=>?_
 ·have hk':k<c.l.length:=by simpa using h
  rw[aG hk'] at hb
  have hr:=hc.2 _ (ax hk')
  rw[KU] at hr
  have hol2:out.length+1≤2147483648:=AOh
  have hnr:∀ (a:Int) (l:Nat),DI [[Cl.v (.int .i64 a),.ref l]]=false:=fun _ _=>rfl
  simp only[go_sem,AA _ hk',hk']
  refine AC8 6 8 [0,1,2,3,4,5,6,7,8,9,10,11] [7,8] rfl AQH rfl AQH ?_
  refine ABU ?_
  simp only[go_sem,AA _ hk',hk']
  refine ACJ _ (Gx c.l[k].l hr.1) ?_
  simp only[go_sem,bC,bU,AA _ hk',hk',hol2,hnr,N8,aC,aI,wrap_i64 (n:=(k:Int)+1) AOh AOh]
  exact AJU
 ·have hk':k=c.l.length:=by simp at h; omega
  subst hk'
  rw[aV] at hb
  have:out=c.l:=APO
  subst this
  simp only[go_sem,FO]
  try exact AIj
theorem WV (c:DChunk) (hc:F_ c):Ctr prog 256 [.agg c.c] [.agg c.o]:=by
 rw[EE] at hc
 refine CM call256 func256 ntmps256 results256 fun hw=>?_
 have hlen:=hc.1
 simp only[go_sem]
 refine AB6 [8,7] (A:=Nat×List DSlot) (fun x=>[(4,.c (.v (.int .i64 (x.1)))),(3,.lp 2 0 0)]) (fun x=>[⟨140,2,[c.c],true,true⟩,⟨140,2,[xQ 0],true,true⟩,⟨140,2,[AAN c.next 3],true,true⟩,⟨199,2,x.2.map DSlot.o,true,true⟩]) (fun x=>x.1≤c.l.length∧x.2.length=x.1∧x.2++c.l.drop x.1=c.l) (fun x=>c.l.length-x.1) (0,[]) (AB3 [(0,false),(1,true),(3,true),(2,false)] ⟨rfl,rfl,rfl,rfl,rfl,rfl,trivial⟩ rfl) ⟨az _,rfl,rfl⟩ ?_
 rintro⟨k,out⟩ ⟨hk,hol,hb⟩
 dsimp only at hk hol hb
 refine AOb (fun h=>?_) fun h=>?_
 ·have hk':k<c.l.length:=by simpa using h
  rw[aG hk'] at hb
  have hr:=hc.2 _ (ax hk')
  rw[KU] at hr
  have hol2:out.length+1≤2147483648:=AOh
  have hsl2:c.l[k].l.length≤2147483648:=by have:=hr.1; omega
  have hnr:∀ (a:Int) (l:Nat),DI [[Cl.v (.int .i64 a),.ref l]]=false:=fun _ _=>rfl
  simp only[go_sem,AA _ hk',hk']
  refine AC8 15 17 [0,1,2,3,4,5,6,7,8,9,10,11,12,13,14,15,16,17,18,19,20] [16,17] rfl AQH rfl AQH ?_
  refine ABU ?_
  simp only[go_sem,AA _ hk',hk',Io,hsl2,hol2,hnr,bC,bU,N8,aC,aI,wrap_i64 (n:=(k:Int)+1) AOh AOh]
  exact AJU
 ·have hk':k=c.l.length:=by simp at h; omega
  subst hk'
  rw[aV] at hb
  have:out=c.l:=APO
  subst this
  simp only[go_sem,FO]
  try exact AIj
theorem R_ (l:List DBuf) (hl:fitS IE l):Ctr prog 114 [.c (.sl (l.map DBuf.c))] [.own 142 5 (l.map DBuf.o) true]:=by
 refine CM call114 func114 ntmps114 results114 fun hw=>?_
 have hlen:=hl.1
 simp only[go_sem,ae]
 refine AB6 [6] (A:=Nat×List DBuf) (fun x=>[(9,.c (.v (.int .i64 (x.1)))),(3,.c (.ref 0))]) (fun x=>[⟨142,5,x.2.map DBuf.o,true,true⟩]) (fun x=>x.1≤l.length∧x.2.length≤x.1∧x.2++l.drop x.1=l) (fun x=>l.length-x.1) (0,[]) (AB3 [(0,false)] ⟨rfl,rfl,rfl,trivial⟩ rfl) ⟨az _,aT _,rfl⟩ ?_
 rintro⟨k,out⟩ ⟨hk,hol,hb⟩
 dsimp only at hk hol hb
 refine AOc (fun h=>?_) fun h=>?_
 ·have hk':k<l.length:=by simpa using h
  rw[aG hk'] at hb
  have hr:=hl.2 _ (ax hk')
  rw[H9] at hr
  have hol2:out.length+1≤2147483648:=AOh
  have hnr:∀ (a b c:Int) (m n:Nat),DI [[Cl.v (.int .i64 a),Cl.v (.int .i64 b),Cl.v (.int .i64 c),.ref m,.ref n]]=false:=fun _ _ _ _ _=>rfl
  simp only[go_sem,ae,AA _ hk',hk',aI]
  refine AC8 10 12 [0,1,2,3,4,5,6,7,8,9,10,11,12,13,14] [11,12] rfl AQH rfl AQH ?_
  refine ABU ?_
  simp only[go_sem,AA _ hk',hk']
  refine CZ (Qh l[k].c0 hr.1) ?_
  simp only[go_sem,AA _ hk',hk']
  refine ACJ _ (F6 l[k].g (by have:=hr.2; omega)) ?_
  simp only[go_sem,bC,bU,AA _ hk',hk',hol2,hnr,N8,aC,aI,wrap_i64 (n:=(k:Int)+1) AOh AOh]
  refine⟨(k+1,out ++ [l[k]]),ACS [(5,true),(2,true),(3,false)] 1 0 ⟨rfl,rfl,Jz DBuf.o_nr _ out rfl,Ec (FO _),AY byteC.pure,trivial⟩ ⟨out.length,out.map DBuf.o ++ [DBuf.o l[k]],_,DBuf.o l[k],_,⟨kL 0,rfl,Jy DBuf.o_nr _ out _ _,AOi,rfl⟩,
   ⟨rfl,rfl,rfl,rfl,rfl,rfl,rfl,rfl, ?xs,rfl, ?nr,AO1,rfl,rfl,rfl,rfl,Bv _,AO1,fun l hl=>AOv⟩,⟨rfl, ?tr⟩, ?eq⟩,⟨hk',AOj,(bM _ _ _).trans hb⟩,AOl⟩
  case xs=>exact Dz (FO _)
  case nr=>exact FO _
  case tr=>unfold BO; rw[B_]; exact allA (AU (BG _))
  case eq=>unfold BO; rw[B_,XC]; rfl
 ·have hk':k=l.length:=by simp at h; omega
  subst hk'
  rw[aV] at hb
  have:out=l:=APO
  subst this
  exact AMF
end Go.Proofs.YtnoldekcdlaahaaGreat
