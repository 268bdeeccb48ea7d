/- A part. -/
import Derived.Test.YtnchiiikacemmaaGreatZg
import Derived.Test.YtnchiiikacemmaaGreatZt
import Derived.Test.YtnchiiikacemmaaGreatTc
set_option linter.unusedSimpArgs false
set_option linter.unusedVariables false
set_option maxHeartbeats 8000000
set_option maxRecDepth 10000
open Go.Proofs.Tryz
namespace Go.Proofs.YtnchiiikacemmaaGreat
open Go.Vm
theorem Zo (w:DWorld) (hf:AU w):Ctr prog 38 [.agg w.c] [.val (.c (.v (.bool (JE w))))]:=by
 refine CM call38 func38 ntmps38 results38 fun hw=>?_
 have hlt:=Ug hf
 have hld:=yL hf
 unfold JE headB
 simp only[go_sem]
 try refine DrawK.mk ?_
 try simp only[go_sem]
 first | refine CY (UA w.c0) ?_ | refine CW (UA w.c0) fun _=>?_
 rcases h1:LD w.c0 with _ | _
 ·simp only[go_sem,h1,ag,ai,aJ]
 simp only[go_sem,h1,ai]
 try refine DrawK.mk ?_
 try simp only[go_sem]
 first | refine CallF.mk _ (AC w.time 0 1000000) ?_ | refine CallK.mk _ (AC w.time 0 1000000) fun _=>?_
 rcases h2:Ac w.time 0 1000000 with _ | _
 ·simp only[go_sem,h2,ag,ai,aJ]
 simp only[go_sem,h2,ai]
 try refine DrawK.mk ?_
 try simp only[go_sem]
 first | refine CallF.mk _ (AC w.t 1 1000000) ?_ | refine CallK.mk _ (AC w.t 1 1000000) fun _=>?_
 rcases h3:Ac w.t 1 1000000 with _ | _
 ·simp only[go_sem,h3,ag,ai,aJ]
 simp only[go_sem,h3,ai]
 try refine DrawK.mk ?_
 try simp only[go_sem]
 first | refine CallF.mk _ (AC w.e 0 1000000) ?_ | refine CallK.mk _ (AC w.e 0 1000000) fun _=>?_
 rcases h4:Ac w.e 0 1000000 with _ | _
 ·simp only[go_sem,h4,ag,ai,aJ]
 simp only[go_sem,h4,ai]
 try refine DrawK.mk ?_
 try simp only[go_sem]
 first | refine CY (WT w.d (lenD hf)) ?_ | refine CW (WT w.d (lenD hf)) fun _=>?_
 rcases h5:KE w.d with _ | _
 ·simp only[go_sem,h5,ag,ai,aJ]
 simp only[go_sem,h5,ai]
 rcases h6:decide (w.d.ver>1000000) with _ | _
 rotate_left
 ·simp only[go_sem,h6,aQ,ag]
  try refine DrawK.mk ?_
  try simp only[go_sem,h6]
 simp only[go_sem,h6,aN,ai]
 try refine DrawK.mk ?_
 try simp only[go_sem]
 first | refine CY (Zb w hf) ?_ | refine CW (Zb w hf) fun _=>?_
 rcases h7:fZ w with _ | _
 ·simp only[go_sem,h7,ag,ai,aJ]
 simp only[go_sem,h7,ai]
 try refine DrawK.mk ?_
 try simp only[go_sem]
 first | refine CY (We w hf) ?_ | refine CW (We w hf) fun _=>?_
 rcases h8:Pq w with _ | _
 ·simp only[go_sem,h8,ag,ai,aJ]
 simp only[go_sem,h8,ai]
 try refine DrawK.mk ?_
 try simp only[go_sem]
 first | refine CY (WW w hf) ?_ | refine CW (WW w hf) fun _=>?_
 rcases h9:ZI w with _ | _
 ·simp only[go_sem,h9,ag,ai,aJ]
 simp only[go_sem,h9,ai]
 try refine DrawK.mk ?_
 try simp only[go_sem]
 first | refine CY (Zc w hf) ?_ | refine CW (Zc w hf) fun _=>?_
 rcases h10:ZJ w with _ | _
 ·simp only[go_sem,h10,ag,ai,aJ]
 simp only[go_sem,h10,ai]
 rcases h11:((w.tasks.length:Int)==5) with _ | _
 ·have g:((w.tasks.length:Int) != 5)=true:=by simp only[bne,h11,aN]
  simp only[go_sem,g,ag]
  try refine DrawK.mk ?_
  try simp only[go_sem,g]
 have g11:((w.tasks.length:Int) != 5)=false:=by simp only[bne,h11,aQ]
 rcases h12:((w.p.length:Int)==5) with _ | _
 ·have g:((w.p.length:Int) != 5)=true:=by simp only[bne,h12,aN]
  simp only[go_sem,g11,g,ag,ai]
  try refine DrawK.mk ?_
  try simp only[go_sem,g11,g]
 have g12:((w.p.length:Int) != 5)=false:=by simp only[bne,h12,aQ]
 simp only[go_sem,g11,g12,ai]
 try refine DrawK.mk ?_
 try simp only[go_sem,g11,g12]
 first | refine CallF.mk _ (UD w.p w.e (ADi hf)) ?_ | refine CallK.mk _ (UD w.p w.e (ADi hf)) fun _=>?_
 rcases h13:MN w.p w.e with _ | _
 ·simp only[go_sem,h13,ag]
 simp only[go_sem,h13,ai]
 have hl5:w.tasks.length=w.p.length:=by
  have a1:(w.tasks.length:Int)=5:=Zi.1 h11
  have a2:(w.p.length:Int)=5:=Zi.1 h12
  omega
 unfold lD
 refine LoopU.mk 1 (A:=Nat) (fun x=>[(79,.c (.v (.int .i64 (x))))]) (fun _=>[⟨45,14,[w.c],true,true⟩]) (rF w.tasks fun k t=>Po w k t (w.p[k]?.getD 0)) (fun x=>w.tasks.length-x) 0 ⟨⟨rfl,rfl⟩,rfl,lC⟩ ?_
 intro k hk
 simp only[go_sem]
 refine cndC.mk (fun h=>?_) (fun h=>?_)
 ·have hk':k<w.tasks.length:=by simpa using h
  have hp:k<w.p.length:=by omega
  have e1:(w.p[k]?.getD 0)=w.p[k]:=by rw[aA hp]; rfl
  simp only[go_sem,AA _ hk',hk']
  try refine DrawK.mk ?_
  try simp only[go_sem,AA _ hk',hk']
  first | refine CY (Px w k hf hk' hp) ?_ | refine CW (Px w k hf hk' hp) fun _=>?_
  rcases h14:Po w k w.tasks[k] w.p[k] with _ | _
  ·simp only[go_sem,h14,IL (p:=fun k t=>Po w k t (w.p[k]?.getD 0)) hk' (by rw[e1]; exact h14),ag]
  ·simp only[go_sem,h14,wrap_i64 (n:=(k:Int)+1) (by omega) (by omega)]
   exact⟨k+1,⟨rfl,rfl⟩,rfl,MG hk' hk (by rw[e1]; exact h14),by omega⟩
 have hk':k=w.tasks.length:=by have:=hk.1; simp at h; omega
 subst hk'
 rw[Qe hk,ai]
 unfold VQ
 simp only[go_sem]
 refine LoopU.mk 1 (A:=Nat) (fun x=>[(90,.c (.v (.int .i64 (x))))]) (fun _=>[⟨45,14,[w.c],true,true⟩]) (Eh w.deeds (deed1 w)) (fun x=>w.deeds.length-x) 0 ⟨⟨rfl,rfl⟩,rfl,DJ⟩ ?_
 intro j hj
 simp only[go_sem]
 refine cndC.mk (fun h=>?_) (fun h=>?_)
 ·have hj':j<w.deeds.length:=by simpa using h
  simp only[go_sem,AA _ hj',hj']
  try refine DrawK.mk ?_
  try simp only[go_sem,AA _ hj',hj']
  first | refine CY (T_ w.deeds[j]) ?_ | refine CW (T_ w.deeds[j]) fun _=>?_
  rcases q1:Eg w.deeds[j] with _ | _
  ·simp only[go_sem,q1,A_ (p:=deed1 w) hj' (by simp only[deed1,q1,ag]),ag]
  rcases q2:decide (w.deeds[j].inv≥w.time) with _ | _
  rotate_left
  ·simp only[go_sem,q1,q2,A_ (p:=deed1 w) hj' (by simp only[deed1,q1,q2]; rfl),ag]
  rcases q3:decide (w.deeds[j].lin≥w.time) with _ | _
  rotate_left
  ·simp only[go_sem,q1,q2,q3,A_ (p:=deed1 w) hj' (by simp only[deed1,q1,q2,q3]; rfl),ag]
  rcases q4:decide (w.deeds[j].ret≥w.time) with _ | _
  rotate_left
  ·simp only[go_sem,q1,q2,q3,q4,A_ (p:=deed1 w) hj' (by simp only[deed1,q1,q2,q3,q4]; rfl),ag]
  simp only[go_sem,q1,q2,q3,q4,wrap_i64 (n:=(j:Int)+1) (by omega) (by omega)]
  exact⟨j+1,⟨rfl,rfl⟩,rfl,BI hj' hj (by simp only[deed1,q1,q2,q3,q4]; rfl),by omega⟩
 have hj':j=w.deeds.length:=by have:=hj.1; simp at h; omega
 subst hj'
 rw[Bo hj,ai]
 simp only[go_sem]
 try refine DrawK.mk ?_
 try simp only[go_sem]
 first | refine CY (P5 w hf) ?_ | refine CW (P5 w hf) fun _=>?_
 simp only[go_sem]
theorem ACj (w:DWorld) (r:DRef) {x:DRow} (hx:x∈Eo w r):0≤x.id∧x.id≤1000000000:=by
 unfold Eo at hx
 split at hx
 ·simp at hx
 ·rename_i b hb
  rcases h:CU w.c0.cols b.g with _ | l
  ·rw[h] at hx; simp at hx
  ·rw[h] at hx
   have:=(VL (Wi h)).2.2 x hx
   exact⟨this.1,this.2.1⟩
theorem dU {α:Type} {l:List α} {p q:α→Bool} (h:∀ x∈l,p x=q x):l.all p=l.all q:=by
 rw[Bool.eq_iff_iff,aG,aG]
 exact⟨fun h2 x hx=>by rw[← h x hx]; exact h2 x hx,fun h2 x hx=>by rw[h x hx]; exact h2 x hx⟩
theorem AEW {w:DWorld} (hd:KE w.d=true):w.d.l.all (Uh w)=ZI w:=by
 refine dU fun r hr=>?_
 obtain⟨h1,h2,h3⟩:=AAL hd hr
 unfold Uh Pn fV
 rcases ht:there w r with _ | _
 ·simp only[ag]
 rcases k1:r.kind==1 with _ | _
 ·have k2:=Ze h1 k1
  rw[k2]
  simp only[ai,ag,aN,az,aI,aW]
  refine dU fun x hx=>?_
  have hi:=ACj w r hx
  exact(AAM h1 h2 h3 x.id (by omega)).symm
 ·have k2:(r.kind==2)=false:=by
   have:r.kind=1:=by simpa using k1
   rw[this]; rfl
  rw[k2]
  rcases hm:r.many==w.c0.slots with _ | _<;>simp[bne,hm]
theorem ACk {w:DWorld} (hd:KE w.d=true):gQ w=(fZ w&&(ZJ w&&Uc w)):=by
 have h:Pv w.b (Ol w)=(w.b.all (NS w)&&Pv w.b (OX w)):=by
  rw[Bool.eq_iff_iff,ax,f_,f_,aG]
  constructor
  ·intro h
   refine⟨fun x hx=>?_,fun k hk=>?_⟩
   ·obtain⟨i,hi,rfl⟩:=aaW.1 hx
    have:=h i hi
    simp only[Ol,ax] at this
    exact this.1
   ·have:=h k hk
    simp only[Ol,ax,rG hd] at this
    exact this.2
  ·rintro⟨h1,h2⟩ k hk
   simp only[Ol,ax,rG hd]
   exact⟨h1 _ (aj hk),h2 k hk⟩
 unfold gQ fZ Uc
 rw[h]
 ac_rfl
theorem oC (w:DWorld):Ui w=JE w:=by
 unfold Ui JE
 rcases hd:KE w.d with _ | _
 ·simp only[ag]
 rw[AEW hd,ACk hd]
 ac_rfl
theorem Zp (w:DWorld) (hf:AU w):Ctr prog 36 [.agg w.c] [.val (.c (.v (.bool (JE w))))]:=by
 rw[← oC]
 exact Zg w hf
noncomputable def H9 (w:DWorld):Bool:=JE w&&Ci w
noncomputable def BC (w:DWorld):DWorld:=if H9 w=true then Gw w else w
theorem Vz (w:DWorld) (hf:AU w):Ctr prog 10 [.agg w.c] [.agg (BC w).c,.val (.c (.v (.bool (H9 w))))]:=by
 refine CM call10 func10 ntmps10 results10 fun hw=>?_
 simp only[go_sem]
 refine CW ((Nq w hf).aggVal w.o_er) fun _=>?_
 simp only[go_sem]
 refine CW (Zp w hf) fun _=>?_
 rcases h1:JE w with _ | _
 ·have e1:H9 w=false:=by simp only[H9,h1]; rfl
  have e2:BC w=w:=by simp[BC,e1]
  simp only[go_sem,h1,e1,e2]
  refine CW ((Nq w hf).aggVal w.o_er) fun _=>?_
  simp only[go_sem]
  try simp[BX,AY]
 simp only[go_sem,h1]
 refine PtrK.mk (cl':=(D7 w).c) (rs:=[.c (.v (.bool (Ci w)))]) ?h rfl rfl rfl rfl rfl rfl rfl ?_
 case h=>simpa only[go_sem] using iw w hf
 rcases h2:Ci w with _ | _
 ·have e1:H9 w=false:=by simp only[H9,h1,h2]; rfl
  have e2:BC w=w:=by simp[BC,e1]
  simp only[go_sem,h1,h2,e1,e2]
  refine CW ((Nq w hf).aggVal w.o_er) fun _=>?_
  simp only[go_sem]
  try simp[BX,AY]
 ·have e1:H9 w=true:=by simp only[H9,h1,h2]; rfl
  have e2:BC w=Gw w:=by simp[BC,e1]
  have e3:D7 w=Gw w:=by simp[D7,h2]
  simp only[go_sem,h1,h2,e1,e2,e3]
  try simp[BX,AY]
theorem X8 (w:DWorld) (hf:AU w):Ctr prog 6 [.agg w.c] [.val (.c (.v (.bool (H9 w))))]:=by
 refine CM call6 func6 ntmps6 results6 fun hw=>?_
 simp only[go_sem]
 refine CW (Vz w hf) fun _=>?_
 simp only[go_sem]
 try simp[BX,AY]
theorem y9 {w:DWorld} (h:JE w=true):ik w = !n_ w:=by
 unfold JE headB at h
 simp only[ax,abt,aaN,Ac,aY] at h
 obtain⟨⟨_,⟨_,h1⟩,⟨_,h2⟩,⟨_,h3⟩⟩,_,h4,_⟩:=h
 have key:∀ x:Int,x≤1000000→(x==1000000) = !decide (x<1000000):=fun x hx=>by
  by_cases e:x=1000000
  ·subst e; rfl
  ·have e1:(x==1000000)=false:=by simpa using e
   have e2:decide (x<1000000)=true:=by simp; omega
   rw[e1,e2]; rfl
 unfold ik n_
 rw[key _ h1,key _ h2,key _ h3,key _ (by omega)]
 simp only[Bool.not_and]
theorem iy (w:DWorld) (hf:AU w) (hw:JE w=true):Ctr prog 40 [.agg w.c] [.agg (D7 w).o,.val (.c (.v (.bool (Ci w))))]:=by
 have hs:=y9 hw
 have hfit:=hf
 rw[BH,F8,Ht] at hf
 obtain⟨f1,f2,f3,f4,f5,f6,f7,f8⟩:=hf
 refine CM call40 func40 ntmps40 results40 fun hw=>?_
 simp only[go_sem]
 refine CW (Oa w hfit) fun _=>?_
 simp only[go_sem]
 refine CW (nz w) fun _=>?_
 rw[hs]
 rcases h1:n_ w with _ | _
 ·have e1:Ci w=false:=by simp[Ci,h1]
  have e2:D7 w=w:=by simp[D7,e1]
  simp only[go_sem,h1,e1,e2,aN]
  simp[AY]
 simp only[go_sem,h1,aQ]
 try refine DrawK.mk ?_
 try simp only[go_sem]
 first | refine CallF.mk _ (X6 w.x w.e f5) ?_ | refine CallK.mk _ (X6 w.x w.e f5) fun _=>?_
 rcases h2:decide (IU w.x w.e≥0) with _ | _
 rotate_left
 ·obtain⟨m,hm,he⟩:∃ m:Nat,m<w.x.length∧IU w.x w.e=(m:Int):=by
   rcases TD w.x w.e with h | ⟨j,h3,h4⟩
   ·rw[h] at h2; simp at h2
   ·exact⟨j,h3,h4⟩
  have e1:Ci w=true:=by simp only[Ci,h1,h2]; rfl
  have e2:D7 w=Gw w:=by simp only[D7,e1,aW]
  have e3:decide ((m:Int)≥0)=true:=by simp
  have e4:(Gw w)=⟨w.c0,IntKind.i64.wrap (w.time+1),w.t,w.e,w.d,Jn w.b w.x[m].buf,w.m,EH w.x (m:Int),w.p,w.tasks,w.deeds⟩:=by
   unfold Gw iq
   rw[h2,he]
   simp[hm]
  simp only[go_sem,he,e1,e2,e3,e4]
  refine DrawK.mkE ?_
  simp only[go_sem,AA _ hm,hm]
  refine CallE.mk _ (tq w.b w.x[m].buf f3) ?_
  simp only[go_sem,AA _ hm,hm]
  refine CallK.mk _ (dH w.x (m:Int) f5) fun _=>?_
  simp only[go_sem]
  simp[AY]
 ·rcases h3:decide ((w.x.length:Int)>0) with _ | _
  ·have e1:Ci w=false:=by
    simp only[Ci,h1,h2]
    have:w.x.length=0:=by simp at h3; simp[h3]
    simp[this]
   have e2:D7 w=w:=by simp[D7,e1]
   simp only[go_sem,ae,h2,h3,e1,e2]
   try refine DrawK.mk ?_
   try simp only[go_sem,ae,h2,h3,e1,e2]
   simp[AY]
  have h3':decide (w.x.length>0)=true:=by simpa using h3
  simp only[go_sem,ae,h2,h3]
  try refine DrawK.mk ?_
  try simp only[go_sem,ae,h3]
  first | refine CallF.mk _ (TE w.p w.e f6) ?_ | refine CallK.mk _ (TE w.p w.e f6) fun _=>?_
  rcases h4:Nr w.p w.e with _ | _
  ·have e1:Ci w=false:=by simp only[Ci,h1,h2,h3',h4]; rfl
   have e2:D7 w=w:=by simp[D7,e1]
   simp only[go_sem,h3,h4,e1,e2]
   simp[AY]
  ·have e1:Ci w=true:=by simp only[Ci,h1,h2,h3',h4]; rfl
   have e2:D7 w=Gw w:=by simp only[D7,e1,aW]
   have e4:(Gw w)=⟨w.c0,IntKind.i64.wrap (w.time+1),w.t,IntKind.i64.wrap (w.e+1),w.d,w.b,w.m,w.x,w.p,w.tasks,w.deeds⟩:=by
    unfold Gw
    rw[h2]
    simp
   simp only[go_sem,h3,h4,e1,e2,e4]
   simp[AY]
theorem O9 (w:DWorld) (hf:AU w):Ctr prog 11 [.agg w.c] [.agg (BC w).o,.val (.c (.v (.bool (H9 w))))]:=by
 refine CM call11 func11 ntmps11 results11 fun hw=>?_
 simp only[go_sem]
 refine CW (Zo w hf) fun _=>?_
 rcases h1:JE w with _ | _
 ·have e1:H9 w=false:=by simp only[H9,h1]; rfl
  have e2:BC w=w:=by simp[BC,e1]
  simp only[go_sem,h1,e1,e2,aN]
  try refine DrawK.mkE ?_
  try simp only[go_sem]
  refine CW (Oa w hf) fun _=>?_
  simp only[go_sem]
  simp[AY]
 ·have e1:H9 w=Ci w:=by simp only[H9,h1]; rfl
  have e2:BC w=D7 w:=by simp only[BC,e1,D7]
  simp only[go_sem,h1,e1,e2,aQ]
  refine CW (iy w hf h1) fun _=>?_
  simp only[go_sem]
  simp[AY]
theorem X9 (w:DWorld) (hf:AU w):Ctr prog 8 [.agg w.c] [.val (.c (.v (.bool (H9 w))))]:=by
 refine CM call8 func8 ntmps8 results8 fun hw=>?_
 simp only[go_sem]
 refine CW (O9 w hf) fun _=>?_
 simp only[go_sem]
 try simp[BX,AY]
end Go.Proofs.YtnchiiikacemmaaGreat
