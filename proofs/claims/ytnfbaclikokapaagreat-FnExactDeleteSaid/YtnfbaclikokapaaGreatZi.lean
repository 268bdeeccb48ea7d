/- A part. -/
import Derived.Test.YtnfbaclikokapaaGreatZs
import Derived.Test.YtnfbaclikokapaaGreatZr
import Derived.Test.YtnfbaclikokapaaGreatDk
import Derived.Deep.RegionLaw
import Derived.Test.YtnfbaclikokapaaGreatZd
set_option linter.unusedSimpArgs false
set_option linter.unusedVariables false
set_option maxHeartbeats 8000000
set_option maxRecDepth 100000
open Go.Proofs.Tryz
namespace Go.Proofs.YtnfbaclikokapaaGreat
open Go.Vm
theorem WU (w:DWorld) (hf:Aa w):Ctr prog 92 [.agg w.c] [.val (.c (.v (.bool (VS w))))]:=by
 refine CM call92 func92 ntmps92 results92 fun hw=>?_
 have hld:=xW hf
 unfold VS
 simp only[go_sem]
 refine LoopU.mk 1 (A:=Nat) (fun x=>[(3,.c (.v (.int .i64 (x))))]) (fun _=>[⟨44,14,[w.c],true,true⟩]) (FO w.deeds (deed1 w)) (fun x=>w.deeds.length-x) 0 ⟨⟨rfl,rfl⟩,rfl,DW⟩ ?_
 intro j hj
 simp only[go_sem]
 refine cndC.mk (fun h=>?_) (fun h=>?_)
 ·have hj':j<w.deeds.length:=by simpa using h
  simp only[go_sem,AA _ hj',hj']
  try refine DrawK.mk ?_
  try simp only[go_sem,AA _ hj',hj']
  first | refine CY (Sm w.deeds[j]) ?_ | refine CW (Sm w.deeds[j]) fun _=>?_
  rcases q1:EZ w.deeds[j] with _ | _
  ·simp only[go_sem,q1,BF (p:=deed1 w) hj' (by simp only[deed1,q1,ag])]
  rcases q2:decide (w.deeds[j].inv≥w.time) with _ | _
  rotate_left
  ·simp only[go_sem,q1,q2,BF (p:=deed1 w) hj' (by simp only[deed1,q1,q2]; rfl)]
  rcases q3:decide (w.deeds[j].lin≥w.time) with _ | _
  rotate_left
  ·simp only[go_sem,q1,q2,q3,BF (p:=deed1 w) hj' (by simp only[deed1,q1,q2,q3]; rfl)]
  rcases q4:decide (w.deeds[j].ret≥w.time) with _ | _
  rotate_left
  ·simp only[go_sem,q1,q2,q3,q4,BF (p:=deed1 w) hj' (by simp only[deed1,q1,q2,q3,q4]; rfl)]
  simp only[go_sem,q1,q2,q3,q4,wrap_i64 (n:=(j:Int)+1) (by omega) (by omega)]
  exact⟨j+1,⟨rfl,rfl⟩,rfl,Bc hj' hj (by simp only[deed1,q1,q2,q3,q4]; rfl),by omega⟩
 have hj':j=w.deeds.length:=by have:=hj.1; simp at h; omega
 subst hj'
 simp only[go_sem,CP hj]
noncomputable def Ue (w:DWorld):Bool:=headB w&&(KL w.d&&(!decide (w.d.ver>1000000)&&(((w.p.length:Int)==5)&&(NL w.p w.e&&(((w.tasks.length:Int)==5)&&(VS w&&(fZ w&&(w.d.l.all (Uh w)&&(QH w&&kU w)))))))))
theorem ZL (w:DWorld) (hf:Aa w):Ctr prog 33 [.agg w.c] [.val (.c (.v (.bool (Ue w))))]:=by
 refine CM call33 func33 ntmps33 results33 fun hw=>?_
 have hlt:=Ud hf
 unfold Ue headB
 simp only[go_sem,bi,aK,aI]
 try refine DrawK.mk ?_
 try simp only[go_sem]
 first | refine CY (UU w.c0) ?_ | refine CW (UU w.c0) fun _=>?_
 rcases h1:Lt w.c0 with _ | _
 ·simp only[go_sem,h1,ag,ai,aH]
 simp only[go_sem,h1,ai]
 try refine DrawK.mk ?_
 try simp only[go_sem]
 first | refine CallF.mk _ (AL w.time 0 1000000) ?_ | refine CallK.mk _ (AL w.time 0 1000000) fun _=>?_
 rcases h2:Ac w.time 0 1000000 with _ | _
 ·simp only[go_sem,h2,ag,ai,aH]
 simp only[go_sem,h2,ai]
 try refine DrawK.mk ?_
 try simp only[go_sem]
 first | refine CallF.mk _ (AL w.t 1 1000000) ?_ | refine CallK.mk _ (AL w.t 1 1000000) fun _=>?_
 rcases h3:Ac w.t 1 1000000 with _ | _
 ·simp only[go_sem,h3,ag,ai,aH]
 simp only[go_sem,h3,ai]
 try refine DrawK.mk ?_
 try simp only[go_sem]
 first | refine CallF.mk _ (AL w.e 0 1000000) ?_ | refine CallK.mk _ (AL w.e 0 1000000) fun _=>?_
 rcases h4:Ac w.e 0 1000000 with _ | _
 ·simp only[go_sem,h4,ag,ai,aH]
 simp only[go_sem,h4,ai]
 try refine DrawK.mk ?_
 try simp only[go_sem]
 first | refine CY (WN w.d (lenD hf)) ?_ | refine CW (WN w.d (lenD hf)) fun _=>?_
 rcases h5:KL w.d with _ | _
 ·simp only[go_sem,h5,ag,ai,aH]
 simp only[go_sem,h5,ai]
 rcases h6:decide (w.d.ver>1000000) with _ | _
 rotate_left
 ·simp only[go_sem,h6,aQ,ag]
  try refine DrawK.mk ?_
  try simp only[go_sem,h6]
 rcases h12:((w.p.length:Int)==5) with _ | _
 ·have g:((w.p.length:Int) != 5)=true:=by simp only[bne,h12,aO]
  simp only[go_sem,h6,g,aO,ag,ai]
  try refine DrawK.mk ?_
  try simp only[go_sem,h6,g]
 have g12:((w.p.length:Int) != 5)=false:=by simp only[bne,h12,aQ]
 simp only[go_sem,h6,g12,aO,ai]
 try refine DrawK.mk ?_
 try simp only[go_sem,h6,g12]
 first | refine CallF.mk _ (UX w.p w.e (ADM hf)) ?_ | refine CallK.mk _ (UX w.p w.e (ADM hf)) fun _=>?_
 rcases h13:NL w.p w.e with _ | _
 ·simp only[go_sem,h13,ag]
 rcases h11:((w.tasks.length:Int)==5) with _ | _
 ·have g:((w.tasks.length:Int) != 5)=true:=by simp only[bne,h11,aO]
  simp only[go_sem,h13,g,ag,ai]
  try refine DrawK.mk ?_
  try simp only[go_sem,h13,g]
 have g11:((w.tasks.length:Int) != 5)=false:=by simp only[bne,h11,aQ]
 simp only[go_sem,h13,g11,ai]
 try refine DrawK.mk ?_
 try simp only[go_sem,h13,g11]
 try refine DrawK.mk ?_
 try simp only[go_sem]
 first | refine CY (WU w hf) ?_ | refine CW (WU w hf) fun _=>?_
 rcases h7:VS w with _ | _
 ·simp only[go_sem,h7,ag,ai,aH]
 simp only[go_sem,h7,ai]
 try refine DrawK.mk ?_
 try simp only[go_sem]
 first | refine CY (ZX w hf) ?_ | refine CW (ZX w hf) fun _=>?_
 rcases h8:fZ w with _ | _
 ·simp only[go_sem,h8,ag,ai,aH]
 simp only[go_sem,h8,ai]
 try refine DrawK.mk ?_
 try simp only[go_sem]
 first | refine CY (f_ w hf) ?_ | refine CW (f_ w hf) fun _=>?_
 rcases h9:w.d.l.all (Uh w) with _ | _
 ·simp only[go_sem,h9,ag,ai,aH]
 simp only[go_sem,h9,ai]
 try refine DrawK.mk ?_
 try simp only[go_sem]
 first | refine CY (WQ w hf) ?_ | refine CW (WQ w hf) fun _=>?_
 rcases h10:QH w with _ | _
 ·simp only[go_sem,h10,ag,ai,aH]
 simp only[go_sem,h10,ai]
 have hl5:w.tasks.length=w.p.length:=by
  have a1:(w.tasks.length:Int)=5:=ZZ.1 h11
  have a2:(w.p.length:Int)=5:=ZZ.1 h12
  omega
 unfold kU
 refine LoopU.mk 1 (A:=Nat) (fun x=>[(3,.c (.v (.int .i64 (x))))]) (fun _=>[⟨44,14,[w.c],true,true⟩]) (qg w.tasks fun k t=>O3 w k t (w.p[k]?.getD 0)) (fun x=>w.tasks.length-x) 0 ⟨⟨rfl,rfl⟩,rfl,kT⟩ ?_
 intro k hk
 simp only[go_sem]
 refine cndC.mk (fun h=>?_) (fun h=>?_)
 ·have hk':k<w.tasks.length:=by simpa using h
  have hp:k<w.p.length:=by omega
  have e1:(w.p[k]?.getD 0)=w.p[k]:=by rw[aA hp]; rfl
  simp only[go_sem,AA _ hk',hk']
  try refine DrawK.mk ?_
  try simp only[go_sem,AA _ hk',hk']
  first | refine CY (QQ w k hf hk' hp) ?_ | refine CW (QQ w k hf hk' hp) fun _=>?_
  rcases h14:O3 w k w.tasks[k] w.p[k] with _ | _
  ·simp only[go_sem,h14,IL (p:=fun k t=>O3 w k t (w.p[k]?.getD 0)) hk' (by rw[e1]; exact h14)]
  ·simp only[go_sem,h14,wrap_i64 (n:=(k:Int)+1) (by omega) (by omega)]
   exact⟨k+1,⟨rfl,rfl⟩,rfl,M_ hk' hk (by rw[e1]; exact h14),by omega⟩
 have hk':k=w.tasks.length:=by have:=hk.1; simp at h; omega
 subst hk'
 rw[Qw hk]
 simp only[go_sem]
theorem Z9 (w:DWorld) (hf:Aa w):Ctr prog 44 [.agg w.c] [.val (.c (.v (.bool (EU w))))]:=by
 refine CM call44 func44 ntmps44 results44 fun hw=>?_
 have hlt:=Ud hf
 have hld:=xW hf
 unfold EU headB
 simp only[go_sem]
 try refine DrawK.mk ?_
 try simp only[go_sem]
 first | refine CY (UT w.c0) ?_ | refine CW (UT w.c0) fun _=>?_
 rcases h1:Lt w.c0 with _ | _
 ·simp only[go_sem,h1,ag,ai,aH]
 simp only[go_sem,h1,ai]
 try refine DrawK.mk ?_
 try simp only[go_sem]
 first | refine CallF.mk _ (AC w.time 0 1000000) ?_ | refine CallK.mk _ (AC w.time 0 1000000) fun _=>?_
 rcases h2:Ac w.time 0 1000000 with _ | _
 ·simp only[go_sem,h2,ag,ai,aH]
 simp only[go_sem,h2,ai]
 try refine DrawK.mk ?_
 try simp only[go_sem]
 first | refine CallF.mk _ (AC w.t 1 1000000) ?_ | refine CallK.mk _ (AC w.t 1 1000000) fun _=>?_
 rcases h3:Ac w.t 1 1000000 with _ | _
 ·simp only[go_sem,h3,ag,ai,aH]
 simp only[go_sem,h3,ai]
 try refine DrawK.mk ?_
 try simp only[go_sem]
 first | refine CallF.mk _ (AC w.e 0 1000000) ?_ | refine CallK.mk _ (AC w.e 0 1000000) fun _=>?_
 rcases h4:Ac w.e 0 1000000 with _ | _
 ·simp only[go_sem,h4,ag,ai,aH]
 simp only[go_sem,h4,ai]
 try refine DrawK.mk ?_
 try simp only[go_sem]
 first | refine CY (WM w.d (lenD hf)) ?_ | refine CW (WM w.d (lenD hf)) fun _=>?_
 rcases h5:KL w.d with _ | _
 ·simp only[go_sem,h5,ag,ai,aH]
 simp only[go_sem,h5,ai]
 rcases h6:decide (w.d.ver>1000000) with _ | _
 rotate_left
 ·simp only[go_sem,h6,aQ,ag]
  try refine DrawK.mk ?_
  try simp only[go_sem,h6]
 simp only[go_sem,h6,aO,ai]
 try refine DrawK.mk ?_
 try simp only[go_sem]
 first | refine CY (ZJ w hf) ?_ | refine CW (ZJ w hf) fun _=>?_
 rcases h7:fM w with _ | _
 ·simp only[go_sem,h7,ag,ai,aH]
 simp only[go_sem,h7,ai]
 try refine DrawK.mk ?_
 try simp only[go_sem]
 first | refine CY (WP w hf) ?_ | refine CW (WP w hf) fun _=>?_
 rcases h8:QH w with _ | _
 ·simp only[go_sem,h8,ag,ai,aH]
 simp only[go_sem,h8,ai]
 try refine DrawK.mk ?_
 try simp only[go_sem]
 first | refine CY (WW w hf) ?_ | refine CW (WW w hf) fun _=>?_
 rcases h9:ZF w with _ | _
 ·simp only[go_sem,h9,ag,ai,aH]
 simp only[go_sem,h9,ai]
 try refine DrawK.mk ?_
 try simp only[go_sem]
 first | refine CY (ZK w hf) ?_ | refine CW (ZK w hf) fun _=>?_
 rcases h10:ZG w with _ | _
 ·simp only[go_sem,h10,ag,ai,aH]
 simp only[go_sem,h10,ai]
 rcases h11:((w.tasks.length:Int)==5) with _ | _
 ·have g:((w.tasks.length:Int) != 5)=true:=by simp only[bne,h11,aO]
  simp only[go_sem,g,ag]
  try refine DrawK.mk ?_
  try simp only[go_sem,g]
 have g11:((w.tasks.length:Int) != 5)=false:=by simp only[bne,h11,aQ]
 rcases h12:((w.p.length:Int)==5) with _ | _
 ·have g:((w.p.length:Int) != 5)=true:=by simp only[bne,h12,aO]
  simp only[go_sem,g11,g,ag,ai]
  try refine DrawK.mk ?_
  try simp only[go_sem,g11,g]
 have g12:((w.p.length:Int) != 5)=false:=by simp only[bne,h12,aQ]
 simp only[go_sem,g11,g12,ai]
 try refine DrawK.mk ?_
 try simp only[go_sem,g11,g12]
 first | refine CallF.mk _ (UW w.p w.e (ADM hf)) ?_ | refine CallK.mk _ (UW w.p w.e (ADM hf)) fun _=>?_
 rcases h13:NL w.p w.e with _ | _
 ·simp only[go_sem,h13,ag]
 simp only[go_sem,h13,ai]
 have hl5:w.tasks.length=w.p.length:=by
  have a1:(w.tasks.length:Int)=5:=ZZ.1 h11
  have a2:(w.p.length:Int)=5:=ZZ.1 h12
  omega
 unfold kU
 refine LoopU.mk 1 (A:=Nat) (fun x=>[(79,.c (.v (.int .i64 (x))))]) (fun _=>[⟨44,14,[w.c],true,true⟩]) (qg w.tasks fun k t=>O3 w k t (w.p[k]?.getD 0)) (fun x=>w.tasks.length-x) 0 ⟨⟨rfl,rfl⟩,rfl,kT⟩ ?_
 intro k hk
 simp only[go_sem]
 refine cndC.mk (fun h=>?_) (fun h=>?_)
 ·have hk':k<w.tasks.length:=by simpa using h
  have hp:k<w.p.length:=by omega
  have e1:(w.p[k]?.getD 0)=w.p[k]:=by rw[aA hp]; rfl
  simp only[go_sem,AA _ hk',hk']
  try refine DrawK.mk ?_
  try simp only[go_sem,AA _ hk',hk']
  first | refine CY (QM w k hf hk' hp) ?_ | refine CW (QM w k hf hk' hp) fun _=>?_
  rcases h14:O3 w k w.tasks[k] w.p[k] with _ | _
  ·simp only[go_sem,h14,IL (p:=fun k t=>O3 w k t (w.p[k]?.getD 0)) hk' (by rw[e1]; exact h14),ag]
  ·simp only[go_sem,h14,wrap_i64 (n:=(k:Int)+1) (by omega) (by omega)]
   exact⟨k+1,⟨rfl,rfl⟩,rfl,M_ hk' hk (by rw[e1]; exact h14),by omega⟩
 have hk':k=w.tasks.length:=by have:=hk.1; simp at h; omega
 subst hk'
 rw[Qw hk,ai]
 unfold VS
 simp only[go_sem]
 refine LoopU.mk 1 (A:=Nat) (fun x=>[(90,.c (.v (.int .i64 (x))))]) (fun _=>[⟨44,14,[w.c],true,true⟩]) (FO w.deeds (deed1 w)) (fun x=>w.deeds.length-x) 0 ⟨⟨rfl,rfl⟩,rfl,DW⟩ ?_
 intro j hj
 simp only[go_sem]
 refine cndC.mk (fun h=>?_) (fun h=>?_)
 ·have hj':j<w.deeds.length:=by simpa using h
  simp only[go_sem,AA _ hj',hj']
  try refine DrawK.mk ?_
  try simp only[go_sem,AA _ hj',hj']
  first | refine CY (Sr w.deeds[j]) ?_ | refine CW (Sr w.deeds[j]) fun _=>?_
  rcases q1:EZ w.deeds[j] with _ | _
  ·simp only[go_sem,q1,BF (p:=deed1 w) hj' (by simp only[deed1,q1,ag]),ag]
  rcases q2:decide (w.deeds[j].inv≥w.time) with _ | _
  rotate_left
  ·simp only[go_sem,q1,q2,BF (p:=deed1 w) hj' (by simp only[deed1,q1,q2]; rfl),ag]
  rcases q3:decide (w.deeds[j].lin≥w.time) with _ | _
  rotate_left
  ·simp only[go_sem,q1,q2,q3,BF (p:=deed1 w) hj' (by simp only[deed1,q1,q2,q3]; rfl),ag]
  rcases q4:decide (w.deeds[j].ret≥w.time) with _ | _
  rotate_left
  ·simp only[go_sem,q1,q2,q3,q4,BF (p:=deed1 w) hj' (by simp only[deed1,q1,q2,q3,q4]; rfl),ag]
  simp only[go_sem,q1,q2,q3,q4,wrap_i64 (n:=(j:Int)+1) (by omega) (by omega)]
  exact⟨j+1,⟨rfl,rfl⟩,rfl,Bc hj' hj (by simp only[deed1,q1,q2,q3,q4]; rfl),by omega⟩
 have hj':j=w.deeds.length:=by have:=hj.1; simp at h; omega
 subst hj'
 rw[CP hj,ai]
 simp only[go_sem]
 try refine DrawK.mk ?_
 try simp only[go_sem]
 first | refine CY (QP w hf) ?_ | refine CW (QP w hf) fun _=>?_
 simp only[go_sem]
theorem ADN (w:DWorld) (r:DRef) {x:DRow} (hx:x∈Eh w r):0≤x.id∧x.id≤1000000000:=by
 unfold Eh at hx
 split at hx
 ·simp at hx
 ·rename_i b hb
  rcases h:CS w.c0.cols b.g with _ | l
  ·rw[h] at hx; simp at hx
  ·rw[h] at hx
   have:=(VL (WR h)).2.2 x hx
   exact⟨this.1,this.2.1⟩
theorem fO {α:Type} {l:List α} {p q:α→Bool} (h:∀ x∈l,p x=q x):l.all p=l.all q:=by
 rw[Bool.eq_iff_iff,aF,aF]
 exact⟨fun h2 x hx=>by rw[← h x hx]; exact h2 x hx,fun h2 x hx=>by rw[h x hx]; exact h2 x hx⟩
theorem AFB {w:DWorld} (hd:KL w.d=true):w.d.l.all (Uh w)=ZF w:=by
 refine fO fun r hr=>?_
 obtain⟨h1,h2,h3⟩:=zi hd hr
 unfold Uh QG fK
 rcases ht:there w r with _ | _
 ·simp only[ag]
 rcases k1:r.kind==1 with _ | _
 ·have k2:=ZT h1 k1
  rw[k2]
  simp only[ai,ag,aO,aC,aT,bD]
  refine fO fun x hx=>?_
  have hi:=ADN w r hx
  exact(zk h1 h2 h3 x.id (by omega)).symm
 ·have k2:(r.kind==2)=false:=by
   have:r.kind=1:=by simpa using k1
   rw[this]; rfl
  rw[k2]
  rcases hm:r.many==w.c0.slots with _ | _<;>simp[bne,hm]
theorem ADO {w:DWorld} (hd:KL w.d=true):fZ w=(fM w&&(ZG w&&Uc w)):=by
 have h:QI w.b (O7 w)=(w.b.all (Nv w)&&QI w.b (Oo w)):=by
  rw[Bool.eq_iff_iff,ak,VR,VR,aF]
  constructor
  ·intro h
   refine⟨fun x hx=>?_,fun k hk=>?_⟩
   ·obtain⟨i,hi,rfl⟩:=aaz.1 hx
    have:=h i hi
    simp only[O7,ak] at this
    exact this.1
   ·have:=h k hk
    simp only[O7,ak,qh hd] at this
    exact this.2
  ·rintro⟨h1,h2⟩ k hk
   simp only[O7,ak,qh hd]
   exact⟨h1 _ (aj hk),h2 k hk⟩
 unfold fZ fM Uc
 rw[h]
 ac_rfl
theorem ql (w:DWorld):Ue w=EU w:=by
 unfold Ue EU
 rcases hd:KL w.d with _ | _
 ·simp only[ag]
 rw[AFB hd,ADO hd]
 ac_rfl
theorem Z_ (w:DWorld) (hf:Aa w):Ctr prog 33 [.agg w.c] [.val (.c (.v (.bool (EU w))))]:=by
 rw[← ql]
 exact ZL w hf
def uu (w:DWorld):Bool:=decide (w.time<1000000)&&(decide (w.t<1000000)&&(decide (w.e<1000000)&&decide (w.d.ver<1000000)))
def kW (w:DWorld):Bool:=w.time==1000000||(w.t==1000000||(w.e==1000000||w.d.ver==1000000))
theorem WV (w:DWorld):Ctr prog 197 [.agg w.c] [.val (.c (.v (.bool (kW w))))]:=by
 refine CM call197 func197 ntmps197 results197 fun hw=>?_
 rcases h1:w.time==1000000 with _ | _<;>rcases h2:w.t==1000000 with _ | _<;>rcases h3:w.e==1000000 with _ | _ <;>
  simp only[go_sem,h1,h2,h3,kW,cO,bQ]
theorem zn {w:DWorld} (h:EU w=true):kW w = !uu w:=by
 unfold EU headB at h
 simp only[ak,aa3,aaN,Ac,bf] at h
 obtain⟨⟨_,⟨_,h1⟩,⟨_,h2⟩,⟨_,h3⟩⟩,_,h4,_⟩:=h
 have key:∀ x:Int,x≤1000000→(x==1000000) = !decide (x<1000000):=fun x hx=>by
  by_cases e:x=1000000
  ·subst e; rfl
  ·have e1:(x==1000000)=false:=by simpa using e
   have e2:decide (x<1000000)=true:=by simp; omega
   rw[e1,e2]; rfl
 unfold kW uu
 rw[key _ h1,key _ h2,key _ h3,key _ (by omega)]
 simp only[Bool.not_and]
def NC:DResult:=⟨[],0,false,⟨0,0,ByteArray.empty⟩⟩
def J9:DTask:=⟨0,0,0,[],0,Ih,0,0,[],0,0,0,0,0,false,[]⟩
def Ky (w:DWorld) (t:DTask):DTask:=⟨t.op,t.pc,(w.deeds.length:Int),t.r,t.id,t.q,t.ts,t.ver,t.l,t.i,t.j,t.s,t.at0,t.own,t.won,t.got⟩
def SN (w:DWorld) (k:Int) (t:DTask) (d:DDeed):DDeed:=⟨t.op,k,d.r,d.id,d.q,d.res,d.code,d.stamp,w.time,-1,-1⟩
def Je (w:DWorld) (k:Nat) (t:DTask) (d:DDeed) (code:Int):DWorld:=
 if code=0 then⟨w.c0,IntKind.i64.wrap (w.time+1),w.t,w.e,w.d,w.b,w.m,w.x,w.p,w.tasks.set k (Ky w t),w.deeds ++ [⟨t.op,k,d.r,d.id,d.q,d.res,d.code,d.stamp,w.time,-1,-1⟩]⟩
 else⟨w.c0,IntKind.i64.wrap (w.time+1),w.t,w.e,w.d,w.b,w.m,w.x,w.p.set k (-1),w.tasks,w.deeds ++ [⟨t.op,k,d.r,d.id,d.q,d.res,code,d.stamp,w.time,w.time,w.time⟩]⟩
theorem uw {t:DTask} (h0:(t.op==0)=true) (h:Bf t=true):t=J9:=by
 obtain⟨op,pc,h1,r,id,⟨qk,p,qc,qo⟩,ts,ver,l,i,j,s,at0,own,won,got⟩:=t
 cases p with
 | mk pk pc2 po pv pl =>
 obtain⟨vt,vn,vs⟩:=pv
 simp only[Bf,ul,Y9,ak,ZZ,aa3,DPred.kind,DPred.col,DPred.op,DPred.v,DPred.l] at h h0
 obtain⟨rfl,rfl,g1,rfl,⟨rfl,rfl,g2,rfl,rfl,rfl,⟨rfl,rfl,g3⟩,g4⟩,rfl,rfl,g5,rfl,rfl,rfl,rfl,rfl,rfl,g6⟩:=h
 have hn:∀ {α:Type} {l:List α},(l.length:Int)=0→l = []:=fun {α l} h=>zu (by omega)
 have hvs:vs=ByteArray.empty:=kK g3
 subst h0
 rw[hn g1,hn g2,hn g4,hn g5,hn g6,hvs]
 rfl
theorem zo {w:DWorld} (hw:EU w=true) {k:Nat} (hk:k<w.tasks.length) (h0:(w.tasks[k].op==0)=true):w.tasks[k]=J9:=by
 unfold EU at hw
 simp only[ak] at hw
 obtain⟨_,_,_,_,_,_,_,_,_,_,ht,_⟩:=hw
 have h1:=VR.1 ht k hk
 simp only[O3,H8,ak,sV] at h1
 obtain⟨⟨_,_,_,_,_,_,_,h2⟩,_⟩:=h1
 rcases h2 with h2 | h2
 ·simp only[bne,h0] at h2; cases h2
 ·exact uw h0 h2
open Go.RowKit
theorem fP (l:List DDead):Jj 3 (l.map DDead.c)=true:=MH (fun _=>rfl) l
theorem ZM (l:List DRef):Jj 5 (l.map DRef.c)=true:=MH (fun _=>rfl) l
theorem QK (l:List DRef) (h:l.length≤1048576):Ctr prog 192 [.c (.sl (l.map DRef.c))] [.own 196 5 (l.map DRef.c) true]:=by
 refine CM call192 func192 ntmps192 results192 fun hw=>?_
 have hl:l.length≤2147483648:=by omega
 simp only[go_sem,ZM,ae,hl,aJ,ER]
 try simp
theorem a_ (d:DDir) (h:d.l.length≤1048576):Ctr prog 117 [.agg d.c] [.agg d.o]:=by
 refine CM call117 func117 ntmps117 results117 fun hw=>?_
 simp only[go_sem]
 refine DrawK.mkE ?_
 simp only[go_sem]
 refine CallE.mk _ (QK d.l h) ?_
 simp only[go_sem,ER]
 try simp[AU,AO]
theorem kX (d:DDir) (h:d.l.length≤1048576):Ctr prog 84 [.agg d.c] [.agg d.o]:=by
 refine CM call84 func84 ntmps84 results84 fun hw=>?_
 have hl:d.l.length≤2147483648:=by omega
 simp only[go_sem]
 refine DrawK.mkE ?_
 simp only[go_sem,ZM,ae,hl,aJ,ER]
 try simp[AU,AO]
theorem ADP {N:Nat} {a b c d:Ob} (ha:Az N a=true) (hb:Az N b=true) (hc:Az N c=true) (hd:Az N d=true) : [a,b,c,d].all (Az N)=true:=by simp[ha,hb,hc,hd]
def qm (n:Int):List Cl:=[.v (.int .i64 n),.v (.slice none 0 0)]
def uy (n:Int) (l:Nat):List Cl:=[.v (.int .i64 n),.ref l]
@[go_sem] theorem AG6 (n:Int):qm n = [.v (.int .i64 n),.v (.slice none 0 0)]:=rfl
@[go_sem] theorem AFr (n:Int) (l:Nat):uy n l = [.v (.int .i64 n),.ref l]:=rfl
theorem Wp (c:DChunk) (hc:Gg c):Ctr prog 193 [.agg c.c] [.agg c.o]:=by
 rw[Ez] at hc
 refine CM call193 func193 ntmps193 results193 fun hw=>?_
 have hlen:=hc.1
 simp only[go_sem]
 refine LoopH.mk [] (A:=Nat×List DSlot) (fun x=>[(12,.c (.v (.int .i64 (x.1))))]) (fun x=>[⟨158,2,[c.c],true,true⟩,⟨158,2,[qm 0],true,true⟩,⟨158,2,[uy c.next 3],true,true⟩,⟨199,2,x.2.map DSlot.o,true,true⟩]) (fun x=>x.1≤c.l.length∧x.2.length=x.1∧x.2++c.l.drop x.1=c.l) (fun x=>c.l.length-x.1) (0,[]) (Head.trans (Head.nilR 2 1 199 2 ⟨158,2,[qm c.next],true,true⟩ (qm c.next) rfl rfl rfl) (Head.sel [(0,false),(1,true),(2,true),(3,false)] ⟨rfl,rfl,rfl,rfl,rfl,rfl,trivial⟩ rfl)) ⟨ax _,rfl,rfl⟩ ?_
 rintro⟨k,out⟩ ⟨hk,hol,hb⟩
 dsimp only at hk hol hb
 simp only[go_sem]
 refine cndC.mk (fun h=>?_) (fun h=>?_)
 ·have hk':k<c.l.length:=by simpa using h
  rw[aG hk'] at hb
  have hr:=hc.2 _ (aj hk')
  rw[LM] at hr
  have hol2:out.length+1≤2147483648:=by omega
  have hnr:∀ (a:Int) (l:Nat),Df [[Cl.v (.int .i64 a),.ref l]]=false:=fun _ _=>rfl
  simp only[go_sem,AA _ hk',hk']
  refine DrawK.edge 6 8 [0,1,2,3,4,5,6,7,8,9,10,11] [7,8] rfl (by kernel_rfl) rfl (by kernel_rfl) ?_
  refine DrawK.mkE ?_
  simp only[go_sem,AA _ hk',hk']
  refine CallE.mk _ (Fh c.l[k].l hr.1) ?_
  simp only[go_sem,bK,dm,AA _ hk',hk',hol2,hnr,MG,aC,aJ,wrap_i64 (n:=(k:Int)+1) (by omega) (by omega)]
  refine⟨(k+1,out ++ [c.l[k]]),Head.selAbs [(0,false),(1,true),(2,true),(7,true),(5,false)] 4 3 ⟨rfl,rfl,rfl,rfl,rfl,I7 DSlot.o_nr _ out rfl,AQ DVal.pure,trivial⟩ ⟨out.length,out.map DSlot.o ++ [DSlot.o c.l[k]],_,DSlot.o c.l[k],_,⟨W_ 3,rfl,I5 DSlot.o_nr _ out _ _,by simp,rfl⟩,
   ⟨rfl,rfl,rfl,rfl,rfl,rfl,CV _,by simp[D7],fun l hl=>by simp[D7] at hl; omega⟩,⟨rfl, ?tr⟩, ?eq⟩,⟨hk',by simp; omega,(bM _ _ _).trans hb⟩,by simp only; omega⟩
  case tr=>unfold A8; rw[BJ]; exact ADP rfl rfl rfl (AP (FY _))
  case eq=>unfold A8; rw[BJ,Vp]; rfl
 ·have hk':k=c.l.length:=by simp at h; omega
  subst hk'
  rw[aU] at hb
  have:out=c.l:=by simpa using hb
  subst this
  simp only[go_sem,FY]
  try simp[AU,AO]
theorem kY (c:DChunk) (hc:Gg c):Ctr prog 210 [.agg c.c] [.agg c.o]:=by
 rw[Ez] at hc
 refine CM call210 func210 ntmps210 results210 fun hw=>?_
 have hlen:=hc.1
 simp only[go_sem]
 refine LoopH.mk [8,7] (A:=Nat×List DSlot) (fun x=>[(4,.c (.v (.int .i64 (x.1)))),(3,.lp 2 0 0)]) (fun x=>[⟨158,2,[c.c],true,true⟩,⟨158,2,[qm 0],true,true⟩,⟨158,2,[uy c.next 3],true,true⟩,⟨199,2,x.2.map DSlot.o,true,true⟩]) (fun x=>x.1≤c.l.length∧x.2.length=x.1∧x.2++c.l.drop x.1=c.l) (fun x=>c.l.length-x.1) (0,[]) (Head.sel [(0,false),(1,true),(3,true),(2,false)] ⟨rfl,rfl,rfl,rfl,rfl,rfl,trivial⟩ rfl) ⟨ax _,rfl,rfl⟩ ?_
 rintro⟨k,out⟩ ⟨hk,hol,hb⟩
 dsimp only at hk hol hb
 simp only[go_sem]
 refine cndC.mk (fun h=>?_) (fun h=>?_)
 ·have hk':k<c.l.length:=by simpa using h
  rw[aG hk'] at hb
  have hr:=hc.2 _ (aj hk')
  rw[LM] at hr
  have hol2:out.length+1≤2147483648:=by omega
  have hsl2:c.l[k].l.length≤2147483648:=by have:=hr.1; omega
  have hnr:∀ (a:Int) (l:Nat),Df [[Cl.v (.int .i64 a),.ref l]]=false:=fun _ _=>rfl
  simp only[go_sem,AA _ hk',hk']
  refine DrawK.edge 15 17 [0,1,2,3,4,5,6,7,8,9,10,11,12,13,14,15,16,17,18,19,20] [16,17] rfl (by kernel_rfl) rfl (by kernel_rfl) ?_
  refine DrawK.mkE ?_
  simp only[go_sem,AA _ hk',hk',G7,hsl2,hol2,hnr,bK,dm,MG,aC,aJ,wrap_i64 (n:=(k:Int)+1) (by omega) (by omega)]
  refine⟨(k+1,out ++ [c.l[k]]),Head.selAbs [(0,false),(1,true),(2,true),(7,true),(5,false)] 4 3 ⟨rfl,rfl,rfl,rfl,rfl,I7 DSlot.o_nr _ out rfl,AQ DVal.pure,trivial⟩ ⟨out.length,out.map DSlot.o ++ [DSlot.o c.l[k]],_,DSlot.o c.l[k],_,⟨W_ 3,rfl,I5 DSlot.o_nr _ out _ _,by simp,rfl⟩,
   ⟨rfl,rfl,rfl,rfl,rfl,rfl,CV _,by simp[D7],fun l hl=>by simp[D7] at hl; omega⟩,⟨rfl, ?tr⟩, ?eq⟩,⟨hk',by simp; omega,(bM _ _ _).trans hb⟩,by simp only; omega⟩
  case tr=>unfold A8; rw[BJ]; exact ADP rfl rfl rfl (AP (FY _))
  case eq=>unfold A8; rw[BJ,Vp]; rfl
 ·have hk':k=c.l.length:=by simp at h; omega
  subst hk'
  rw[aU] at hb
  have:out=c.l:=by simpa using hb
  subst this
  simp only[go_sem,FY]
  try simp[AU,AO]
theorem ZN (l:List DBuf) (hl:fitS Io l):Ctr prog 118 [.c (.sl (l.map DBuf.c))] [.own 160 5 (l.map DBuf.o) true]:=by
 refine CM call118 func118 ntmps118 results118 fun hw=>?_
 have hlen:=hl.1
 simp only[go_sem,ae]
 refine LoopH.mk [6] (A:=Nat×List DBuf) (fun x=>[(9,.c (.v (.int .i64 (x.1)))),(3,.c (.ref 0))]) (fun x=>[⟨160,5,x.2.map DBuf.o,true,true⟩]) (fun x=>x.1≤l.length∧x.2.length≤x.1∧x.2++l.drop x.1=l) (fun x=>l.length-x.1) (0,[]) (Head.sel [(0,false)] ⟨rfl,rfl,rfl,trivial⟩ rfl) ⟨ax _,aN _,rfl⟩ ?_
 rintro⟨k,out⟩ ⟨hk,hol,hb⟩
 dsimp only at hk hol hb
 simp only[go_sem,ae]
 refine cndC.mk (fun h=>?_) (fun h=>?_)
 ·have hk':k<l.length:=by simpa using h
  rw[aG hk'] at hb
  have hr:=hl.2 _ (aj hk')
  rw[Ht] at hr
  have hol2:out.length+1≤2147483648:=by omega
  have hnr:∀ (a b c:Int) (m n:Nat),Df [[Cl.v (.int .i64 a),Cl.v (.int .i64 b),Cl.v (.int .i64 c),.ref m,.ref n]]=false:=fun _ _ _ _ _=>rfl
  simp only[go_sem,ae,AA _ hk',hk',aJ]
  refine DrawK.edge 10 12 [0,1,2,3,4,5,6,7,8,9,10,11,12,13,14] [11,12] rfl (by kernel_rfl) rfl (by kernel_rfl) ?_
  refine DrawK.mkE ?_
  simp only[go_sem,AA _ hk',hk']
  refine CZ (Wp l[k].c0 hr.1) ?_
  simp only[go_sem,AA _ hk',hk']
  refine CallE.mk _ (Et l[k].g (by have:=hr.2; omega)) ?_
  simp only[go_sem,bK,dm,AA _ hk',hk',hol2,hnr,MG,aC,aJ,wrap_i64 (n:=(k:Int)+1) (by omega) (by omega)]
  refine⟨(k+1,out ++ [l[k]]),Head.selAbs [(5,true),(2,true),(3,false)] 1 0 ⟨rfl,rfl,I7 DBuf.o_nr _ out rfl,Dq (FY _),AQ byteC.pure,trivial⟩ ⟨out.length,out.map DBuf.o ++ [DBuf.o l[k]],_,DBuf.o l[k],_,⟨W_ 0,rfl,I5 DBuf.o_nr _ out _ _,by simp,rfl⟩,
   ⟨rfl,rfl,rfl,rfl,rfl,rfl,rfl,rfl, ?xs,rfl, ?nr,by simp[D7],rfl,rfl,rfl,rfl,Bg _,by simp[D7],fun l hl=>by simp[D7] at hl; omega⟩,⟨rfl, ?tr⟩, ?eq⟩,⟨hk',by simp; omega,(bM _ _ _).trans hb⟩,by simp only; omega⟩
  case xs=>exact DF (FY _)
  case nr=>exact FY _
  case tr=>unfold A8; rw[BJ]; exact allA (AP (DY _))
  case eq=>unfold A8; rw[BJ,Vp]; rfl
 ·have hk':k=l.length:=by simp at h; omega
  subst hk'
  rw[aU] at hb
  have:out=l:=by simpa using hb
  subst this
  simp only[go_sem,DY]
  try simp
end Go.Proofs.YtnfbaclikokapaaGreat
