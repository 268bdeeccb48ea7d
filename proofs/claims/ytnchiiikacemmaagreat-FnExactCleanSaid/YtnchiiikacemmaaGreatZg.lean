/- A part. -/
import Derived.Test.YtnchiiikacemmaaGreatZo
set_option linter.unusedSimpArgs false
set_option linter.unusedVariables false
set_option maxHeartbeats 8000000
set_option maxRecDepth 10000
open Go.Proofs.Tryz
namespace Go.Proofs.YtnchiiikacemmaaGreat
open Go.Vm
def ZM (t:DTask) (h:Int):List Cl:=[.v (.int .i64 t.op),.v (.int .i64 t.pc),.v (.int .i64 h),.sl (t.r.map DVal.c),.v (.int .i64 t.id),.v (.int .i64 t.q.kind),.v (.int .i64 t.q.p.kind),.v (.int .i64 t.q.p.col),.v (.int .i64 t.q.p.op),.v (.int .i64 t.q.p.v.ty),.v (.int .i64 t.q.p.v.n),.v (.string t.q.p.v.s),.sl (t.q.p.l.map DPred.c),.v (.int .i64 t.q.col),.sl (t.q.out.map intC),.v (.int .i64 t.ts),.v (.int .i64 t.ver),.sl (t.l.map DRef.c),.v (.int .i64 t.i),.v (.int .i64 t.j),.v (.int .i64 t.s),.v (.int .i64 t.at0),.v (.int .i64 t.own),.v (.bool t.won),.sl (t.got.map DRow.c)]
@[go_sem] theorem AEO (t:DTask) (h:Int):ZM t h = [.v (.int .i64 t.op),.v (.int .i64 t.pc),.v (.int .i64 h),.sl (t.r.map DVal.c),.v (.int .i64 t.id),.v (.int .i64 t.q.kind),.v (.int .i64 t.q.p.kind),.v (.int .i64 t.q.p.col),.v (.int .i64 t.q.p.op),.v (.int .i64 t.q.p.v.ty),.v (.int .i64 t.q.p.v.n),.v (.string t.q.p.v.s),.sl (t.q.p.l.map DPred.c),.v (.int .i64 t.q.col),.sl (t.q.out.map intC),.v (.int .i64 t.ts),.v (.int .i64 t.ver),.sl (t.l.map DRef.c),.v (.int .i64 t.i),.v (.int .i64 t.j),.v (.int .i64 t.s),.v (.int .i64 t.at0),.v (.int .i64 t.own),.v (.bool t.won),.sl (t.got.map DRow.c)]:=rfl
theorem gB {t:DTask} {k:Int} (h:Ib t k=true):0≤t.h∧0≤t.i∧0≤t.j∧(∀ r∈t.l,Dv r=true)∧((t.op==0)=true→(t.own==0)=true):=by
 simp only[Ib,ax] at h
 obtain⟨_,_,_,_,h5,h6,_,h8⟩:=h
 simp only[numsL,bK,Oo,Bz,ax,abt,aaN] at h5
 refine⟨by omega,by omega,by omega,fun r hr=>?_,fun h0=>?_⟩
 ·have:=aG.1 h6 r hr
  simp only[FP,ax] at this
  exact this.1
 ·have e:(t.op != 0)=false:=by simp[bne,h0]
  rw[e,bT] at h8
  simp only[Bv,ax] at h8
  exact h8.2.2.2.2.2.2.2.2.2.2.2.2.1
theorem ZN {w:DWorld} (hf:AU w) {k:Nat} (hk:k<w.tasks.length):FW w.tasks[k]:=by
 rw[BH] at hf
 exact hf.2.2.2.2.2.2.1.2 _ (aj hk)
theorem ZO {w:DWorld} (hf:AU w) {k:Nat} (hk:k<w.deeds.length):E8 w.deeds[k]:=by
 rw[BH] at hf
 exact hf.2.2.2.2.2.2.2.2 _ (aj hk)
theorem Px (w:DWorld) (k:Nat) (hf:AU w) (hk:k<w.tasks.length) (hp:k<w.p.length):Ctr prog 95 [.agg w.c,.c (.v (.int .i64 ((k:Int))))] [.val (.c (.v (.bool (Po w k w.tasks[k] w.p[k]))))]:=by
 have hft:=ZN hf hk
 have hft2:=hft
 rw[D6] at hft2
 have hlt:=hft2.2.2.1
 have hld:=yL hf
 have hlb:=rP hf
 refine CM call95 func95 ntmps95 results95 fun hw=>?_
 generalize ht:w.tasks[k]=t at hft hft2 hlt
 unfold Po
 simp only[go_sem,AA _ hk,hk,ht]
 try refine DrawK.mk ?_
 try simp only[go_sem,AA _ hk,hk,ht]
 first | refine CY (UZ t k hft) ?_ | refine CW (UZ t k hft) fun _=>?_
 rcases h1:Ib t k with _ | _
 ·simp only[go_sem,h1,ag]
 obtain⟨g1,g2,g3,g4,g5⟩:=gB h1
 simp only[go_sem,h1,AA _ hp,hp,ai]
 try refine DrawK.mk ?_
 try simp only[go_sem,h1,AA _ hp,hp]
 first | refine CY (Wj t) ?_ | refine CW (Wj t) fun _=>?_
 rcases h2:((w.p[k] != -1)==looks t) with _ | _
 ·simp only[go_sem,h2,aN,ag]
 simp only[go_sem,h2,aQ,ai]
 try refine DrawK.mk ?_
 try simp only[go_sem,h2]
 first | refine CY (Zd t) ?_ | refine CW (Zd t) fun _=>?_
 rcases h3:t.op==0 with _ | _
 rotate_left
 ·simp only[go_sem,h3,Om]
 simp only[go_sem,h3,bT]
 obtain⟨m,hm⟩:=aP g1
 unfold rE
 rw[hm,bV]
 rcases bf m w.deeds.length with hml | hml
 rotate_left
 ·have e1:decide ((m:Int)≥(w.deeds.length:Int))=true:=by simp; omega
  rw[bF hml]
  simp only[go_sem,hm,e1]
  try refine DrawK.mk ?_
  try simp only[go_sem,hm,e1]
 have e1:decide ((m:Int)≥(w.deeds.length:Int))=false:=by simp; omega
 rw[aA hml]
 generalize hd:w.deeds[m]=d
 have hfd:E8 d:=hd▸ZO hf hml
 rcases h4:ZH k t d with _ | _
 ·simp only[h4,ag]
  unfold ZH at h4
  rcases k1:d.task==(k:Int) with _ | _
  ·have j1:(d.task != (k:Int))=true:=by simp[bne,k1]
   try simp only[go_sem,hm,e1,AA _ hml,hml,hd,j1]
   try refine DrawK.mk ?_
   try simp only[go_sem,hm,e1,AA _ hml,hml,hd,j1]
  have j1:(d.task != (k:Int))=false:=by simp[bne,k1]
  rcases k2:d.op==t.op with _ | _
  ·have j2:(d.op != t.op)=true:=by simp[bne,k2]
   try simp only[go_sem,hm,e1,AA _ hml,hml,hd,j1,j2]
   try refine DrawK.mk ?_
   try simp only[go_sem,hm,e1,AA _ hml,hml,hd,j1,j2]
  have j2:(d.op != t.op)=false:=by simp[bne,k2]
  rw[k1,k2,ai,ai] at h4
  have j3:(d.ret != -1)=true:=by simp[bne,h4]
  try simp only[go_sem,hm,e1,AA _ hml,hml,hd,j1,j2,j3]
  try refine DrawK.mk ?_
  try simp only[go_sem,hm,e1,AA _ hml,hml,hd,j1,j2,j3]
 simp only[h4,ai]
 have h4b:=h4
 simp only[ZH,ax] at h4b
 have j1:(d.task != (k:Int))=false:=by simp only[bne,h4b.1,aQ]
 have j2:(d.op != t.op)=false:=by simp only[bne,h4b.2.1,aQ]
 have j3:(d.ret != -1)=false:=by simp only[bne,h4b.2.2,aQ]
 try simp only[go_sem,hm,e1,AA _ hml,hml,hd,j1,j2,j3]
 try refine DrawK.mk ?_
 try simp only[go_sem,hm,e1,AA _ hml,hml,hd,j1,j2,j3]
 refine LoopU.mk 2 (A:=Nat) (fun x=>[(72,.c (.v (.int .i64 (x))))]) (fun _=>[⟨45,14,[w.c],true,true⟩,⟨127,25,[ZM t (m:Int)],true,true⟩]) (Eh t.l (there w)) (fun x=>t.l.length-x) 0 ⟨⟨rfl,rfl⟩,rfl,DJ⟩ ?_
 intro j hj
 simp only[go_sem]
 refine cndC.mk (fun h=>?_) (fun h=>?_)
 ·have hj':j<t.l.length:=by simpa using h
  simp only[go_sem,AA _ hj',hj']
  try refine DrawK.mk ?_
  try simp only[go_sem,AA _ hj',hj']
  first | refine CY (Fj w t.l[j]) ?_ | refine CW (Fj w t.l[j]) fun _=>?_
  rcases h5:there w t.l[j] with _ | _
  ·simp only[go_sem,h5,A_ (p:=there w) hj' h5,ag]
  ·simp only[go_sem,h5,wrap_i64 (n:=(j:Int)+1) (by omega) (by omega)]
   exact⟨j+1,⟨rfl,rfl⟩,rfl,BI hj' hj h5,by omega⟩
 have hj':j=t.l.length:=by have:=hj.1; simp at h; omega
 subst hj'
 have hth:=Bo hj
 rw[hth,ai]
 have HT:TaskIn w t d m:=⟨hml,hd,hm,hft,hfd,hth,g2,g3,g4⟩
 unfold ownB swB
 rcases o1:t.op==1 with _ | _
 rotate_left
 ·have o4:(t.op==4)=false:=by
   have:t.op=1:=by simpa using o1
   rw[this]; rfl
  simp only[o1,o4,ai,aW,ag,az,aI]
  rcases p8:t.pc==8 with _ | _
  ·simp only[az,aI]
   rcases w0:t.own==0 with _ | _
   ·have j0:(t.own != 0)=true:=by simp[bne,w0]
    simp only[go_sem,o1,o4,p8,j0,ag]
   have j0:(t.own != 0)=false:=by simp[bne,w0]
   simp only[go_sem,o1,o4,p8,j0,ai]
   try refine DrawK.mk ?_
   try simp only[go_sem,o1,p8]
   first | refine CallF.mk _ (by simpa only[go_sem,hm] using Jf w t d hf HT) ?_ | refine CallK.mk _ (by simpa only[go_sem,hm] using Jf w t d hf HT) fun _=>?_
   simp only[go_sem]
  ·simp only[aW]
   simp only[go_sem,o1,p8]
   try refine DrawK.mk ?_
   try simp only[go_sem,o1,p8]
   first | refine CallF.mk _ (by simpa only[go_sem,hm] using OY w t 1 hf) ?_ | refine CallK.mk _ (by simpa only[go_sem,hm] using OY w t 1 hf) fun _=>?_
   rcases q1:Ub w t 1 with _ | _
   ·simp only[go_sem,q1,ag]
   have hin:Ac t.own 1 w.b.length=true:=by
    unfold Ub at q1
    rw[ax] at q1
    exact q1.1
   obtain⟨q,hq,e3,e4⟩:=yM hlb hin
   have hol:ZG w t=(w.b[q].c0.l.length:Int):=by unfold ZG; rw[e4,aA hq]
   rw[hol]
   rcases l1:((w.b[q].c0.l.length:Int)==w.c0.slots) with _ | _
   ·have j1:((w.b[q].c0.l.length:Int) != w.c0.slots)=true:=by simp only[bne,l1,aN]
    simp only[go_sem,q1,e3,AA _ hq,hq,j1,ai,ag]
   have j1:((w.b[q].c0.l.length:Int) != w.c0.slots)=false:=by simp only[bne,l1,aQ]
   simp only[go_sem,q1,e3,AA _ hq,hq,j1,o1,ai]
   try refine DrawK.mk ?_
   try simp only[go_sem,o1]
   first | refine CallF.mk _ (by simpa only[go_sem,hm] using Jf w t d hf HT) ?_ | refine CallK.mk _ (by simpa only[go_sem,hm] using Jf w t d hf HT) fun _=>?_
   simp only[go_sem]
 simp only[o1,ag,az,aI]
 rcases o4:t.op==4 with _ | _
 ·simp only[ag,az,aI]
  rcases w0:t.own==0 with _ | _
  ·have j0:(t.own != 0)=true:=by simp[bne,w0]
   simp only[go_sem,o1,o4,j0,ag]
  have j0:(t.own != 0)=false:=by simp[bne,w0]
  rcases o2:t.op==2 with _ | _
  rotate_left
  ·simp only[aW,ai]
   simp only[go_sem,o1,o4,o2,j0]
   try refine DrawK.mk ?_
   try simp only[go_sem,o1,o2]
   first | refine CallF.mk _ (by simpa only[go_sem,hm] using P9 w t d hf HT) ?_ | refine CallK.mk _ (by simpa only[go_sem,hm] using P9 w t d hf HT) fun _=>?_
   simp only[go_sem]
  rcases o3:t.op==3 with _ | _
  rotate_left
  ·simp only[az,aI,aW,ai]
   simp only[go_sem,o1,o4,o2,o3,j0]
   try refine DrawK.mk ?_
   try simp only[go_sem,o1,o2,o3]
   first | refine CallF.mk _ (by simpa only[go_sem,hm] using P_ w t d hf HT) ?_ | refine CallK.mk _ (by simpa only[go_sem,hm] using P_ w t d hf HT) fun _=>?_
   simp only[go_sem]
  simp only[az,aI,ai]
  simp only[go_sem,o1,o4,o2,o3,j0]
  unfold yK
  try refine DrawK.mk ?_
  try simp only[go_sem,o1,o4,o2,o3,j0]
  first | refine CallF.mk _ (AC t.pc 2 5) ?_ | refine CallK.mk _ (AC t.pc 2 5) fun _=>?_
  rcases r1:Ac t.pc 2 5 with _ | _
  ·simp only[go_sem,r1,aN,Om]
  simp only[go_sem,r1,aQ,bT]
  try refine DrawK.mk ?_
  try simp only[go_sem,r1]
  first | refine CallF.mk _ (AC (t.l.length:Int) 1 2) ?_ | refine CallK.mk _ (AC (t.l.length:Int) 1 2) fun _=>?_
  simp only[go_sem]
 ·have o2:(t.op==2)=false:=by
   have:t.op=4:=by simpa using o4
   rw[this]; rfl
  have o3:(t.op==3)=false:=by
   have:t.op=4:=by simpa using o4
   rw[this]; rfl
  simp only[o2,o3,ai,az,aI]
  have e45:Ac t.pc 4 5=((t.pc==4)||(t.pc==5)):=by
   unfold Ac
   rcases p4:t.pc==4 with _ | _
   ·rcases p5:t.pc==5 with _ | _
    ·simp at p4 p5 ⊢; omega
    ·simp at p5 ⊢; omega
   ·simp at p4 ⊢; omega
  unfold yK
  rcases h45:Ac t.pc 4 5 with _ | _
  ·rw[h45] at e45
   have p4:(t.pc==4)=false:=by rcases p:t.pc==4 with _ | _<;>simp[p] at e45 ⊢
   have p5:(t.pc==5)=false:=by rcases p:t.pc==5 with _ | _<;>simp[p] at e45 ⊢
   simp only[az,aI]
   rcases w0:t.own==0 with _ | _
   ·have j0:(t.own != 0)=true:=by simp[bne,w0]
    simp only[go_sem,o1,o4,p4,p5,j0,ag]
   have j0:(t.own != 0)=false:=by simp[bne,w0]
   simp only[go_sem,o1,o4,o2,o3,p4,p5,j0,ai]
   try refine DrawK.mk ?_
   try simp only[go_sem,o1,o4,o2,o3]
   first | refine CallF.mk _ (AC t.pc 2 5) ?_ | refine CallK.mk _ (AC t.pc 2 5) fun _=>?_
   rcases r1:Ac t.pc 2 5 with _ | _
   ·simp only[go_sem,r1,aN,Om]
   simp only[go_sem,r1,aQ,bT]
   try refine DrawK.mk ?_
   try simp only[go_sem,r1]
   first | refine CallF.mk _ (AC (t.l.length:Int) 1 2) ?_ | refine CallK.mk _ (AC (t.l.length:Int) 1 2) fun _=>?_
   simp only[go_sem]
  ·rw[h45] at e45
   have hp:(t.pc==4)=true∨((t.pc==4)=false∧(t.pc==5)=true):=by
    rcases p:t.pc==4 with _ | _
    ·rw[p,bT] at e45
     exact .inr ⟨rfl,e45.symm⟩
    ·exact .inl rfl
   simp only[aW]
   rcases hp with p4 | ⟨p4,p5⟩
   rotate_left
   simp only[go_sem,o1,o4,p4,p5]
   rotate_left
   simp only[go_sem,o1,o4,p4]
   all_goals
    try refine DrawK.mk ?_
    try simp only[go_sem,o1,o4,p4]
    first | refine CallF.mk _ (by simpa only[go_sem,hm] using OY w t 2 hf) ?_ | refine CallK.mk _ (by simpa only[go_sem,hm] using OY w t 2 hf) fun _=>?_
    rcases q1:Ub w t 2 with _ | _
    ·simp only[go_sem,q1,ag]
    simp only[go_sem,q1,o1,o4,o2,o3,ai]
    try refine DrawK.mk ?_
    try simp only[go_sem,o1,o4,o2,o3]
    first | refine CallF.mk _ (AC t.pc 2 5) ?_ | refine CallK.mk _ (AC t.pc 2 5) fun _=>?_
    rcases r1:Ac t.pc 2 5 with _ | _
    ·simp only[go_sem,r1,aN,Om]
    simp only[go_sem,r1,aQ,bT]
    try refine DrawK.mk ?_
    try simp only[go_sem,r1]
    first | refine CallF.mk _ (AC (t.l.length:Int) 1 2) ?_ | refine CallK.mk _ (AC (t.l.length:Int) 1 2) fun _=>?_
    simp only[go_sem]
theorem gG (w:DWorld) (t:DTask) (hf:AU w):Ctr prog 156 [.agg w.c,.agg t.c] [.val (.c (.v (.bool (ownB w t))))]:=by
 refine CM call156 func156 ntmps156 results156 fun hw=>?_
 have hlb:=rP hf
 unfold ownB
 rcases o1:t.op==1 with _ | _
 ·rcases o4:t.op==4 with _ | _
  ·simp only[go_sem,o1,o4,ag,az,aI]
  simp only[go_sem,o1,o4,ag,ai,az,aI]
  try refine DrawK.mk ?_
  try simp only[go_sem,o1,o4]
  first | refine CallF.mk _ (AL t.pc 4 5) ?_ | refine CallK.mk _ (AL t.pc 4 5) fun _=>?_
  rcases h45:Ac t.pc 4 5 with _ | _
  ·simp only[go_sem,h45,az,aI]
  simp only[go_sem,h45,aW]
  unfold Ub
  try refine DrawK.mk ?_
  try simp only[go_sem,h45]
  first | refine CallF.mk _ (AL t.own 1 w.b.length) ?_ | refine CallK.mk _ (AL t.own 1 w.b.length) fun _=>?_
  rcases q1:Ac t.own 1 w.b.length with _ | _
  ·simp only[go_sem,q1,ag]
  obtain⟨q,hq,e3,e4⟩:=yM hlb q1
  rw[e4,aA hq]
  simp only[go_sem,q1,e3,AA _ hq,hq,ai]
 ·have o4:(t.op==4)=false:=by
   have:t.op=1:=by simpa using o1
   rw[this]; rfl
  rcases p8:t.pc==8 with _ | _
  ·simp only[go_sem,o1,o4,p8,ag,ai,az,aI]
  simp only[go_sem,o1,o4,p8,ai,aW]
  unfold Ub
  try refine DrawK.mk ?_
  try simp only[go_sem,o1,o4,p8]
  first | refine CallF.mk _ (AL t.own 1 w.b.length) ?_ | refine CallK.mk _ (AL t.own 1 w.b.length) fun _=>?_
  rcases q1:Ac t.own 1 w.b.length with _ | _
  ·simp only[go_sem,q1,ag]
  obtain⟨q,hq,e3,e4⟩:=yM hlb q1
  have hol:ZG w t=(w.b[q].c0.l.length:Int):=by unfold ZG; rw[e4,aA hq]
  rw[e4,aA hq,hol]
  simp only[go_sem,q1,e3,AA _ hq,hq,ai]
  rcases k1:w.b[q].kind==1 with _ | _
  ·simp only[go_sem,k1,ag]
  ·simp only[go_sem,k1,ai]
theorem Q9 (w:DWorld) (t:DTask) (d:DDeed) {m:Nat} (hf:AU w) (H:TaskIn w t d m):Ctr prog 157 [.agg w.c,.agg t.c,.agg d.c] [.val (.c (.v (.bool (ACA w t d))))]:=by
 obtain⟨hm,hd,ht,hft,hfd,hth,hi,hj,hfr⟩:=H
 refine CM call157 func157 ntmps157 results157 fun hw=>?_
 rw[D6] at hft
 rw[F7] at hfd
 unfold ACA
 rw[AHK]
 simp only[go_sem]
 try refine DrawK.mk ?_
 try simp only[go_sem]
 first | refine CallF.mk _ (OA w.c0.cols t.r) ?_ | refine CallK.mk _ (OA w.c0.cols t.r) fun _=>?_
 rcases h1:fits w.c0.cols t.r with _ | _
 ·simp only[go_sem,h1,ag]
 simp only[go_sem,h1,ai]
 try refine DrawK.mk ?_
 try simp only[go_sem,h1]
 first | refine CallF.mk _ (Ot t.r d.r hft.1.1 hfd.1.1) ?_ | refine CallK.mk _ (Ot t.r d.r hft.1.1 hfd.1.1) fun _=>?_
 rcases h2:Kt t.r d.r with _ | _
 ·simp only[go_sem,h2,ag]
 simp only[go_sem,h2,ai]
 try refine DrawK.mk ?_
 try simp only[go_sem]
 first | refine CallF.mk _ (AL t.pc 2 7) ?_ | refine CallK.mk _ (AL t.pc 2 7) fun _=>?_
 rcases h3:Ac t.pc 2 7 with _ | _
 ·simp only[go_sem,h3,aN,Om]
 rcases h4:t.pc==5 with _ | _
 rotate_left
 ·simp only[go_sem,h3,h4,aQ,Bool.or_true,Om]
 simp only[go_sem,h3,h4,aQ,bT]
 rcases h5:((t.l.length:Int)==1) with _ | _
 ·have g5:((t.l.length:Int) != 1)=true:=by simp only[bne,h5,aN]
  simp only[go_sem,g5,ag]
  try refine DrawK.mk ?_
  try simp only[go_sem,g5]
 have g5:((t.l.length:Int) != 1)=false:=by simp only[bne,h5,aQ]
 obtain⟨h0,hl0⟩:=yN h5
 rw[hl0,ai]
 rcases h6:t.l[0].kind==1 with _ | _
 ·have g6:(t.l[0].kind != 1)=true:=by simp[bne,h6]
  simp only[go_sem,g5,g6,AA _ h0,h0,ag]
  try refine DrawK.mk ?_
  try simp only[go_sem,g5,g6,AA _ h0,h0]
 have g6:(t.l[0].kind != 1)=false:=by simp[bne,h6]
 simp only[go_sem,g5,g6,AA _ h0,h0,ai]
 try refine DrawK.mk ?_
 try simp only[go_sem,g5,g6,AA _ h0,h0]
 rcases h7:t.pc==2 with _ | _
 ·simp only[go_sem,h7,AA _ h0,h0,bT]
  try refine DrawK.mk ?_
  try simp only[go_sem,h7,AA _ h0,h0]
 ·simp only[go_sem,h7,AA _ h0,h0,Om]
  try refine DrawK.mk ?_
  try simp only[go_sem,h7,AA _ h0,h0]
theorem Ud (l:List DRef) (id:Int) (h1:l.length=1) (h0:0<l.length):Ctr prog 207 [.agg (DDir.c ⟨0,l⟩),.c (.v (.int .i64 (id)))] [.val (.c (.v (.int .i64 (if CP l[0] id=true then 0 else -1))))]:=by
 refine CM call207 func207 ntmps207 results207 fun hw=>?_
 simp only[go_sem]
 refine LoopU.mk 1 (A:=Nat) (fun x=>[(5,.c (.v (.int .i64 (x))))]) (fun _=>[⟨39,2,[DDir.c ⟨0,l⟩],true,true⟩]) (fun x=>x≤1∧(x=1→CP l[0] id=false)) (fun x=>1-x) 0 ⟨⟨rfl,rfl⟩,rfl,ak _,fun h=>by omega⟩ ?_
 rintro k ⟨hk,hc⟩
 simp only[go_sem]
 refine cndC.mk (fun h=>?_) (fun h=>?_)
 ·have hk0:k=0:=by simp[h1] at h; omega
  subst hk0
  have hw01:IntKind.i64.wrap (0+1)=1:=rfl
  have e0:CP l[0] id=(decide (l[0].first≥0)&&(decide (id≥l[0].first)&&decide (IntKind.i64.wrap (id-l[0].first)<l[0].many))):=rfl
  simp only[go_sem,AA _ h0,h0]
  try refine DrawK.mk ?_
  try simp only[go_sem,AA _ h0,h0]
  rcases q1:decide (l[0].first≥0) with _ | _
  ·simp only[go_sem,AA _ h0,h0,hw01,q1]
   exact⟨1,⟨rfl,rfl⟩,rfl,⟨aK _,fun _=>by rw[e0,q1]; rfl⟩,by omega⟩
  rcases q2:decide (id≥l[0].first) with _ | _
  ·simp only[go_sem,AA _ h0,h0,hw01,q1,q2]
   exact⟨1,⟨rfl,rfl⟩,rfl,⟨aK _,fun _=>by rw[e0,q1,q2]; rfl⟩,by omega⟩
  rcases q3:decide (IntKind.i64.wrap (id-l[0].first)<l[0].many) with _ | _
  ·simp only[go_sem,AA _ h0,h0,hw01,q1,q2,q3]
   exact⟨1,⟨rfl,rfl⟩,rfl,⟨aK _,fun _=>by rw[e0,q1,q2,q3]; rfl⟩,by omega⟩
  ·have e:CP l[0] id=true:=by rw[e0,q1,q2,q3]; rfl
   simp only[go_sem,AA _ h0,h0,q1,q2,q3,e,aW]
   rfl
 ·have hk1:k=1:=by simp[h1] at h; omega
  subst hk1
  simp only[go_sem,hc rfl,az,aI]
theorem Py (w:DWorld) (t:DTask) (d:DDeed) {m:Nat} (hf:AU w) (H:TaskIn w t d m):Ctr prog 158 [.agg w.c,.agg t.c,.agg d.c] [.val (.c (.v (.bool (rC w t d))))]:=by
 obtain⟨hm,hd,ht,hft,hfd,hth,hi,hj,hfr⟩:=H
 refine CM call158 func158 ntmps158 results158 fun hw=>?_
 unfold rC
 rcases h1:t.id==d.id with _ | _
 ·have hne:t.id≠d.id:=by simpa using h1
  have g1:(d.id != t.id)=true:=by simp; exact fun e=>hne e.symm
  simp only[go_sem,g1,ag]
 have hee:t.id=d.id:=by simpa using h1
 have g1:(d.id != t.id)=false:=by simp[hee]
 simp only[go_sem,g1,ai]
 try refine DrawK.mk ?_
 try simp only[go_sem,g1]
 first | refine CallF.mk _ (AL t.pc 2 7) ?_ | refine CallK.mk _ (AL t.pc 2 7) fun _=>?_
 rcases h2:Ac t.pc 2 7 with _ | _
 ·simp only[go_sem,h2,aN,Om]
 rw[AFR _ h2]
 simp only[go_sem,h2,aQ,bT]
 rcases h5:((t.l.length:Int)==1) with _ | _
 ·have g5:((t.l.length:Int) != 1)=true:=by simp only[bne,h5,aN]
  simp only[go_sem,g5,ag]
  try refine DrawK.mk ?_
  try simp only[go_sem,g5]
 have g5:((t.l.length:Int) != 1)=false:=by simp only[bne,h5,aQ]
 obtain⟨h0,hl0⟩:=yN h5
 rw[hl0,ai]
 have hl1:t.l.length=1:=by have:=Zi.1 h5; omega
 try refine DrawK.mk ?_
 try simp only[go_sem,g5,AA _ h0,h0]
 first | refine CY (Ud t.l t.id hl1 h0) ?_ | refine CW (Ud t.l t.id hl1 h0) fun _=>?_
 rcases h6:CP t.l[0] t.id with _ | _
 ·have e6:((-1:Int) != 0)=true:=rfl
  simp only[go_sem,h6,e6,az,aI,ag]
 have e6:((0:Int) != 0)=false:=rfl
 simp only[go_sem,h6,e6,aW,ai]
 rcases h7:decide (t.id<(w.m.length:Int)) with _ | _
 ·have g7:decide (t.id≥(w.m.length:Int))=true:=by simp at h7 ⊢; omega
  simp only[go_sem,g7,ag]
 have g7:decide (t.id≥(w.m.length:Int))=false:=by simp at h7 ⊢; omega
 simp only[go_sem,g7,ai]
 rcases h8:decide (t.pc>4) with _ | _
 ·rcases h9:t.pc==2 with _ | _
  ·simp only[go_sem,h8,h9,AA _ h0,h0,bT]
   try refine DrawK.mk ?_
   try simp only[go_sem,h8,h9,AA _ h0,h0]
  ·simp only[go_sem,h8,h9,AA _ h0,h0,bT,Om]
   try refine DrawK.mk ?_
   try simp only[go_sem,h8,h9,AA _ h0,h0]
 ·simp only[go_sem,h8,AA _ h0,h0,Om]
  try refine DrawK.mk ?_
  try simp only[go_sem,h8,AA _ h0,h0]
theorem AFS (n:Int) (h:Ac n 3 8=true):Ac n 4 8 = !(n==3):=by
 simp only[Ac,ax,aY] at h
 have h:n=3∨n=4∨n=5∨n=6∨n=7∨n=8:=by omega
 rcases h with h | h | h | h | h | h<;>subst h<;>rfl
theorem ADf (n:Int) (h:Ac n 3 8=false):Ac n 4 8=false:=by
 rcases h2:Ac n 4 8 with _ | _
 ·rfl
 ·simp only[Ac,ax,aY] at h2
  have:Ac n 3 8=true:=by simp only[Ac,ax,aY]; omega
  rw[this] at h; cases h
theorem Pz (w:DWorld) (t:DTask) (d:DDeed) {m:Nat} (hf:AU w) (H:TaskIn w t d m):Ctr prog 159 [.agg w.c,.agg t.c,.agg d.c] [.val (.c (.v (.bool (rD w t d))))]:=by
 obtain⟨hm,hd,ht,hft,hfd,hth,hi,hj,hfr⟩:=H
 refine CM call159 func159 ntmps159 results159 fun hw=>?_
 rw[D6] at hft
 rw[F7] at hfd
 unfold rD
 simp only[go_sem]
 try refine DrawK.mk ?_
 try simp only[go_sem]
 first | refine CY (Q7 w.c0.cols t.q (ADj hf) hft.2.1) ?_ | refine CW (Q7 w.c0.cols t.q (ADj hf) hft.2.1) fun _=>?_
 rcases h1:BR w.c0.cols t.q with _ | _
 ·simp only[go_sem,h1,ag]
 simp only[go_sem,h1,ai]
 try refine DrawK.mk ?_
 try simp only[go_sem,h1]
 first | refine CY (WY t.q d.q hft.2.1 hfd.2.1) ?_ | refine CW (WY t.q d.q hft.2.1 hfd.2.1) fun _=>?_
 rcases h2:Ue t.q d.q with _ | _
 ·simp only[go_sem,h2,ag]
 rcases h3:decide (t.ts>w.t) with _ | _
 rotate_left
 ·simp only[go_sem,h2,h3,aQ,ag,aJ]
 simp only[go_sem,h2,h3,aN,ai]
 try refine DrawK.mk ?_
 try simp only[go_sem,h2,h3]
 first | refine CallF.mk _ (AL t.pc 3 8) ?_ | refine CallK.mk _ (AL t.pc 3 8) fun _=>?_
 rcases h4:Ac t.pc 3 8 with _ | _
 ·simp only[go_sem,h4,aN,Om]
  try refine DrawK.mk ?_
  try simp only[go_sem,h4]
  first | refine CallF.mk _ (AL t.pc 4 8) ?_ | refine CallK.mk _ (AL t.pc 4 8) fun _=>?_
  simp only[go_sem,ADf _ h4]
 rcases h5:decide (t.i>(t.l.length:Int)) with _ | _
 rotate_left
 ·simp only[go_sem,h4,h5,aQ,ag,bT]
 simp only[go_sem,h4,h5,aQ,aN,ai,bT]
 try refine DrawK.mk ?_
 try simp only[go_sem,h4,h5]
 first | refine CallF.mk _ (AL t.pc 4 8) ?_ | refine CallK.mk _ (AL t.pc 4 8) fun _=>?_
 rw[AFS _ h4]
 rcases h6:t.pc==3 with _ | _
 rotate_left
 ·simp only[go_sem,h6,aQ,Om]
 obtain⟨k,hk⟩:=aP hi
 have hkl:k≤t.l.length:=by rw[hk] at h5; simp at h5; omega
 rw[hk,bV,bT]
 rcases bf k t.l.length with hk2 | hk2
 rotate_left
 ·have e:k=t.l.length:=by omega
  have e2:((k:Int)==(t.l.length:Int))=true:=by simp; omega
  rw[bF hk2]
  simp only[go_sem,h6,hk,e2,aN]
  try refine DrawK.mk ?_
  try simp only[go_sem,h6,hk,e2]
 have e2:((k:Int)==(t.l.length:Int))=false:=by simp; omega
 rw[aA hk2]
 simp only[go_sem,h6,hk,e2,AA _ hk2,hk2,aN]
 try refine DrawK.mk ?_
 try simp only[go_sem,h6,hk,e2,AA _ hk2,hk2]
 have hthk:=VW hth hk2
 unfold kz
 rcases k1:t.l[k].kind==1 with _ | _
 ·obtain⟨q,hq,hbm,hat⟩ | ⟨hbm,hat⟩:=E5 w t.l[k].buf
  rotate_left
  ·simp only[there,hat] at hthk
   cases hthk
  have hgl:=Xf w t.l[k]
  simp only[go_sem,k1,AA _ hk2,hk2,az,aI]
  try refine DrawK.mk ?_
  try simp only[go_sem,k1,AA _ hk2,hk2]
  first | refine CY (QB w t.l[k] hf hq hbm) ?_ | refine CW (QB w t.l[k] hf hq hbm) fun _=>?_
  rcases h8:decide (t.pc≥6) with _ | _
  ·simp only[go_sem,h8,ag]
   try refine DrawK.mk ?_
   try simp only[go_sem,h8]
  obtain⟨j,hjj⟩:=aP hj
  rw[hjj,bV]
  rcases bf j (Eo w t.l[k]).length with hm | hm
  ·have e1:decide ((j:Int)<((Eo w t.l[k]).length:Int))=true:=by simp; omega
   rw[aA hm]
   simp only[go_sem,h8,hjj,e1,AA _ hm,hm,ai]
   try refine DrawK.mk ?_
   try simp only[go_sem,h8,hjj,e1,AA _ hm,hm]
  ·have e1:decide ((j:Int)<((Eo w t.l[k]).length:Int))=false:=by simp; omega
   rw[bF hm]
   simp only[go_sem,h8,hjj,e1,ai]
   try refine DrawK.mk ?_
   try simp only[go_sem,h8,hjj,e1]
 ·simp only[aW]
  rcases h9:decide (t.j<t.l[k].many) with _ | _
  ·simp only[go_sem,k1,h9,AA _ hk2,hk2,ag]
   try refine DrawK.mk ?_
   try simp only[go_sem,k1,h9,AA _ hk2,hk2]
  rcases h7:decide (t.pc<6) with _ | _
  ·simp only[go_sem,k1,h9,h7,AA _ hk2,hk2,ai,bT]
   try refine DrawK.mk ?_
   try simp only[go_sem,k1,h9,h7,AA _ hk2,hk2]
  ·simp only[go_sem,k1,h9,h7,AA _ hk2,hk2,ai,Om]
   try refine DrawK.mk ?_
   try simp only[go_sem,k1,h9,h7,AA _ hk2,hk2]
theorem ADg (w:DWorld) (r:DRef):(fV w r).length≤12:=by
 unfold fV
 split
 ·exact Xf w r
 ·exact ak _
theorem WW (w:DWorld) (hf:AU w):Ctr prog 92 [.agg w.c] [.val (.c (.v (.bool (ZI w))))]:=by
 refine CM call92 func92 ntmps92 results92 fun hw=>?_
 have hb:=lenD hf
 unfold ZI
 simp only[go_sem]
 refine LoopU.mk 1 (A:=Nat) (fun x=>[(11,.c (.v (.int .i64 (x))))]) (fun _=>[⟨45,14,[w.c],true,true⟩]) (Eh w.d.l (Pn w)) (fun x=>w.d.l.length-x) 0 ⟨⟨rfl,rfl⟩,rfl,DJ⟩ ?_
 intro k hk
 simp only[go_sem]
 refine cndC.mk (fun h=>?_) (fun h=>?_)
 ·have hk':k<w.d.l.length:=by simpa using h
  simp only[go_sem,AA _ hk']
  try refine DrawK.mk ?_
  try simp only[go_sem,AA _ hk',hk']
  first | refine CY (Fj w w.d.l[k]) ?_ | refine CW (Fj w w.d.l[k]) fun _=>?_
  rcases h1:there w w.d.l[k] with _ | _
  ·simp only[go_sem,A_ (p:=Pn w) hk' (by simp only[Pn,h1,ag])]
  rcases h2:((w.d.l[k].kind==1)&&(w.d.l[k].many != w.c0.slots)) with _ | _
  rotate_left
  ·have hno:=A_ (p:=Pn w) hk' (by simp only[Pn,h1,h2]; rfl)
   simp only[ax] at h2
   simp only[go_sem,h2.1,h2.2,hno]
  have hgl:=ADg w w.d.l[k]
  have hp1:Pn w w.d.l[k]=(fV w w.d.l[k]).all fun x=>CP w.d.l[k] x.id:=by simp only[Pn,h1,h2,aN,ai]
  have hgr:Ctr prog 168 [.agg w.c,.agg w.d.l[k].c] [.val (.c (.sl ((fV w w.d.l[k]).map DRow.c)))]:=J4 w w.d.l[k] hf
  have k2:(w.d.l[k].kind==1)=true→(w.d.l[k].many != w.c0.slots)=false:=fun k1=>by rw[k1,ai] at h2; exact h2
  rcases k1:w.d.l[k].kind==1 with _ | _
  rotate_left
  ·have k2:=k2 k1
   simp only[go_sem,k1,k2]
   refine CW (hgr) fun _=>?_
   simp only[go_sem]
   refine LoopU.mk 2 (A:=Nat) (fun x=>[(36,.c (.v (.int .i64 (x))))]) (fun _=>[⟨45,14,[w.c],true,true⟩,⟨165,5,[w.d.l[k].c],true,true⟩]) (Eh (fV w w.d.l[k]) fun x=>CP w.d.l[k] x.id) (fun x=>(fV w w.d.l[k]).length-x) 0 ⟨⟨rfl,rfl⟩,rfl,DJ⟩ ?_
   intro j hj
   simp only[go_sem]
   refine cndC.mk (fun h=>?_) (fun h=>?_)
   ·have hj':j<(fV w w.d.l[k]).length:=by simpa using h
    simp only[go_sem,AA _ hj']
    try refine DrawK.mk ?_
    try simp only[go_sem,AA _ hj',hj']
    first | refine CY (Fh w.d.l[k] (fV w w.d.l[k])[j].id) ?_ | refine CW (Fh w.d.l[k] (fV w w.d.l[k])[j].id) fun _=>?_
    rcases h3:CP w.d.l[k] (fV w w.d.l[k])[j].id with _ | _
    ·simp only[go_sem,A_ (p:=Pn w) hk' (by rw[hp1]; exact A_ (p:=fun x:DRow=>CP w.d.l[k] x.id) hj' h3)]
    ·simp only[go_sem,wrap_i64 (n:=(j:Int)+1) (by omega) (by omega)]
     exact⟨j+1,⟨rfl,rfl⟩,rfl,BI hj' hj h3,by omega⟩
   ·have hj':j=(fV w w.d.l[k]).length:=by have:=hj.1; simp at h; omega
    subst hj'
    simp only[go_sem,wrap_i64 (n:=(k:Int)+1) (by omega) (by omega)]
    exact⟨k+1,⟨rfl,rfl⟩,rfl,BI hk' hk (by rw[hp1]; exact Bo hj),by omega⟩
  ·simp only[go_sem,k1]
   refine CW (hgr) fun _=>?_
   simp only[go_sem]
   refine LoopU.mk 2 (A:=Nat) (fun x=>[(36,.c (.v (.int .i64 (x))))]) (fun _=>[⟨45,14,[w.c],true,true⟩,⟨165,5,[w.d.l[k].c],true,true⟩]) (Eh (fV w w.d.l[k]) fun x=>CP w.d.l[k] x.id) (fun x=>(fV w w.d.l[k]).length-x) 0 ⟨⟨rfl,rfl⟩,rfl,DJ⟩ ?_
   intro j hj
   simp only[go_sem]
   refine cndC.mk (fun h=>?_) (fun h=>?_)
   ·have hj':j<(fV w w.d.l[k]).length:=by simpa using h
    simp only[go_sem,AA _ hj']
    try refine DrawK.mk ?_
    try simp only[go_sem,AA _ hj',hj']
    first | refine CY (Fh w.d.l[k] (fV w w.d.l[k])[j].id) ?_ | refine CW (Fh w.d.l[k] (fV w w.d.l[k])[j].id) fun _=>?_
    rcases h3:CP w.d.l[k] (fV w w.d.l[k])[j].id with _ | _
    ·simp only[go_sem,A_ (p:=Pn w) hk' (by rw[hp1]; exact A_ (p:=fun x:DRow=>CP w.d.l[k] x.id) hj' h3)]
    ·simp only[go_sem,wrap_i64 (n:=(j:Int)+1) (by omega) (by omega)]
     exact⟨j+1,⟨rfl,rfl⟩,rfl,BI hj' hj h3,by omega⟩
   ·have hj':j=(fV w w.d.l[k]).length:=by have:=hj.1; simp at h; omega
    subst hj'
    simp only[go_sem,wrap_i64 (n:=(k:Int)+1) (by omega) (by omega)]
    exact⟨k+1,⟨rfl,rfl⟩,rfl,BI hk' hk (by rw[hp1]; exact Bo hj),by omega⟩
 ·have hk':k=w.d.l.length:=by have:=hk.1; simp at h; omega
  subst hk'
  simp only[go_sem,Bo hk]
theorem SC {α:Type} (p:α→Bool) (l:List α) {k:Nat} (h:k<l.length):(l.take (k+1)).countP p=(l.take k).countP p+if p l[k]=true then 1 else 0:=by
 rw[List.take_add_one,aA h,List.countP_append]
 simp[List.countP_cons]
theorem cnt_le {α:Type} (p:α→Bool) (l:List α) (k:Nat) (h:l.length≤1048576):(l.take k).countP p≤1048576:=by
 have h1:=List.countP_le_length (p:=p) (l:=l.take k)
 have h2:=List.length_take_le k l
 have h3:(l.take k).length≤l.length:=by simp; omega
 omega
theorem P5 (w:DWorld) (hf:AU w):Ctr prog 97 [.agg w.c] [.val (.c (.v (.bool (Uc w))))]:=by
 refine CM call97 func97 ntmps97 results97 fun hw=>?_
 have hb:=rP hf
 have hd:=lenD hf
 have hx:=AFU hf
 have htl:=Ug hf
 unfold Uc
 simp only[go_sem]
 refine LoopU.mk 1 (A:=Nat) (fun x=>[(15,.c (.v (.int .i64 (x))))]) (fun _=>[⟨45,14,[w.c],true,true⟩]) (rF w.b (OX w)) (fun x=>w.b.length-x) 0 ⟨⟨rfl,rfl⟩,rfl,lC⟩ ?_
 intro k hk
 simp only[go_sem]
 refine cndC.mk (fun h=>?_) (fun h=>?_)
 ·have hk':k<w.b.length:=by simpa using h
  simp only[go_sem,AA _ hk']
  refine LoopU.mk 2 (A:=Nat) (fun x=>[(24,.c (.v (.int .i64 (x)))),(5,.c (.v (.int .i64 ((NU (w.d.l.take x) k:Nat):Int))))]) (fun _=>[⟨45,14,[w.c],true,true⟩,⟨112,5,[w.b[k].c],true,true⟩]) (fun x=>x≤w.d.l.length) (fun x=>w.d.l.length-x) 0 ⟨⟨rfl,rfl⟩,rfl,ak _⟩ ?_
  intro i1 hi1
  simp only[go_sem]
  refine cndC.mk (fun h=>?_) (fun h=>?_)
  ·have hi':i1<w.d.l.length:=by simpa using h
   have hn:=SC (fun r:DRef=>r.buf==(k:Int)) w.d.l hi'
   have hle:=cnt_le (fun r:DRef=>r.buf==(k:Int)) w.d.l i1 hd
   change NU (w.d.l.take (i1+1)) k=NU (w.d.l.take i1) k+_ at hn
   change NU (w.d.l.take i1) k≤_ at hle
   rcases h1:w.d.l[i1].buf==(k:Int) with _ | _
   ·rw[h1] at hn
    simp only[go_sem,AA _ hi',h1,wrap_i64 (n:=(i1:Int)+1) (by omega) (by omega)]
    exact⟨i1+1,⟨rfl,rfl⟩,by rw[hn]; rfl,hi',by omega⟩
   ·rw[h1] at hn
    simp only[go_sem,AA _ hi',h1,wrap_i64 (n:=(i1:Int)+1) (by omega) (by omega),wrap_i64 (n:=((NU (w.d.l.take i1) k:Nat):Int)+1) (by omega) (by omega)]
    exact⟨i1+1,⟨rfl,rfl⟩,by rw[hn]; rfl,hi',by omega⟩
  have hi':i1=w.d.l.length:=by simp at h; omega
  subst hi'
  simp only[go_sem,bP]
  have hcd:NU w.d.l k≤1048576:=by have:=cnt_le (fun r:DRef=>r.buf==(k:Int)) w.d.l w.d.l.length hd; rw[bP] at this; exact this
  refine LoopU.mk 2 (A:=Nat) (fun x=>[(38,.c (.v (.int .i64 (x)))),(5,.c (.v (.int .i64 ((NU w.d.l k+(w.x.take x).countP (fun d:DDead=>d.buf==(k:Int)):Nat):Int))))]) (fun _=>[⟨45,14,[w.c],true,true⟩,⟨112,5,[w.b[k].c],true,true⟩]) (fun x=>x≤w.x.length) (fun x=>w.x.length-x) 0 ⟨⟨rfl,rfl⟩,rfl,ak _⟩ ?_
  intro i2 hi2
  simp only[go_sem]
  refine cndC.mk (fun h=>?_) (fun h=>?_)
  ·have hi':i2<w.x.length:=by simpa using h
   have hn:=SC (fun d:DDead=>d.buf==(k:Int)) w.x hi'
   have hle:=cnt_le (fun d:DDead=>d.buf==(k:Int)) w.x i2 hx
   rcases h1:w.x[i2].buf==(k:Int) with _ | _
   ·rw[h1] at hn
    simp only[go_sem,AA _ hi',h1,wrap_i64 (n:=(i2:Int)+1) (by omega) (by omega)]
    exact⟨i2+1,⟨rfl,rfl⟩,by rw[hn]; rfl,hi',by omega⟩
   ·rw[h1] at hn
    simp only[go_sem,AA _ hi',h1,wrap_i64 (n:=(i2:Int)+1) (by omega) (by omega),wrap_i64 (n:=((NU w.d.l k+(w.x.take i2).countP (fun d:DDead=>d.buf==(k:Int)):Nat):Int)+1) (by omega) (by omega)]
    exact⟨i2+1,⟨rfl,rfl⟩,by rw[hn]; rfl,hi',by omega⟩
  have hi':i2=w.x.length:=by simp at h; omega
  subst hi'
  simp only[go_sem,bP]
  have hcx:w.x.countP (fun d:DDead=>d.buf==(k:Int))≤1048576:=by have:=cnt_le (fun d:DDead=>d.buf==(k:Int)) w.x w.x.length hx; rw[bP] at this; exact this
  have hk1:IntKind.i64.wrap ((k:Int)+1)=(k:Int)+1:=wrap_i64 (by omega) (by omega)
  refine LoopU.mk 2 (A:=Nat) (fun x=>[(52,.c (.v (.int .i64 (x)))),(5,.c (.v (.int .i64 ((NU w.d.l k+w.x.countP (fun d:DDead=>d.buf==(k:Int))+(w.tasks.take x).countP (fun t:DTask=>t.own==(k:Int)+1):Nat):Int))))]) (fun _=>[⟨45,14,[w.c],true,true⟩,⟨112,5,[w.b[k].c],true,true⟩]) (fun x=>x≤w.tasks.length) (fun x=>w.tasks.length-x) 0 ⟨⟨rfl,rfl⟩,rfl,ak _⟩ ?_
  intro i3 hi3
  simp only[go_sem]
  refine cndC.mk (fun h=>?_) (fun h=>?_)
  ·have hi':i3<w.tasks.length:=by simpa using h
   have hn:=SC (fun t:DTask=>t.own==(k:Int)+1) w.tasks hi'
   have hle:=cnt_le (fun t:DTask=>t.own==(k:Int)+1) w.tasks i3 htl
   rcases h1:w.tasks[i3].own==(k:Int)+1 with _ | _
   ·rw[h1] at hn
    simp only[go_sem,AA _ hi',hk1,h1,wrap_i64 (n:=(i3:Int)+1) (by omega) (by omega)]
    exact⟨i3+1,⟨rfl,rfl⟩,by rw[hn]; rfl,hi',by omega⟩
   ·rw[h1] at hn
    simp only[go_sem,AA _ hi',hk1,h1,wrap_i64 (n:=(i3:Int)+1) (by omega) (by omega),wrap_i64 (n:=((NU w.d.l k+w.x.countP (fun d:DDead=>d.buf==(k:Int))+(w.tasks.take i3).countP (fun t:DTask=>t.own==(k:Int)+1):Nat):Int)+1) (by omega) (by omega)]
    exact⟨i3+1,⟨rfl,rfl⟩,by rw[hn]; rfl,hi',by omega⟩
  have hi':i3=w.tasks.length:=by simp at h; omega
  subst hi'
  simp only[go_sem,bP]
  have hp:OX w k w.b[k]=OW (((NU w.d.l k+w.x.countP (fun d:DDead=>d.buf==(k:Int)))+w.tasks.countP (fun t:DTask=>t.own==(k:Int)+1):Nat):Int) w.b[k]:=by unfold OX kw; rw[abv]
  revert hp
  generalize (((NU w.d.l k+w.x.countP (fun d:DDead=>d.buf==(k:Int)))+w.tasks.countP (fun t:DTask=>t.own==(k:Int)+1):Nat):Int)=n
  intro hp
  unfold OW at hp
  rcases h1:w.b[k].kind==0 with _ | _
  ·have g1:(w.b[k].kind != 0)=true:=by simp[bne,h1]
   rcases h2:n != 1 with _ | _
   ·simp only[go_sem,g1,h2,wrap_i64 (n:=(k:Int)+1) (by omega) (by omega)]
    exact⟨k+1,⟨rfl,rfl⟩,rfl,MG hk' hk (by rw[hp,h1,g1,h2]; rfl),by omega⟩
   ·simp only[go_sem,g1,h2,IL (p:=OX w) hk' (by rw[hp,h1,g1,h2]; rfl)]
  ·have g1:(w.b[k].kind != 0)=false:=by simp[bne,h1]
   rcases h2:decide (n>0) with _ | _
   ·simp only[go_sem,g1,h2,wrap_i64 (n:=(k:Int)+1) (by omega) (by omega)]
    exact⟨k+1,⟨rfl,rfl⟩,rfl,MG hk' hk (by rw[hp,h1,g1,h2]; rfl),by omega⟩
   ·simp only[go_sem,h2,IL (p:=OX w) hk' (by rw[hp,h1,g1,h2]; rfl)]
 ·have hk':k=w.b.length:=by have:=hk.1; simp at h; omega
  subst hk'
  simp only[go_sem,Qe hk]
end Go.Proofs.YtnchiiikacemmaaGreat
