/- A part. -/
import Derived.Test.YtnfbaclikokapaaGreatZh
set_option linter.unusedSimpArgs false
set_option linter.unusedVariables false
set_option maxHeartbeats 8000000
set_option maxRecDepth 10000
open Go.Proofs.Tryz
namespace Go.Proofs.YtnfbaclikokapaaGreat
open Go.Vm
theorem ADR {w:DWorld} (hf:Aa w):w.c0.cols.length≤1048576:=by
 rw[BI,JO] at hf
 exact hf.1
theorem ZT {r:DRef} (h:Dt r=true) (hk:(r.kind==1)=false):(r.kind==2)=true:=by
 simp only[Dt,Ac,ak,bf] at h
 have:r.kind≠1:=by simpa using hk
 have:=h.2.2.1
 simp; omega
theorem QL (w:DWorld) (t:DTask) (d:DDeed) {m:Nat} (hf:Aa w) (H:TaskIn w t d m):Ctr prog 191 [.agg w.c,.agg t.c] [.val (.c (.v (.bool (qZ w t d))))]:=by
 obtain⟨hm,hd,ht,hft,hfd,hth,hi,hj,hfr⟩:=H
 refine CM call191 func191 ntmps191 results191 fun hw=>?_
 rw[Di] at hft
 rw[FP] at hfd
 unfold qZ
 simp only[go_sem]
 try refine DrawK.mk ?_
 try simp only[go_sem]
 first | refine CY (RQ w.c0.cols t.q (ADR hf) hft.2.1) ?_ | refine CW (RQ w.c0.cols t.q (ADR hf) hft.2.1) fun _=>?_
 rcases h1:BX w.c0.cols t.q with _ | _
 ·simp only[go_sem,h1,ag]
 simp only[go_sem,h1,ht,AA _ hm,hm,hd,ai]
 try refine DrawK.mk ?_
 try simp only[go_sem,h1,ht,AA _ hm,hm,hd]
 first | refine CY (QE t.q d.q hft.2.1 hfd.2.1) ?_ | refine CW (QE t.q d.q hft.2.1 hfd.2.1) fun _=>?_
 rcases h2:UZ t.q d.q with _ | _
 ·simp only[go_sem,h2,ag]
 rcases h3:decide (t.ts>w.t) with _ | _
 rotate_left
 ·simp only[go_sem,h2,h3,aQ,ag,aH]
 simp only[go_sem,h2,h3,aO,ai]
 try refine DrawK.mk ?_
 try simp only[go_sem]
 first | refine CallF.mk _ (AC t.pc 3 8) ?_ | refine CallK.mk _ (AC t.pc 3 8) fun _=>?_
 rcases h4:Ac t.pc 3 8 with _ | _
 ·simp only[go_sem,h4,aO,cO]
 rcases h5:decide (t.i>(t.l.length:Int)) with _ | _
 rotate_left
 ·simp only[go_sem,h4,h5,aQ,ag,bQ]
  try refine DrawK.mk ?_
  try simp only[go_sem,h5]
 simp only[go_sem,h4,h5,aQ,aO,ai,bQ]
 try refine DrawK.mk ?_
 try simp only[go_sem,h5]
 rcases h6:t.pc==3 with _ | _
 rotate_left
 ·simp only[go_sem,h6,cO]
 obtain⟨k,hk⟩:=aP hi
 have hkl:k≤t.l.length:=by rw[hk] at h5; simp at h5; omega
 rw[hk,bY,bQ]
 rcases bI k t.l.length with hk2 | hk2
 rotate_left
 ·have e:k=t.l.length:=by omega
  have e2:((k:Int)==(t.l.length:Int))=true:=by simp; omega
  rw[nR hk2]
  simp only[go_sem,h6,hk,e2]
  try refine DrawK.mk ?_
  try simp only[go_sem,h6,hk,e2]
 have e2:((k:Int)==(t.l.length:Int))=false:=by simp; omega
 rw[aA hk2]
 simp only[go_sem,h6,hk,e2]
 have hthk:=VU hth hk2
 unfold kS
 rcases k1:t.l[k].kind==1 with _ | _
 ·have kk2:=ZT (hfr _ (aj hk2)) k1
  have hro:=uq w t.l[k] t.j hf hthk k1 kk2 hj
  simp only[aC,aT]
  rcases hg:(Eh w t.l[k])[t.j.toNat]? with _ | x
  ·rw[hg] at hro
   refine DrawK.mkA 13 9 (by kernel_rfl) ?_
   simp only[go_sem,AA _ hk2,hk2,aH,ag,ai]
   refine CallE.mk _ (by simpa only[go_sem,Ou,dh] using hro) ?_
   rcases h7:decide (t.pc≤5) with _ | _<;>simp only[go_sem,h7,AA _ hk2,hk2,k1]
  ·rw[hg] at hro
   refine DrawK.mkA 13 9 (by kernel_rfl) ?_
   simp only[go_sem,AA _ hk2,hk2,aH,ag,ai]
   refine CZ (hro) ?_
   rcases h7:decide (t.pc≤5) with _ | _
   ·have h8:decide (t.pc≥6)=true:=by simp at h7 ⊢; omega
    simp only[go_sem,h7,h8,AA _ hk2,hk2,ai]
    try refine DrawK.mk ?_
    try simp only[go_sem,h7,h8]
   ·have h8:decide (t.pc≥6)=false:=by simp at h7 ⊢; omega
    simp only[go_sem,h7,h8,AA _ hk2,hk2,k1,ag]
    try refine DrawK.mk ?_
    try simp only[go_sem,h7,h8,AA _ hk2,hk2,k1]
 ·obtain⟨q,hq,hqb,hqm⟩:=VT hthk k1
  simp only[bD]
  rcases h9:decide (t.j<t.l[k].many) with _ | _
  ·have hro:=zl w t.l[k] t.j hf hthk k1 h9
   refine DrawK.mkA 13 9 (by kernel_rfl) ?_
   simp only[go_sem,AA _ hk2,hk2,aH,ag,ai]
   refine CallE.mk _ (by simpa only[go_sem,Ou,dh] using hro) ?_
   rcases h7:decide (t.pc≤5) with _ | _<;>simp only[go_sem,h7,AA _ hk2,hk2,k1]
  ·obtain⟨j,hjj⟩:=aP hj
   have hjl:j<w.b[q].c0.l.length:=by rw[hjj,← hqm] at h9; simp at h9; omega
   have hro:=(kV w t.l[k] hf hq hqb hthk k1 hjl).frz
   simp only[XA,dh,jF,DRow.o_er] at hro
   rw[hjj]
   refine DrawK.mkA 13 9 (by kernel_rfl) ?_
   simp only[go_sem,AA _ hk2,hk2,hjj,aH,ag,ai]
   refine CZ (hro) ?_
   rcases h7:decide (t.pc≤5) with _ | _
   ·have h8:decide (t.pc<6)=false:=by simp at h7 ⊢; omega
    simp only[go_sem,h7,h8,AA _ hk2,hk2,bQ]
    try refine DrawK.mk ?_
    try simp only[go_sem,h7,h8]
   ·have h8:decide (t.pc<6)=true:=by simp at h7 ⊢; omega
    simp only[go_sem,h7,h8,AA _ hk2,hk2,k1,cO]
    try refine DrawK.mk ?_
    try simp only[go_sem,h7,h8,AA _ hk2,hk2,k1]
def ZU (t:DTask) (h:Int):List Cl:=[.v (.int .i64 t.op),.v (.int .i64 t.pc),.v (.int .i64 h),.sl (t.r.map DVal.c),.v (.int .i64 t.id),.v (.int .i64 t.q.kind),.v (.int .i64 t.q.p.kind),.v (.int .i64 t.q.p.col),.v (.int .i64 t.q.p.op),.v (.int .i64 t.q.p.v.ty),.v (.int .i64 t.q.p.v.n),.v (.string t.q.p.v.s),.sl (t.q.p.l.map DPred.c),.v (.int .i64 t.q.col),.sl (t.q.out.map intC),.v (.int .i64 t.ts),.v (.int .i64 t.ver),.sl (t.l.map DRef.c),.v (.int .i64 t.i),.v (.int .i64 t.j),.v (.int .i64 t.s),.v (.int .i64 t.at0),.v (.int .i64 t.own),.v (.bool t.won),.sl (t.got.map DRow.c)]
@[go_sem] theorem AD_ (t:DTask) (h:Int):ZU t h = [.v (.int .i64 t.op),.v (.int .i64 t.pc),.v (.int .i64 h),.sl (t.r.map DVal.c),.v (.int .i64 t.id),.v (.int .i64 t.q.kind),.v (.int .i64 t.q.p.kind),.v (.int .i64 t.q.p.col),.v (.int .i64 t.q.p.op),.v (.int .i64 t.q.p.v.ty),.v (.int .i64 t.q.p.v.n),.v (.string t.q.p.v.s),.sl (t.q.p.l.map DPred.c),.v (.int .i64 t.q.col),.sl (t.q.out.map intC),.v (.int .i64 t.ts),.v (.int .i64 t.ver),.sl (t.l.map DRef.c),.v (.int .i64 t.i),.v (.int .i64 t.j),.v (.int .i64 t.s),.v (.int .i64 t.at0),.v (.int .i64 t.own),.v (.bool t.won),.sl (t.got.map DRow.c)]:=rfl
theorem fU {t:DTask} {k:Int} (h:H8 t k=true):0≤t.h∧0≤t.i∧0≤t.j∧(∀ r∈t.l,Dt r=true)∧((t.op==0)=true→(t.own==0)=true):=by
 simp only[H8,ak] at h
 obtain⟨_,_,_,_,h5,h6,_,h8⟩:=h
 simp only[numsL,bK,dm,Bo,ak,aa3,aaN] at h5
 refine⟨by omega,by omega,by omega,fun r hr=>?_,fun h0=>?_⟩
 ·have:=aF.1 h6 r hr
  simp only[FB,ak] at this
  exact this.1
 ·have e:(t.op != 0)=false:=by simp[bne,h0]
  rw[e,bQ] at h8
  simp only[Bf,ak] at h8
  exact h8.2.2.2.2.2.2.2.2.2.2.2.2.1
theorem ZV {w:DWorld} (hf:Aa w) {k:Nat} (hk:k<w.tasks.length):Ef w.tasks[k]:=by
 rw[BI] at hf
 exact hf.2.2.2.2.2.2.1.2 _ (aj hk)
theorem ZW {w:DWorld} (hf:Aa w) {k:Nat} (hk:k<w.deeds.length):ED w.deeds[k]:=by
 rw[BI] at hf
 exact hf.2.2.2.2.2.2.2.2 _ (aj hk)
theorem QM (w:DWorld) (k:Nat) (hf:Aa w) (hk:k<w.tasks.length) (hp:k<w.p.length):Ctr prog 113 [.agg w.c,.c (.v (.int .i64 ((k:Int))))] [.val (.c (.v (.bool (O3 w k w.tasks[k] w.p[k]))))]:=by
 have hft:=ZV hf hk
 have hft2:=hft
 rw[Di] at hft2
 have hlt:=hft2.2.2.1
 have hld:=xW hf
 have hlb:=qi hf
 refine CM call113 func113 ntmps113 results113 fun hw=>?_
 generalize ht:w.tasks[k]=t at hft hft2 hlt
 unfold O3
 simp only[go_sem,AA _ hk,hk,ht]
 try refine DrawK.mk ?_
 try simp only[go_sem,AA _ hk,hk,ht]
 first | refine CY (T_ t k hft) ?_ | refine CW (T_ t k hft) fun _=>?_
 rcases h1:H8 t k with _ | _
 ·simp only[go_sem,h1,ag]
 obtain⟨g1,g2,g3,g4,g5⟩:=fU h1
 simp only[go_sem,h1,AA _ hp,hp,ai]
 try refine DrawK.mk ?_
 try simp only[go_sem,h1,AA _ hp,hp]
 first | refine CY (WS t) ?_ | refine CW (WS t) fun _=>?_
 rcases h2:((w.p[k] != -1)==looks t) with _ | _
 ·simp only[go_sem,h2,aO,ag]
 simp only[go_sem,h2,aQ,ai]
 try refine DrawK.mk ?_
 try simp only[go_sem,h2]
 first | refine CY (Oq t) ?_ | refine CW (Oq t) fun _=>?_
 rcases h3:t.op==0 with _ | _
 rotate_left
 ·simp only[go_sem,h3,cO]
 simp only[go_sem,h3,bQ]
 obtain⟨m,hm⟩:=aP g1
 unfold qf
 rw[hm,bY]
 rcases bI m w.deeds.length with hml | hml
 rotate_left
 ·have e1:decide ((m:Int)≥(w.deeds.length:Int))=true:=by simp; omega
  rw[nR hml]
  simp only[go_sem,hm,e1]
  try refine DrawK.mk ?_
  try simp only[go_sem,hm,e1]
 have e1:decide ((m:Int)≥(w.deeds.length:Int))=false:=by simp; omega
 rw[aA hml]
 generalize hd:w.deeds[m]=d
 have hfd:ED d:=hd▸ZW hf hml
 rcases h4:ZE k t d with _ | _
 ·simp only[h4,ag]
  unfold ZE at h4
  rcases k1:d.task==(k:Int) with _ | _
  ·have j1:(d.task != (k:Int))=true:=by simp[bne,k1]
   try simp only[go_sem,hm,e1,AA _ hml,hml,hd,j1]
   try refine DrawK.mk ?_
   try simp only[go_sem,hm,e1,AA _ hml,hml,hd,j1]
  have j1:(d.task != (k:Int))=false:=by simp[bne,k1]
  rcases k2:d.op==t.op with _ | _
  ·have j2:(d.op != t.op)=true:=by simp[bne,k2]
   try simp only[go_sem,hm,e1,AA _ hml,hml,hd,j1,j2]
   try refine DrawK.mk ?_
   try simp only[go_sem,hm,e1,AA _ hml,hml,hd,j1,j2]
  have j2:(d.op != t.op)=false:=by simp[bne,k2]
  rw[k1,k2,ai,ai] at h4
  have j3:(d.ret != -1)=true:=by simp[bne,h4]
  try simp only[go_sem,hm,e1,AA _ hml,hml,hd,j1,j2,j3]
  try refine DrawK.mk ?_
  try simp only[go_sem,hm,e1,AA _ hml,hml,hd,j1,j2,j3]
 simp only[h4,ai]
 have h4b:=h4
 simp only[ZE,ak] at h4b
 have j1:(d.task != (k:Int))=false:=by simp only[bne,h4b.1,aQ]
 have j2:(d.op != t.op)=false:=by simp only[bne,h4b.2.1,aQ]
 have j3:(d.ret != -1)=false:=by simp only[bne,h4b.2.2,aQ]
 try simp only[go_sem,hm,e1,AA _ hml,hml,hd,j1,j2,j3]
 try refine DrawK.mk ?_
 try simp only[go_sem,hm,e1,AA _ hml,hml,hd,j1,j2,j3]
 refine LoopU.mk 2 (A:=Nat) (fun x=>[(72,.c (.v (.int .i64 (x))))]) (fun _=>[⟨44,14,[w.c],true,true⟩,⟨142,25,[ZU t (m:Int)],true,true⟩]) (FO t.l (there w)) (fun x=>t.l.length-x) 0 ⟨⟨rfl,rfl⟩,rfl,DW⟩ ?_
 intro j hj
 simp only[go_sem]
 refine cndC.mk (fun h=>?_) (fun h=>?_)
 ·have hj':j<t.l.length:=by simpa using h
  simp only[go_sem,AA _ hj',hj']
  try refine DrawK.mk ?_
  try simp only[go_sem,AA _ hj',hj']
  first | refine CY (Fz w t.l[j]) ?_ | refine CW (Fz w t.l[j]) fun _=>?_
  rcases h5:there w t.l[j] with _ | _
  ·simp only[go_sem,h5,BF (p:=there w) hj' h5,ag]
  ·simp only[go_sem,h5,wrap_i64 (n:=(j:Int)+1) (by omega) (by omega)]
   exact⟨j+1,⟨rfl,rfl⟩,rfl,Bc hj' hj h5,by omega⟩
 have hj':j=t.l.length:=by have:=hj.1; simp at h; omega
 subst hj'
 have hth:=CP hj
 rw[hth,ai]
 have HT:TaskIn w t d m:=⟨hml,hd,hm,hft,hfd,hth,g2,g3,g4⟩
 unfold ownB swB
 rcases o1:t.op==1 with _ | _
 rotate_left
 ·have o4:(t.op==4)=false:=by
   have:t.op=1:=by simpa using o1
   rw[this]; rfl
  simp only[o1,o4,ai,bD,ag,aC,aT]
  rcases p8:t.pc==8 with _ | _
  ·simp only[aC,aT]
   rcases w0:t.own==0 with _ | _
   ·have j0:(t.own != 0)=true:=by simp[bne,w0]
    simp only[go_sem,o1,o4,p8,j0,ag]
   have j0:(t.own != 0)=false:=by simp[bne,w0]
   simp only[go_sem,o1,o4,p8,j0,ai]
   try refine DrawK.mk ?_
   try simp only[go_sem,o1,p8]
   first | refine CallF.mk _ (by simpa only[go_sem,hm] using Jm w t d hf HT) ?_ | refine CallK.mk _ (by simpa only[go_sem,hm] using Jm w t d hf HT) fun _=>?_
   simp only[go_sem]
  ·simp only[bD]
   simp only[go_sem,o1,p8]
   try refine DrawK.mk ?_
   try simp only[go_sem,o1,p8]
   first | refine CallF.mk _ (by simpa only[go_sem,hm] using Ot w t 1 hf) ?_ | refine CallK.mk _ (by simpa only[go_sem,hm] using Ot w t 1 hf) fun _=>?_
   rcases q1:Ub w t 1 with _ | _
   ·simp only[go_sem,q1,ag]
   have hin:Ac t.own 1 w.b.length=true:=by
    unfold Ub at q1
    rw[ak] at q1
    exact q1.1
   obtain⟨q,hq,e3,e4⟩:=xX hlb hin
   have hol:ZC w t=(w.b[q].c0.l.length:Int):=by unfold ZC; rw[e4,aA hq]
   rw[hol]
   rcases l1:((w.b[q].c0.l.length:Int)==w.c0.slots) with _ | _
   ·have j1:((w.b[q].c0.l.length:Int) != w.c0.slots)=true:=by simp only[bne,l1,aO]
    simp only[go_sem,q1,e3,AA _ hq,hq,j1,ai,ag]
   have j1:((w.b[q].c0.l.length:Int) != w.c0.slots)=false:=by simp only[bne,l1,aQ]
   simp only[go_sem,q1,e3,AA _ hq,hq,j1,o1,ai]
   try refine DrawK.mk ?_
   try simp only[go_sem,o1]
   first | refine CallF.mk _ (by simpa only[go_sem,hm] using Jm w t d hf HT) ?_ | refine CallK.mk _ (by simpa only[go_sem,hm] using Jm w t d hf HT) fun _=>?_
   simp only[go_sem]
 simp only[o1,ag,aC,aT]
 rcases o4:t.op==4 with _ | _
 ·simp only[ag,aC,aT]
  rcases w0:t.own==0 with _ | _
  ·have j0:(t.own != 0)=true:=by simp[bne,w0]
   simp only[go_sem,o1,o4,j0,ag]
  have j0:(t.own != 0)=false:=by simp[bne,w0]
  rcases o2:t.op==2 with _ | _
  rotate_left
  ·simp only[bD,ai]
   simp only[go_sem,o1,o4,o2,j0]
   try refine DrawK.mk ?_
   try simp only[go_sem,o1,o2]
   first | refine CallF.mk _ (by simpa only[go_sem,hm] using QJ w t d hf HT) ?_ | refine CallK.mk _ (by simpa only[go_sem,hm] using QJ w t d hf HT) fun _=>?_
   simp only[go_sem]
  rcases o3:t.op==3 with _ | _
  rotate_left
  ·simp only[aC,aT,bD,ai]
   simp only[go_sem,o1,o4,o2,o3,j0]
   try refine DrawK.mk ?_
   try simp only[go_sem,o1,o2,o3]
   first | refine CallF.mk _ (by simpa only[go_sem,hm] using QL w t d hf HT) ?_ | refine CallK.mk _ (by simpa only[go_sem,hm] using QL w t d hf HT) fun _=>?_
   simp only[go_sem]
  simp only[aC,aT,ai]
  simp only[go_sem,o1,o4,o2,o3,j0]
  unfold xU
  try refine DrawK.mk ?_
  try simp only[go_sem,o1,o4,o2,o3,j0]
  first | refine CallF.mk _ (AC t.pc 2 5) ?_ | refine CallK.mk _ (AC t.pc 2 5) fun _=>?_
  rcases r1:Ac t.pc 2 5 with _ | _
  ·simp only[go_sem,r1,aO,cO]
  simp only[go_sem,r1,aQ,bQ]
  try refine DrawK.mk ?_
  try simp only[go_sem,r1]
  first | refine CallF.mk _ (AC (t.l.length:Int) 1 2) ?_ | refine CallK.mk _ (AC (t.l.length:Int) 1 2) fun _=>?_
  simp only[go_sem]
 ·have o2:(t.op==2)=false:=by
   have:t.op=4:=by simpa using o4
   rw[this]; rfl
  have o3:(t.op==3)=false:=by
   have:t.op=4:=by simpa using o4
   rw[this]; rfl
  simp only[o2,o3,ai,aC,aT]
  have e45:Ac t.pc 4 5=((t.pc==4)||(t.pc==5)):=by
   unfold Ac
   rcases p4:t.pc==4 with _ | _
   ·rcases p5:t.pc==5 with _ | _
    ·simp at p4 p5 ⊢; omega
    ·simp at p5 ⊢; omega
   ·simp at p4 ⊢; omega
  unfold xU
  rcases h45:Ac t.pc 4 5 with _ | _
  ·rw[h45] at e45
   have p4:(t.pc==4)=false:=by rcases p:t.pc==4 with _ | _<;>simp[p] at e45 ⊢
   have p5:(t.pc==5)=false:=by rcases p:t.pc==5 with _ | _<;>simp[p] at e45 ⊢
   simp only[aC,aT]
   rcases w0:t.own==0 with _ | _
   ·have j0:(t.own != 0)=true:=by simp[bne,w0]
    simp only[go_sem,o1,o4,p4,p5,j0,ag]
   have j0:(t.own != 0)=false:=by simp[bne,w0]
   simp only[go_sem,o1,o4,o2,o3,p4,p5,j0,ai]
   try refine DrawK.mk ?_
   try simp only[go_sem,o1,o4,o2,o3]
   first | refine CallF.mk _ (AC t.pc 2 5) ?_ | refine CallK.mk _ (AC t.pc 2 5) fun _=>?_
   rcases r1:Ac t.pc 2 5 with _ | _
   ·simp only[go_sem,r1,aO,cO]
   simp only[go_sem,r1,aQ,bQ]
   try refine DrawK.mk ?_
   try simp only[go_sem,r1]
   first | refine CallF.mk _ (AC (t.l.length:Int) 1 2) ?_ | refine CallK.mk _ (AC (t.l.length:Int) 1 2) fun _=>?_
   simp only[go_sem]
  ·rw[h45] at e45
   have hp:(t.pc==4)=true∨((t.pc==4)=false∧(t.pc==5)=true):=by
    rcases p:t.pc==4 with _ | _
    ·rw[p,bQ] at e45
     exact .inr ⟨rfl,e45.symm⟩
    ·exact .inl rfl
   simp only[bD]
   rcases hp with p4 | ⟨p4,p5⟩
   rotate_left
   simp only[go_sem,o1,o4,p4,p5]
   rotate_left
   simp only[go_sem,o1,o4,p4]
   all_goals
    try refine DrawK.mk ?_
    try simp only[go_sem,o1,o4,p4]
    first | refine CallF.mk _ (by simpa only[go_sem,hm] using Ot w t 2 hf) ?_ | refine CallK.mk _ (by simpa only[go_sem,hm] using Ot w t 2 hf) fun _=>?_
    rcases q1:Ub w t 2 with _ | _
    ·simp only[go_sem,q1,ag]
    simp only[go_sem,q1,o1,o4,o2,o3,ai]
    try refine DrawK.mk ?_
    try simp only[go_sem,o1,o4,o2,o3]
    first | refine CallF.mk _ (AC t.pc 2 5) ?_ | refine CallK.mk _ (AC t.pc 2 5) fun _=>?_
    rcases r1:Ac t.pc 2 5 with _ | _
    ·simp only[go_sem,r1,aO,cO]
    simp only[go_sem,r1,aQ,bQ]
    try refine DrawK.mk ?_
    try simp only[go_sem,r1]
    first | refine CallF.mk _ (AC (t.l.length:Int) 1 2) ?_ | refine CallK.mk _ (AC (t.l.length:Int) 1 2) fun _=>?_
    simp only[go_sem]
theorem fV (w:DWorld) (t:DTask) (hf:Aa w):Ctr prog 167 [.agg w.c,.agg t.c] [.val (.c (.v (.bool (ownB w t))))]:=by
 refine CM call167 func167 ntmps167 results167 fun hw=>?_
 have hlb:=qi hf
 unfold ownB
 rcases o1:t.op==1 with _ | _
 ·rcases o4:t.op==4 with _ | _
  ·simp only[go_sem,o1,o4,ag,aC,aT]
  simp only[go_sem,o1,o4,ag,ai,aC,aT]
  try refine DrawK.mk ?_
  try simp only[go_sem,o1,o4]
  first | refine CallF.mk _ (AL t.pc 4 5) ?_ | refine CallK.mk _ (AL t.pc 4 5) fun _=>?_
  rcases h45:Ac t.pc 4 5 with _ | _
  ·simp only[go_sem,h45,aC,aT]
  simp only[go_sem,h45,bD]
  unfold Ub
  try refine DrawK.mk ?_
  try simp only[go_sem,h45]
  first | refine CallF.mk _ (AL t.own 1 w.b.length) ?_ | refine CallK.mk _ (AL t.own 1 w.b.length) fun _=>?_
  rcases q1:Ac t.own 1 w.b.length with _ | _
  ·simp only[go_sem,q1,ag]
  obtain⟨q,hq,e3,e4⟩:=xX hlb q1
  rw[e4,aA hq]
  simp only[go_sem,q1,e3,AA _ hq,hq,ai]
 ·have o4:(t.op==4)=false:=by
   have:t.op=1:=by simpa using o1
   rw[this]; rfl
  rcases p8:t.pc==8 with _ | _
  ·simp only[go_sem,o1,o4,p8,ag,ai,aC,aT]
  simp only[go_sem,o1,o4,p8,ai,bD]
  unfold Ub
  try refine DrawK.mk ?_
  try simp only[go_sem,o1,o4,p8]
  first | refine CallF.mk _ (AL t.own 1 w.b.length) ?_ | refine CallK.mk _ (AL t.own 1 w.b.length) fun _=>?_
  rcases q1:Ac t.own 1 w.b.length with _ | _
  ·simp only[go_sem,q1,ag]
  obtain⟨q,hq,e3,e4⟩:=xX hlb q1
  have hol:ZC w t=(w.b[q].c0.l.length:Int):=by unfold ZC; rw[e4,aA hq]
  rw[e4,aA hq,hol]
  simp only[go_sem,q1,e3,AA _ hq,hq,ai]
  rcases k1:w.b[q].kind==1 with _ | _
  ·simp only[go_sem,k1,ag]
  ·simp only[go_sem,k1,ai]
theorem RS (w:DWorld) (t:DTask) (d:DDeed) {m:Nat} (hf:Aa w) (H:TaskIn w t d m):Ctr prog 168 [.agg w.c,.agg t.c,.agg d.c] [.val (.c (.v (.bool (ABw w t d))))]:=by
 obtain⟨hm,hd,ht,hft,hfd,hth,hi,hj,hfr⟩:=H
 refine CM call168 func168 ntmps168 results168 fun hw=>?_
 rw[Di] at hft
 rw[FP] at hfd
 unfold ABw
 rw[AG2]
 simp only[go_sem]
 try refine DrawK.mk ?_
 try simp only[go_sem]
 first | refine CallF.mk _ (OI w.c0.cols t.r) ?_ | refine CallK.mk _ (OI w.c0.cols t.r) fun _=>?_
 rcases h1:fits w.c0.cols t.r with _ | _
 ·simp only[go_sem,h1,ag]
 simp only[go_sem,h1,ai]
 try refine DrawK.mk ?_
 try simp only[go_sem,h1]
 first | refine CallF.mk _ (PL t.r d.r hft.1.1 hfd.1.1) ?_ | refine CallK.mk _ (PL t.r d.r hft.1.1 hfd.1.1) fun _=>?_
 rcases h2:LU t.r d.r with _ | _
 ·simp only[go_sem,h2,ag]
 simp only[go_sem,h2,ai]
 try refine DrawK.mk ?_
 try simp only[go_sem]
 first | refine CallF.mk _ (AL t.pc 2 7) ?_ | refine CallK.mk _ (AL t.pc 2 7) fun _=>?_
 rcases h3:Ac t.pc 2 7 with _ | _
 ·simp only[go_sem,h3,aO,cO]
 rcases h4:t.pc==5 with _ | _
 rotate_left
 ·simp only[go_sem,h3,h4,aQ,Bool.or_true,cO]
 simp only[go_sem,h3,h4,aQ,bQ]
 rcases h5:((t.l.length:Int)==1) with _ | _
 ·have g5:((t.l.length:Int) != 1)=true:=by simp only[bne,h5,aO]
  simp only[go_sem,g5,ag]
  try refine DrawK.mk ?_
  try simp only[go_sem,g5]
 have g5:((t.l.length:Int) != 1)=false:=by simp only[bne,h5,aQ]
 obtain⟨h0,hl0⟩:=xY h5
 rw[hl0,ai]
 rcases h6:t.l[0].kind==1 with _ | _
 ·have g6:(t.l[0].kind != 1)=true:=by simp[bne,h6]
  simp only[go_sem,g5,g6,AA _ h0,h0,ag]
  try refine DrawK.mk ?_
  try simp only[go_sem,g5,g6,AA _ h0,h0]
 have g6:(t.l[0].kind != 1)=false:=by simp[bne,h6]
 simp only[go_sem,g5,g6,AA _ h0,h0,ai]
 try refine DrawK.mk ?_
 try simp only[go_sem,g5,g6,AA _ h0,h0]
 rcases h7:t.pc==2 with _ | _
 ·simp only[go_sem,h7,AA _ h0,h0,bQ]
  try refine DrawK.mk ?_
  try simp only[go_sem,h7,AA _ h0,h0]
 ·simp only[go_sem,h7,AA _ h0,h0,cO]
  try refine DrawK.mk ?_
  try simp only[go_sem,h7,AA _ h0,h0]
theorem Ug (l:List DRef) (id:Int) (h1:l.length=1) (h0:0<l.length):Ctr prog 219 [.agg (DDir.c ⟨0,l⟩),.c (.v (.int .i64 (id)))] [.val (.c (.v (.int .i64 (if CQ l[0] id=true then 0 else -1))))]:=by
 refine CM call219 func219 ntmps219 results219 fun hw=>?_
 simp only[go_sem]
 refine LoopU.mk 1 (A:=Nat) (fun x=>[(5,.c (.v (.int .i64 (x))))]) (fun _=>[⟨38,2,[DDir.c ⟨0,l⟩],true,true⟩]) (fun x=>x≤1∧(x=1→CQ l[0] id=false)) (fun x=>1-x) 0 ⟨⟨rfl,rfl⟩,rfl,ax _,fun h=>by omega⟩ ?_
 rintro k ⟨hk,hc⟩
 simp only[go_sem]
 refine cndC.mk (fun h=>?_) (fun h=>?_)
 ·have hk0:k=0:=by simp[h1] at h; omega
  subst hk0
  have hw01:IntKind.i64.wrap (0+1)=1:=rfl
  have e0:CQ l[0] id=(decide (l[0].first≥0)&&(decide (id≥l[0].first)&&decide (IntKind.i64.wrap (id-l[0].first)<l[0].many))):=rfl
  simp only[go_sem,AA _ h0,h0]
  try refine DrawK.mk ?_
  try simp only[go_sem,AA _ h0,h0]
  rcases q1:decide (l[0].first≥0) with _ | _
  ·simp only[go_sem,AA _ h0,h0,hw01,q1]
   exact⟨1,⟨rfl,rfl⟩,rfl,⟨aN _,fun _=>by rw[e0,q1]; rfl⟩,by omega⟩
  rcases q2:decide (id≥l[0].first) with _ | _
  ·simp only[go_sem,AA _ h0,h0,hw01,q1,q2]
   exact⟨1,⟨rfl,rfl⟩,rfl,⟨aN _,fun _=>by rw[e0,q1,q2]; rfl⟩,by omega⟩
  rcases q3:decide (IntKind.i64.wrap (id-l[0].first)<l[0].many) with _ | _
  ·simp only[go_sem,AA _ h0,h0,hw01,q1,q2,q3]
   exact⟨1,⟨rfl,rfl⟩,rfl,⟨aN _,fun _=>by rw[e0,q1,q2,q3]; rfl⟩,by omega⟩
  ·have e:CQ l[0] id=true:=by rw[e0,q1,q2,q3]; rfl
   simp only[go_sem,AA _ h0,h0,q1,q2,q3,e,bD]
   rfl
 ·have hk1:k=1:=by simp[h1] at h; omega
  subst hk1
  simp only[go_sem,hc rfl,aC,aT]
theorem QN (w:DWorld) (t:DTask) (d:DDeed) {m:Nat} (hf:Aa w) (H:TaskIn w t d m):Ctr prog 169 [.agg w.c,.agg t.c,.agg d.c] [.val (.c (.v (.bool (qY w t d))))]:=by
 obtain⟨hm,hd,ht,hft,hfd,hth,hi,hj,hfr⟩:=H
 refine CM call169 func169 ntmps169 results169 fun hw=>?_
 unfold qY
 rcases h1:t.id==d.id with _ | _
 ·have hne:t.id≠d.id:=by simpa using h1
  have g1:(d.id != t.id)=true:=by simp; exact fun e=>hne e.symm
  simp only[go_sem,g1,ag]
 have hee:t.id=d.id:=by simpa using h1
 have g1:(d.id != t.id)=false:=by simp[hee]
 simp only[go_sem,g1,ai]
 try refine DrawK.mk ?_
 try simp only[go_sem,g1]
 first | refine CallF.mk _ (AL t.pc 2 7) ?_ | refine CallK.mk _ (AL t.pc 2 7) fun _=>?_
 rcases h2:Ac t.pc 2 7 with _ | _
 ·simp only[go_sem,h2,aO,cO]
 rw[AE_ _ h2]
 simp only[go_sem,h2,aQ,bQ]
 rcases h5:((t.l.length:Int)==1) with _ | _
 ·have g5:((t.l.length:Int) != 1)=true:=by simp only[bne,h5,aO]
  simp only[go_sem,g5,ag]
  try refine DrawK.mk ?_
  try simp only[go_sem,g5]
 have g5:((t.l.length:Int) != 1)=false:=by simp only[bne,h5,aQ]
 obtain⟨h0,hl0⟩:=xY h5
 rw[hl0,ai]
 have hl1:t.l.length=1:=by have:=ZZ.1 h5; omega
 try refine DrawK.mk ?_
 try simp only[go_sem,g5,AA _ h0,h0]
 first | refine CY (Ug t.l t.id hl1 h0) ?_ | refine CW (Ug t.l t.id hl1 h0) fun _=>?_
 rcases h6:CQ t.l[0] t.id with _ | _
 ·have e6:((-1:Int) != 0)=true:=rfl
  simp only[go_sem,h6,e6,aC,aT,ag]
 have e6:((0:Int) != 0)=false:=rfl
 simp only[go_sem,h6,e6,bD,ai]
 rcases h7:decide (t.id<(w.m.length:Int)) with _ | _
 ·have g7:decide (t.id≥(w.m.length:Int))=true:=by simp at h7 ⊢; omega
  simp only[go_sem,g7,ag]
 have g7:decide (t.id≥(w.m.length:Int))=false:=by simp at h7 ⊢; omega
 simp only[go_sem,g7,ai]
 rcases h8:decide (t.pc>4) with _ | _
 ·rcases h9:t.pc==2 with _ | _
  ·simp only[go_sem,h8,h9,AA _ h0,h0,bQ]
   try refine DrawK.mk ?_
   try simp only[go_sem,h8,h9,AA _ h0,h0]
  ·simp only[go_sem,h8,h9,AA _ h0,h0,bQ,cO]
   try refine DrawK.mk ?_
   try simp only[go_sem,h8,h9,AA _ h0,h0]
 ·simp only[go_sem,h8,AA _ h0,h0,cO]
  try refine DrawK.mk ?_
  try simp only[go_sem,h8,AA _ h0,h0]
theorem AFD (n:Int) (h:Ac n 3 8=true):Ac n 4 8 = !(n==3):=by
 simp only[Ac,ak,bf] at h
 have h:n=3∨n=4∨n=5∨n=6∨n=7∨n=8:=by omega
 rcases h with h | h | h | h | h | h<;>subst h<;>rfl
theorem ADS (n:Int) (h:Ac n 3 8=false):Ac n 4 8=false:=by
 rcases h2:Ac n 4 8 with _ | _
 ·rfl
 ·simp only[Ac,ak,bf] at h2
  have:Ac n 3 8=true:=by simp only[Ac,ak,bf]; omega
  rw[this] at h; cases h
theorem QO (w:DWorld) (t:DTask) (d:DDeed) {m:Nat} (hf:Aa w) (H:TaskIn w t d m):Ctr prog 170 [.agg w.c,.agg t.c,.agg d.c] [.val (.c (.v (.bool (qZ w t d))))]:=by
 obtain⟨hm,hd,ht,hft,hfd,hth,hi,hj,hfr⟩:=H
 refine CM call170 func170 ntmps170 results170 fun hw=>?_
 rw[Di] at hft
 rw[FP] at hfd
 unfold qZ
 simp only[go_sem]
 try refine DrawK.mk ?_
 try simp only[go_sem]
 first | refine CY (RP w.c0.cols t.q (ADR hf) hft.2.1) ?_ | refine CW (RP w.c0.cols t.q (ADR hf) hft.2.1) fun _=>?_
 rcases h1:BX w.c0.cols t.q with _ | _
 ·simp only[go_sem,h1,ag]
 simp only[go_sem,h1,ai]
 try refine DrawK.mk ?_
 try simp only[go_sem,h1]
 first | refine CY (WJ t.q d.q hft.2.1 hfd.2.1) ?_ | refine CW (WJ t.q d.q hft.2.1 hfd.2.1) fun _=>?_
 rcases h2:UZ t.q d.q with _ | _
 ·simp only[go_sem,h2,ag]
 rcases h3:decide (t.ts>w.t) with _ | _
 rotate_left
 ·simp only[go_sem,h2,h3,aQ,ag,aH]
 simp only[go_sem,h2,h3,aO,ai]
 try refine DrawK.mk ?_
 try simp only[go_sem,h2,h3]
 first | refine CallF.mk _ (AL t.pc 3 8) ?_ | refine CallK.mk _ (AL t.pc 3 8) fun _=>?_
 rcases h4:Ac t.pc 3 8 with _ | _
 ·simp only[go_sem,h4,aO,cO]
  try refine DrawK.mk ?_
  try simp only[go_sem,h4]
  first | refine CallF.mk _ (AL t.pc 4 8) ?_ | refine CallK.mk _ (AL t.pc 4 8) fun _=>?_
  simp only[go_sem,ADS _ h4]
 rcases h5:decide (t.i>(t.l.length:Int)) with _ | _
 rotate_left
 ·simp only[go_sem,h4,h5,aQ,ag,bQ]
 simp only[go_sem,h4,h5,aQ,aO,ai,bQ]
 try refine DrawK.mk ?_
 try simp only[go_sem,h4,h5]
 first | refine CallF.mk _ (AL t.pc 4 8) ?_ | refine CallK.mk _ (AL t.pc 4 8) fun _=>?_
 rw[AFD _ h4]
 rcases h6:t.pc==3 with _ | _
 rotate_left
 ·simp only[go_sem,h6,aQ,cO]
 obtain⟨k,hk⟩:=aP hi
 have hkl:k≤t.l.length:=by rw[hk] at h5; simp at h5; omega
 rw[hk,bY,bQ]
 rcases bI k t.l.length with hk2 | hk2
 rotate_left
 ·have e:k=t.l.length:=by omega
  have e2:((k:Int)==(t.l.length:Int))=true:=by simp; omega
  rw[nR hk2]
  simp only[go_sem,h6,hk,e2,aO]
  try refine DrawK.mk ?_
  try simp only[go_sem,h6,hk,e2]
 have e2:((k:Int)==(t.l.length:Int))=false:=by simp; omega
 rw[aA hk2]
 simp only[go_sem,h6,hk,e2,AA _ hk2,hk2,aO]
 try refine DrawK.mk ?_
 try simp only[go_sem,h6,hk,e2,AA _ hk2,hk2]
 have hthk:=VU hth hk2
 unfold kS
 rcases k1:t.l[k].kind==1 with _ | _
 ·obtain⟨q,hq,hbm,hat⟩ | ⟨hbm,hat⟩:=Eu w t.l[k].buf
  rotate_left
  ·simp only[there,hat] at hthk
   cases hthk
  have hgl:=XT w t.l[k]
  simp only[go_sem,k1,AA _ hk2,hk2,aC,aT]
  try refine DrawK.mk ?_
  try simp only[go_sem,k1,AA _ hk2,hk2]
  first | refine CY (QR w t.l[k] hf hq hbm) ?_ | refine CW (QR w t.l[k] hf hq hbm) fun _=>?_
  rcases h8:decide (t.pc≥6) with _ | _
  ·simp only[go_sem,h8,ag]
   try refine DrawK.mk ?_
   try simp only[go_sem,h8]
  obtain⟨j,hjj⟩:=aP hj
  rw[hjj,bY]
  rcases bI j (Eh w t.l[k]).length with hm | hm
  ·have e1:decide ((j:Int)<((Eh w t.l[k]).length:Int))=true:=by simp; omega
   rw[aA hm]
   simp only[go_sem,h8,hjj,e1,AA _ hm,hm,ai]
   try refine DrawK.mk ?_
   try simp only[go_sem,h8,hjj,e1,AA _ hm,hm]
  ·have e1:decide ((j:Int)<((Eh w t.l[k]).length:Int))=false:=by simp; omega
   rw[nR hm]
   simp only[go_sem,h8,hjj,e1,ai]
   try refine DrawK.mk ?_
   try simp only[go_sem,h8,hjj,e1]
 ·simp only[bD]
  rcases h9:decide (t.j<t.l[k].many) with _ | _
  ·simp only[go_sem,k1,h9,AA _ hk2,hk2,ag]
   try refine DrawK.mk ?_
   try simp only[go_sem,k1,h9,AA _ hk2,hk2]
  rcases h7:decide (t.pc<6) with _ | _
  ·simp only[go_sem,k1,h9,h7,AA _ hk2,hk2,ai,bQ]
   try refine DrawK.mk ?_
   try simp only[go_sem,k1,h9,h7,AA _ hk2,hk2]
  ·simp only[go_sem,k1,h9,h7,AA _ hk2,hk2,ai,cO]
   try refine DrawK.mk ?_
   try simp only[go_sem,k1,h9,h7,AA _ hk2,hk2]
end Go.Proofs.YtnfbaclikokapaaGreat
