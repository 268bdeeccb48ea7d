/- A part. -/
import Derived.Test.YtnoldekcdlaahaaGreatPZo
set_option linter.unusedSimpArgs false
set_option linter.unusedVariables false
set_option maxHeartbeats 8000000
set_option maxRecDepth 10000
open Go.Proofs.Tryz
namespace Go.Proofs.YtnoldekcdlaahaaGreat
open Go.Vm
def gy (t:DTask) (h:Int):List Cl:=[.v (.int .i64 t.op),.v (.int .i64 t.pc),.v (.int .i64 h),.sl (t.r.map DVal.c),.v (.int .i64 t.id),.v (.int .i64 t.q.kind),.v (.int .i64 t.q.p.kind),.v (.int .i64 t.q.p.col),.v (.int .i64 t.q.p.op),.v (.int .i64 t.q.p.v.ty),.v (.int .i64 t.q.p.v.n),.v (.string t.q.p.v.s),.sl (t.q.p.l.map DPred.c),.v (.int .i64 t.q.col),.sl (t.q.out.map intC),.v (.int .i64 t.ts),.v (.int .i64 t.ver),.sl (t.l.map DRef.c),.v (.int .i64 t.i),.v (.int .i64 t.j),.v (.int .i64 t.s),.v (.int .i64 t.at0),.v (.int .i64 t.own),.v (.bool t.won),.sl (t.got.map DRow.c)]
@[go_sem] theorem AGi (t:DTask) (h:Int):gy t h = [.v (.int .i64 t.op),.v (.int .i64 t.pc),.v (.int .i64 h),.sl (t.r.map DVal.c),.v (.int .i64 t.id),.v (.int .i64 t.q.kind),.v (.int .i64 t.q.p.kind),.v (.int .i64 t.q.p.col),.v (.int .i64 t.q.p.op),.v (.int .i64 t.q.p.v.ty),.v (.int .i64 t.q.p.v.n),.v (.string t.q.p.v.s),.sl (t.q.p.l.map DPred.c),.v (.int .i64 t.q.col),.sl (t.q.out.map intC),.v (.int .i64 t.ts),.v (.int .i64 t.ver),.sl (t.l.map DRef.c),.v (.int .i64 t.i),.v (.int .i64 t.j),.v (.int .i64 t.s),.v (.int .i64 t.at0),.v (.int .i64 t.own),.v (.bool t.won),.sl (t.got.map DRow.c)]:=rfl
theorem kV {t:DTask} {k:Int} (h:G8 t k=true):0≤t.h∧0≤t.i∧0≤t.j∧(∀ r∈t.l,Ef r=true)∧((t.op==0)=true→(t.own==0)=true):=by
 simp only[G8,ay] at h
 obtain⟨_,_,_,_,h5,h6,_,h8⟩:=h
 simp only[numsL,bi,bJ,CP,ay,aaV,aaA] at h5
 refine⟨AOQ,AOQ,AOQ,fun r hr=>?_,fun h0=>?_⟩
 ·have:=aJ.1 h6 r hr
  simp only[Gi,ay] at this
  exact this.1
 ·have e:(t.op != 0)=false:=by simp[bne,h0]
  rw[e,bZ] at h8
  simp only[C9,ay] at h8
  exact h8.2.2.2.2.2.2.2.2.2.2.2.2.1
theorem gz {w:DWorld} (hf:Aa w) {k:Nat} (hk:k<w.tasks.length):Gu w.tasks[k]:=by
 rw[Ar] at hf
 exact hf.2.2.2.2.2.2.1.2 _ (ax hk)
theorem g_ {w:DWorld} (hf:Aa w) {k:Nat} (hk:k<w.deeds.length):GK w.deeds[k]:=by
 rw[Ar] at hf
 exact hf.2.2.2.2.2.2.2.2 _ (ax hk)
theorem Rj (w:DWorld) (k:Nat) (hf:Aa w) (hk:k<w.tasks.length) (hp:k<w.p.length):Ctr prog 109 [.agg w.c,.c (.v (.int .i64 ((k:Int))))] [.val (.c (.v (.bool (QL w k w.tasks[k] w.p[k]))))]:=by
 have hft:=gz hf hk
 have hft2:=hft
 rw[DR] at hft2
 have hlt:=hft2.2.2.1
 have hld:=AAp hf
 have hlb:=v_ hf
 refine CM call109 func109 ntmps109 results109 fun hw=>?_
 generalize ht:w.tasks[k]=t at hft hft2 hlt
 unfold QL
 simp only[go_sem,AA _ hk,hk,ht]
 try refine AAm ?_
 try simp only[go_sem,AA _ hk,hk,ht]
 first | refine CY (V6 t k hft) ?_ | refine CW (V6 t k hft) fun _=>?_
 rcases h1:G8 t k with _ | _
 ·exact ALu
 obtain⟨g1,g2,g3,g4,g5⟩:=kV h1
 simp only[go_sem,h1,AA _ hp,hp,aj]
 try refine AAm ?_
 try simp only[go_sem,h1,AA _ hp,hp]
 first | refine CY (YK t) ?_ | refine CW (YK t) fun _=>?_
 rcases h2:((w.p[k] != -1)==looks t) with _ | _
 ·simp only[go_sem,h2,aS,ag]
 simp only[go_sem,h2,aP,aj]
 try refine AAm ?_
 try simp only[go_sem,h2]
 first | refine CY (gq t) ?_ | refine CW (gq t) fun _=>?_
 rcases h3:t.op==0 with _ | _
 rotate_left
 ·simp only[go_sem,h3,dh]
 simp only[go_sem,h3,bZ]
 obtain⟨m,hm⟩:=aQ g1
 unfold gV
 rw[hm,bW]
 rcases bV m w.deeds.length with hml | hml
 rotate_left
 ·exact AL9
 have e1:decide ((m:Int)≥(w.deeds.length:Int))=false:=AOS
 rw[au hml]
 generalize hd:w.deeds[m]=d
 have hfd:GK d:=hd▸g_ hf hml
 rcases h4:gU k t d with _ | _
 ·simp only[h4,ag]
  unfold gU at h4
  rcases k1:d.task==(k:Int) with _ | _
  ·have j1:(d.task != (k:Int))=true:=by simp[bne,k1]
   try simp only[go_sem,hm,e1,AA _ hml,hml,hd,j1]
   try refine AAm ?_
   try simp only[go_sem,hm,e1,AA _ hml,hml,hd,j1]
  have j1:(d.task != (k:Int))=false:=by simp[bne,k1]
  rcases k2:d.op==t.op with _ | _
  ·have j2:(d.op != t.op)=true:=by simp[bne,k2]
   try simp only[go_sem,hm,e1,AA _ hml,hml,hd,j1,j2]
   try refine AAm ?_
   try simp only[go_sem,hm,e1,AA _ hml,hml,hd,j1,j2]
  have j2:(d.op != t.op)=false:=by simp[bne,k2]
  rw[k1,k2,aj,aj] at h4
  have j3:(d.ret != -1)=true:=by simp[bne,h4]
  try simp only[go_sem,hm,e1,AA _ hml,hml,hd,j1,j2,j3]
  try refine AAm ?_
  try simp only[go_sem,hm,e1,AA _ hml,hml,hd,j1,j2,j3]
 simp only[h4,aj]
 have h4b:=h4
 simp only[gU,ay] at h4b
 have j1:(d.task != (k:Int))=false:=by simp only[bne,h4b.1,aP]
 have j2:(d.op != t.op)=false:=by simp only[bne,h4b.2.1,aP]
 have j3:(d.ret != -1)=false:=by simp only[bne,h4b.2.2,aP]
 try simp only[go_sem,hm,e1,AA _ hml,hml,hd,j1,j2,j3]
 try refine AAm ?_
 try simp only[go_sem,hm,e1,AA _ hml,hml,hd,j1,j2,j3]
 refine ABK 2 (A:=Nat) (fun x=>[(72,.c (.v (.int .i64 (x))))]) (fun _=>[⟨44,14,[w.c],true,true⟩,⟨72,25,[gy t (m:Int)],true,true⟩]) (FC t.l (there w)) (fun x=>t.l.length-x) 0 ⟨⟨rfl,rfl⟩,rfl,DZ⟩ ?_
 intro j hj
 refine AOJ (fun h=>?_) fun h=>?_
 ·have hj':j<t.l.length:=by simpa using h
  simp only[go_sem,AA _ hj',hj']
  try refine AAm ?_
  try simp only[go_sem,AA _ hj',hj']
  first | refine CY (BI w t.l[j]) ?_ | refine CW (BI w t.l[j]) fun _=>?_
  rcases h5:there w t.l[j] with _ | _
  ·simp only[go_sem,h5,BU (p:=there w) hj' h5,ag]
  ·exact AMq
 have hj':j=t.l.length:=AOw
 subst hj'
 have hth:=DN hj
 rw[hth,aj]
 have HT:TaskIn w t d m:=⟨hml,hd,hm,hft,hfd,hth,g2,g3,g4⟩
 unfold ownB swB
 rcases o1:t.op==1 with _ | _
 rotate_left
 ·have o4:(t.op==4)=false:=by
   have:t.op=1:=by simpa using o1
   rw[this]; rfl
  simp only[o1,o4,aj,bf,ag,aB,aX]
  rcases p8:t.pc==8 with _ | _
  ·simp only[aB,aX]
   rcases w0:t.own==0 with _ | _
   ·have j0:(t.own != 0)=true:=by simp[bne,w0]
    simp only[go_sem,o1,o4,p8,j0,ag]
   have j0:(t.own != 0)=false:=by simp[bne,w0]
   simp only[go_sem,o1,o4,p8,j0,aj]
   try refine AAm ?_
   try simp only[go_sem,o1,p8]
   first | refine ABL _ AO7 ?_ | refine AAM _ AO7 fun _=>?_
   exact AI5
  ·simp only[bf]
   simp only[go_sem,o1,p8]
   try refine AAm ?_
   try simp only[go_sem,o1,p8]
   first | refine ABL _ (by simpa only[go_sem,hm] using QD w t 1 hf) ?_ | refine AAM _ (by simpa only[go_sem,hm] using QD w t 1 hf) fun _=>?_
   rcases q1:TV w t 1 with _ | _
   ·simp only[go_sem,q1,ag]
   have hin:Ad t.own 1 w.b.length=true:=by
    unfold TV at q1
    rw[ay] at q1
    exact q1.1
   obtain⟨q,hq,e3,e4⟩:=AAq hlb hin
   have hol:gQ w t=(w.b[q].c0.l.length:Int):=by unfold gQ; rw[e4,au hq]
   rw[hol]
   rcases l1:((w.b[q].c0.l.length:Int)==w.c0.slots) with _ | _
   ·have j1:((w.b[q].c0.l.length:Int) != w.c0.slots)=true:=by simp only[bne,l1,aS]
    simp only[go_sem,q1,e3,AA _ hq,hq,j1,aj,ag]
   have j1:((w.b[q].c0.l.length:Int) != w.c0.slots)=false:=by simp only[bne,l1,aP]
   simp only[go_sem,q1,e3,AA _ hq,hq,j1,o1,aj]
   try refine AAm ?_
   try simp only[go_sem,o1]
   first | refine ABL _ AO7 ?_ | refine AAM _ AO7 fun _=>?_
   exact AI5
 simp only[o1,ag,aB,aX]
 rcases o4:t.op==4 with _ | _
 ·simp only[ag,aB,aX]
  rcases w0:t.own==0 with _ | _
  ·have j0:(t.own != 0)=true:=by simp[bne,w0]
   simp only[go_sem,o1,o4,j0,ag]
  have j0:(t.own != 0)=false:=by simp[bne,w0]
  rcases o2:t.op==2 with _ | _
  rotate_left
  ·simp only[bf,aj]
   simp only[go_sem,o1,o4,o2,j0]
   try refine AAm ?_
   try simp only[go_sem,o1,o2]
   first | refine ABL _ (by simpa only[go_sem,hm] using Rh w t d hf HT) ?_ | refine AAM _ (by simpa only[go_sem,hm] using Rh w t d hf HT) fun _=>?_
   exact AI5
  rcases o3:t.op==3 with _ | _
  rotate_left
  ·simp only[aB,aX,bf,aj]
   simp only[go_sem,o1,o4,o2,o3,j0]
   try refine AAm ?_
   try simp only[go_sem,o1,o2,o3]
   first | refine ABL _ (by simpa only[go_sem,hm] using Ri w t d hf HT) ?_ | refine AAM _ (by simpa only[go_sem,hm] using Ri w t d hf HT) fun _=>?_
   exact AI5
  simp only[aB,aX,aj]
  simp only[go_sem,o1,o4,o2,o3,j0]
  unfold AAo
  try refine AAm ?_
  try simp only[go_sem,o1,o4,o2,o3,j0]
  exact AIF
 ·have o2:(t.op==2)=false:=by
   have:t.op=4:=by simpa using o4
   rw[this]; rfl
  have o3:(t.op==3)=false:=by
   have:t.op=4:=by simpa using o4
   rw[this]; rfl
  simp only[o2,o3,aj,aB,aX]
  have e45:Ad t.pc 4 5=((t.pc==4)||(t.pc==5)):=by
   unfold Ad
   rcases p4:t.pc==4 with _ | _
   ·rcases p5:t.pc==5 with _ | _
    ·simp at p4 p5 ⊢; omega
    ·simp at p5 ⊢; omega
   ·simp at p4 ⊢; omega
  unfold AAo
  rcases h45:Ad t.pc 4 5 with _ | _
  ·rw[h45] at e45
   have p4:(t.pc==4)=false:=by rcases p:t.pc==4 with _ | _<;>simp[p] at e45 ⊢
   have p5:(t.pc==5)=false:=by rcases p:t.pc==5 with _ | _<;>simp[p] at e45 ⊢
   simp only[aB,aX]
   rcases w0:t.own==0 with _ | _
   ·have j0:(t.own != 0)=true:=by simp[bne,w0]
    simp only[go_sem,o1,o4,p4,p5,j0,ag]
   have j0:(t.own != 0)=false:=by simp[bne,w0]
   simp only[go_sem,o1,o4,o2,o3,p4,p5,j0,aj]
   try refine AAm ?_
   try simp only[go_sem,o1,o4,o2,o3]
   exact AIF
  ·rw[h45] at e45
   have hp:(t.pc==4)=true∨((t.pc==4)=false∧(t.pc==5)=true):=by
    rcases p:t.pc==4 with _ | _
    ·rw[p,bZ] at e45
     exact .inr ⟨rfl,e45.symm⟩
    ·exact .inl rfl
   simp only[bf]
   rcases hp with p4 | ⟨p4,p5⟩
   rotate_left
   simp only[go_sem,o1,o4,p4,p5]
   rotate_left
   simp only[go_sem,o1,o4,p4]
   all_goals
    try refine AAm ?_
    try simp only[go_sem,o1,o4,p4]
    first | refine ABL _ (by simpa only[go_sem,hm] using QD w t 2 hf) ?_ | refine AAM _ (by simpa only[go_sem,hm] using QD w t 2 hf) fun _=>?_
    rcases q1:TV w t 2 with _ | _
    ·simp only[go_sem,q1,ag]
    simp only[go_sem,q1,o1,o4,o2,o3,aj]
    try refine AAm ?_
    try simp only[go_sem,o1,o4,o2,o3]
    exact AIF
theorem kW (w:DWorld) (t:DTask) (hf:Aa w):Ctr prog 201 [.agg w.c,.agg t.c] [.val (.c (.v (.bool (ownB w t))))]:=by
 refine CM call201 func201 ntmps201 results201 fun hw=>?_
 have hlb:=v_ hf
 unfold ownB
 rcases o1:t.op==1 with _ | _
 ·rcases o4:t.op==4 with _ | _
  ·simp only[go_sem,o1,o4,ag,aB,aX]
  simp only[go_sem,o1,o4,ag,aj,aB,aX]
  try refine AAm ?_
  try simp only[go_sem,o1,o4]
  first | refine ABL _ (AO t.pc 4 5) ?_ | refine AAM _ (AO t.pc 4 5) fun _=>?_
  rcases h45:Ad t.pc 4 5 with _ | _
  ·simp only[go_sem,h45,aB,aX]
  simp only[go_sem,h45,bf]
  unfold TV
  try refine AAm ?_
  try simp only[go_sem,h45]
  first | refine ABL _ (AO t.own 1 w.b.length) ?_ | refine AAM _ (AO t.own 1 w.b.length) fun _=>?_
  rcases q1:Ad t.own 1 w.b.length with _ | _
  ·simp only[go_sem,q1,ag]
  obtain⟨q,hq,e3,e4⟩:=AAq hlb q1
  rw[e4,au hq]
  simp only[go_sem,q1,e3,AA _ hq,hq,aj]
 ·have o4:(t.op==4)=false:=by
   have:t.op=1:=by simpa using o1
   rw[this]; rfl
  rcases p8:t.pc==8 with _ | _
  ·simp only[go_sem,o1,o4,p8,ag,aj,aB,aX]
  simp only[go_sem,o1,o4,p8,aj,bf]
  unfold TV
  try refine AAm ?_
  try simp only[go_sem,o1,o4,p8]
  first | refine ABL _ (AO t.own 1 w.b.length) ?_ | refine AAM _ (AO t.own 1 w.b.length) fun _=>?_
  rcases q1:Ad t.own 1 w.b.length with _ | _
  ·simp only[go_sem,q1,ag]
  obtain⟨q,hq,e3,e4⟩:=AAq hlb q1
  have hol:gQ w t=(w.b[q].c0.l.length:Int):=by unfold gQ; rw[e4,au hq]
  rw[e4,au hq,hol]
  simp only[go_sem,q1,e3,AA _ hq,hq,aj]
  rcases k1:w.b[q].kind==1 with _ | _
  ·simp only[go_sem,k1,ag]
  ·simp only[go_sem,k1,aj]
theorem TW (w:DWorld) (t:DTask) (d:DDeed) {m:Nat} (hf:Aa w) (H:TaskIn w t d m):Ctr prog 202 [.agg w.c,.agg t.c,.agg d.c] [.val (.c (.v (.bool (ACC w t d))))]:=by
 obtain⟨hm,hd,ht,hft,hfd,hth,hi,hj,hfr⟩:=H
 refine CM call202 func202 ntmps202 results202 fun hw=>?_
 rw[DR] at hft
 rw[IZ] at hfd
 unfold ACC
 rw[AJr]
 simp only[go_sem]
 try refine AAm ?_
 try simp only[go_sem]
 first | refine ABL _ (PG w.c0.cols t.r) ?_ | refine AAM _ (PG w.c0.cols t.r) fun _=>?_
 rcases h1:fits w.c0.cols t.r with _ | _
 ·exact ALu
 simp only[go_sem,h1,aj]
 try refine AAm ?_
 try simp only[go_sem,h1]
 first | refine ABL _ (QU t.r d.r hft.1.1 hfd.1.1) ?_ | refine AAM _ (QU t.r d.r hft.1.1 hfd.1.1) fun _=>?_
 rcases h2:NE t.r d.r with _ | _
 ·simp only[go_sem,h2,ag]
 simp only[go_sem,h2,aj]
 try refine AAm ?_
 try simp only[go_sem]
 first | refine ABL _ (AO t.pc 2 7) ?_ | refine AAM _ (AO t.pc 2 7) fun _=>?_
 rcases h3:Ad t.pc 2 7 with _ | _
 ·simp only[go_sem,h3,aS,dh]
 rcases h4:t.pc==5 with _ | _
 rotate_left
 ·simp only[go_sem,h3,h4,aP,Bool.or_true,dh]
 simp only[go_sem,h3,h4,aP,bZ]
 rcases h5:((t.l.length:Int)==1) with _ | _
 ·exact AJ9
 have g5:((t.l.length:Int) != 1)=false:=AP0
 obtain⟨h0,hl0⟩:=AAr h5
 rw[hl0,aj]
 rcases h6:t.l[0].kind==1 with _ | _
 ·exact AMC
 have g6:(t.l[0].kind != 1)=false:=by simp[bne,h6]
 simp only[go_sem,g5,g6,AA _ h0,h0,aj]
 try refine AAm ?_
 try simp only[go_sem,g5,g6,AA _ h0,h0]
 rcases h7:t.pc==2 with _ | _
 ·simp only[go_sem,h7,AA _ h0,h0,bZ]
  try refine AAm ?_
  try simp only[go_sem,h7,AA _ h0,h0]
 ·simp only[go_sem,h7,AA _ h0,h0,dh]
  try refine AAm ?_
  try simp only[go_sem,h7,AA _ h0,h0]
theorem V_ (l:List DRef) (id:Int) (h1:l.length=1) (h0:0<l.length):Ctr prog 205 [.agg (DDir.c ⟨0,l⟩),.c (.v (.int .i64 (id)))] [.val (.c (.v (.int .i64 (if CU l[0] id=true then 0 else -1))))]:=by
 refine CM call205 func205 ntmps205 results205 fun hw=>?_
 simp only[go_sem]
 refine ABK 1 (A:=Nat) (fun x=>[(5,.c (.v (.int .i64 (x))))]) (fun _=>[⟨38,2,[DDir.c ⟨0,l⟩],true,true⟩]) (fun x=>x≤1∧(x=1→CU l[0] id=false)) (fun x=>1-x) 0 ⟨⟨rfl,rfl⟩,rfl,aA _,fun h=>AOQ⟩ ?_
 rintro k ⟨hk,hc⟩
 refine AOJ (fun h=>?_) fun h=>?_
 ·have hk0:k=0:=by simp[h1] at h; omega
  subst hk0
  have hw01:IntKind.i64.wrap (0+1)=1:=rfl
  have e0:CU l[0] id=(decide (l[0].first≥0)&&(decide (id≥l[0].first)&&decide (IntKind.i64.wrap (id-l[0].first)<l[0].many))):=rfl
  simp only[go_sem,AA _ h0,h0]
  try refine AAm ?_
  try simp only[go_sem,AA _ h0,h0]
  rcases q1:decide (l[0].first≥0) with _ | _
  ·simp only[go_sem,AA _ h0,h0,hw01,q1]
   exact⟨1,⟨rfl,rfl⟩,rfl,⟨aT _,fun _=>by rw[e0,q1]; rfl⟩,AOQ⟩
  rcases q2:decide (id≥l[0].first) with _ | _
  ·simp only[go_sem,AA _ h0,h0,hw01,q1,q2]
   exact⟨1,⟨rfl,rfl⟩,rfl,⟨aT _,fun _=>by rw[e0,q1,q2]; rfl⟩,AOQ⟩
  rcases q3:decide (IntKind.i64.wrap (id-l[0].first)<l[0].many) with _ | _
  ·simp only[go_sem,AA _ h0,h0,hw01,q1,q2,q3]
   exact⟨1,⟨rfl,rfl⟩,rfl,⟨aT _,fun _=>by rw[e0,q1,q2,q3]; rfl⟩,AOQ⟩
  ·have e:CU l[0] id=true:=by rw[e0,q1,q2,q3]; rfl
   simp only[go_sem,AA _ h0,h0,q1,q2,q3,e,bf]
   rfl
 ·have hk1:k=1:=by simp[h1] at h; omega
  subst hk1
  simp only[go_sem,hc rfl,aB,aX]
theorem Rk (w:DWorld) (t:DTask) (d:DDeed) {m:Nat} (hf:Aa w) (H:TaskIn w t d m):Ctr prog 203 [.agg w.c,.agg t.c,.agg d.c] [.val (.c (.v (.bool (ve w t d))))]:=by
 obtain⟨hm,hd,ht,hft,hfd,hth,hi,hj,hfr⟩:=H
 refine CM call203 func203 ntmps203 results203 fun hw=>?_
 unfold ve
 rcases h1:t.id==d.id with _ | _
 ·have hne:t.id≠d.id:=by simpa using h1
  have g1:(d.id != t.id)=true:=by simp; exact fun e=>hne e.symm
  simp only[go_sem,g1,ag]
 have hee:t.id=d.id:=AOn
 have g1:(d.id != t.id)=false:=by simp[hee]
 simp only[go_sem,g1,aj]
 try refine AAm ?_
 try simp only[go_sem,g1]
 first | refine ABL _ (AO t.pc 2 7) ?_ | refine AAM _ (AO t.pc 2 7) fun _=>?_
 rcases h2:Ad t.pc 2 7 with _ | _
 ·simp only[go_sem,h2,aS,dh]
 rw[AHu _ h2]
 simp only[go_sem,h2,aP,bZ]
 rcases h5:((t.l.length:Int)==1) with _ | _
 ·exact AJ9
 have g5:((t.l.length:Int) != 1)=false:=AP0
 obtain⟨h0,hl0⟩:=AAr h5
 rw[hl0,aj]
 have hl1:t.l.length=1:=by have:=iP.1 h5; omega
 try refine AAm ?_
 try simp only[go_sem,g5,AA _ h0,h0]
 first | refine CY (V_ t.l t.id hl1 h0) ?_ | refine CW (V_ t.l t.id hl1 h0) fun _=>?_
 rcases h6:CU t.l[0] t.id with _ | _
 ·have e6:((-1:Int) != 0)=true:=rfl
  simp only[go_sem,h6,e6,aB,aX,ag]
 have e6:((0:Int) != 0)=false:=rfl
 simp only[go_sem,h6,e6,bf,aj]
 rcases h7:decide (t.id<(w.m.length:Int)) with _ | _
 ·have g7:decide (t.id≥(w.m.length:Int))=true:=by simp at h7 ⊢; omega
  simp only[go_sem,g7,ag]
 have g7:decide (t.id≥(w.m.length:Int))=false:=by simp at h7 ⊢; omega
 simp only[go_sem,g7,aj]
 rcases h8:decide (t.pc>4) with _ | _
 ·rcases h9:t.pc==2 with _ | _
  ·simp only[go_sem,h8,h9,AA _ h0,h0,bZ]
   try refine AAm ?_
   try simp only[go_sem,h8,h9,AA _ h0,h0]
  ·simp only[go_sem,h8,h9,AA _ h0,h0,bZ,dh]
   try refine AAm ?_
   try simp only[go_sem,h8,h9,AA _ h0,h0]
 ·simp only[go_sem,h8,AA _ h0,h0,dh]
  try refine AAm ?_
  try simp only[go_sem,h8,AA _ h0,h0]
theorem AHw (n:Int) (h:Ad n 3 8=true):Ad n 4 8 = !(n==3):=by
 simp only[Ad,ay,aZ] at h
 have h:n=3∨n=4∨n=5∨n=6∨n=7∨n=8:=AOQ
 rcases h with h | h | h | h | h | h<;>subst h<;>rfl
theorem AF5 (n:Int) (h:Ad n 3 8=false):Ad n 4 8=false:=by
 rcases h2:Ad n 4 8 with _ | _
 ·rfl
 ·simp only[Ad,ay,aZ] at h2
  have:Ad n 3 8=true:=by simp only[Ad,ay,aZ]; omega
  rw[this] at h; cases h
theorem Rl (w:DWorld) (t:DTask) (d:DDeed) {m:Nat} (hf:Aa w) (H:TaskIn w t d m):Ctr prog 204 [.agg w.c,.agg t.c,.agg d.c] [.val (.c (.v (.bool (vg w t d))))]:=by
 obtain⟨hm,hd,ht,hft,hfd,hth,hi,hj,hfr⟩:=H
 refine CM call204 func204 ntmps204 results204 fun hw=>?_
 rw[DR] at hft
 rw[IZ] at hfd
 unfold vg
 simp only[go_sem]
 try refine AAm ?_
 try simp only[go_sem]
 first | refine CY (TF w.c0.cols t.q (AF4 hf) hft.2.1) ?_ | refine CW (TF w.c0.cols t.q (AF4 hf) hft.2.1) fun _=>?_
 rcases h1:Bz w.c0.cols t.q with _ | _
 ·exact ALu
 simp only[go_sem,h1,aj]
 try refine AAm ?_
 try simp only[go_sem,h1]
 first | refine CY (YE t.q d.q hft.2.1 hfd.2.1) ?_ | refine CW (YE t.q d.q hft.2.1 hfd.2.1) fun _=>?_
 rcases h2:V3 t.q d.q with _ | _
 ·simp only[go_sem,h2,ag]
 rcases h3:decide (t.ts>w.t) with _ | _
 rotate_left
 ·simp only[go_sem,h2,h3,aP,ag,aK]
 simp only[go_sem,h2,h3,aS,aj]
 try refine AAm ?_
 try simp only[go_sem,h2,h3]
 first | refine ABL _ (AO t.pc 3 8) ?_ | refine AAM _ (AO t.pc 3 8) fun _=>?_
 rcases h4:Ad t.pc 3 8 with _ | _
 ·simp only[go_sem,h4,aS,dh]
  try refine AAm ?_
  try simp only[go_sem,h4]
  first | refine ABL _ (AO t.pc 4 8) ?_ | refine AAM _ (AO t.pc 4 8) fun _=>?_
  simp only[go_sem,AF5 _ h4]
 rcases h5:decide (t.i>(t.l.length:Int)) with _ | _
 rotate_left
 ·simp only[go_sem,h4,h5,aP,ag,bZ]
 simp only[go_sem,h4,h5,aP,aS,aj,bZ]
 try refine AAm ?_
 try simp only[go_sem,h4,h5]
 first | refine ABL _ (AO t.pc 4 8) ?_ | refine AAM _ (AO t.pc 4 8) fun _=>?_
 rw[AHw _ h4]
 rcases h6:t.pc==3 with _ | _
 rotate_left
 ·simp only[go_sem,h6,aP,dh]
 obtain⟨k,hk⟩:=aQ hi
 have hkl:k≤t.l.length:=by rw[hk] at h5; simp at h5; omega
 rw[hk,bW,bZ]
 rcases bV k t.l.length with hk2 | hk2
 rotate_left
 ·have e:k=t.l.length:=by omega
  have e2:((k:Int)==(t.l.length:Int))=true:=AOS
  rw[mV hk2]
  simp only[go_sem,h6,hk,e2,aS]
  try refine AAm ?_
  try simp only[go_sem,h6,hk,e2]
 have e2:((k:Int)==(t.l.length:Int))=false:=AOS
 rw[au hk2]
 simp only[go_sem,h6,hk,e2,AA _ hk2,hk2,aS]
 try refine AAm ?_
 try simp only[go_sem,h6,hk,e2,AA _ hk2,hk2]
 have hthk:=XR hth hk2
 unfold pM
 rcases k1:t.l[k].kind==1 with _ | _
 ·obtain⟨q,hq,hbm,hat⟩ | ⟨hbm,hat⟩:=FB w t.l[k].buf
  rotate_left
  ·simp only[there,hat] at hthk
   cases hthk
  have hgl:=Yw w t.l[k]
  simp only[go_sem,k1,AA _ hk2,hk2,aB,aX]
  try refine AAm ?_
  try simp only[go_sem,k1,AA _ hk2,hk2]
  first | refine CY (Me w t.l[k] hf hq hbm) ?_ | refine CW (Me w t.l[k] hf hq hbm) fun _=>?_
  rcases h8:decide (t.pc≥6) with _ | _
  ·simp only[go_sem,h8,ag]
   try refine AAm ?_
   try simp only[go_sem,h8]
  obtain⟨j,hjj⟩:=aQ hj
  rw[hjj,bW]
  rcases bV j (Ej w t.l[k]).length with hm | hm
  ·have e1:decide ((j:Int)<((Ej w t.l[k]).length:Int))=true:=by simp; omega
   rw[au hm]
   simp only[go_sem,h8,hjj,e1,AA _ hm,hm,aj]
   try refine AAm ?_
   try simp only[go_sem,h8,hjj,e1,AA _ hm,hm]
  ·have e1:decide ((j:Int)<((Ej w t.l[k]).length:Int))=false:=by simp; omega
   rw[mV hm]
   simp only[go_sem,h8,hjj,e1,aj]
   try refine AAm ?_
   try simp only[go_sem,h8,hjj,e1]
 ·simp only[bf]
  rcases h9:decide (t.j<t.l[k].many) with _ | _
  ·simp only[go_sem,k1,h9,AA _ hk2,hk2,ag]
   try refine AAm ?_
   try simp only[go_sem,k1,h9,AA _ hk2,hk2]
  rcases h7:decide (t.pc<6) with _ | _
  ·simp only[go_sem,k1,h9,h7,AA _ hk2,hk2,aj,bZ]
   try refine AAm ?_
   try simp only[go_sem,k1,h9,h7,AA _ hk2,hk2]
  ·simp only[go_sem,k1,h9,h7,AA _ hk2,hk2,aj,dh]
   try refine AAm ?_
   try simp only[go_sem,k1,h9,h7,AA _ hk2,hk2]
end Go.Proofs.YtnoldekcdlaahaaGreat
