/- A part. -/
import Derived.Test.YtnoldekcdlaahaaGreatZp
import Derived.Test.YtnoldekcdlaahaaGreatZf
set_option linter.unusedSimpArgs false
set_option linter.unusedVariables false
set_option maxHeartbeats 8000000
set_option maxRecDepth 10000
open Go.Proofs.Tryz
namespace Go.Proofs.YtnoldekcdlaahaaGreat
open Go.Vm
theorem mF (w:DWorld) (t:DTask) (hf:AX w):Ctr prog 201 [.agg w.c,.agg t.c] [.val (.c (.v (.bool (ownB w t))))]:=by
 refine CM call201 func201 ntmps201 results201 fun hw=>?_
 have hlb:=xN hf
 unfold ownB
 rcases o1:t.op==1 with _ | _
 ·rcases o4:t.op==4 with _ | _
  ·simp only[go_sem,o1,o4,ai,aC,aW]
  simp only[go_sem,o1,o4,ai,aj,aC,aW]
  try refine AAm ?_
  try simp only[go_sem,o1,o4]
  first | refine AB5 _ (AP t.pc 4 5) ?_ | refine AAT _ (AP t.pc 4 5) fun _=>?_
  rcases h45:Aa t.pc 4 5 with _ | _
  ·simp only[go_sem,h45,aC,aW]
  simp only[go_sem,h45,aX]
  unfold WR
  try refine AAm ?_
  try simp only[go_sem,h45]
  first | refine AB5 _ (AP t.own 1 w.b.length) ?_ | refine AAT _ (AP t.own 1 w.b.length) fun _=>?_
  rcases q1:Aa t.own 1 w.b.length with _ | _
  ·simp only[go_sem,q1,ai]
  obtain⟨q,hq,e3,e4⟩:=ABZ hlb q1
  rw[e4,au hq]
  simp only[go_sem,q1,e3,AA _ hq,hq,aj]
 ·have o4:(t.op==4)=false:=by
   have:t.op=1:=by simpa using o1
   rw[this]; rfl
  rcases p8:t.pc==8 with _ | _
  ·simp only[go_sem,o1,o4,p8,ai,aj,aC,aW]
  simp only[go_sem,o1,o4,p8,aj,aX]
  unfold WR
  try refine AAm ?_
  try simp only[go_sem,o1,o4,p8]
  first | refine AB5 _ (AP t.own 1 w.b.length) ?_ | refine AAT _ (AP t.own 1 w.b.length) fun _=>?_
  rcases q1:Aa t.own 1 w.b.length with _ | _
  ·simp only[go_sem,q1,ai]
  obtain⟨q,hq,e3,e4⟩:=ABZ hlb q1
  have hol:iT w t=(w.b[q].c0.l.length:Int):=by unfold iT; rw[e4,au hq]
  rw[e4,au hq,hol]
  simp only[go_sem,q1,e3,AA _ hq,hq,aj]
  rcases k1:w.b[q].kind==1 with _ | _
  ·simp only[go_sem,k1,ai]
  ·simp only[go_sem,k1,aj]
theorem UC (w:DWorld) (t:DTask) (d:DDeed) {m:Nat} (hf:AX w) (H:TaskIn w t d m):Ctr prog 202 [.agg w.c,.agg t.c,.agg d.c] [.val (.c (.v (.bool (AEp w t d))))]:=by
 obtain⟨hm,hd,ht,hft,hfd,hth,hi,hj,hfr⟩:=H
 refine CM call202 func202 ntmps202 results202 fun hw=>?_
 rw[EC] at hft
 rw[Hg] at hfd
 unfold AEp
 rw[AKI]
 simp only[go_sem]
 try refine AAm ?_
 try simp only[go_sem]
 first | refine AB5 _ (PZ w.c0.cols t.r) ?_ | refine AAT _ (PZ w.c0.cols t.r) fun _=>?_
 rcases h1:fits w.c0.cols t.r with _ | _
 ·exact AMH
 simp only[go_sem,h1,aj]
 try refine AAm ?_
 try simp only[go_sem,h1]
 first | refine AB5 _ (Qm t.r d.r hft.1.1 hfd.1.1) ?_ | refine AAT _ (Qm t.r d.r hft.1.1 hfd.1.1) fun _=>?_
 rcases h2:NP t.r d.r with _ | _
 ·simp only[go_sem,h2,ai]
 simp only[go_sem,h2,aj]
 try refine AAm ?_
 try simp only[go_sem]
 first | refine AB5 _ (AP t.pc 2 7) ?_ | refine AAT _ (AP t.pc 2 7) fun _=>?_
 rcases h3:Aa t.pc 2 7 with _ | _
 ·simp only[go_sem,h3,aK,cZ]
 rcases h4:t.pc==5 with _ | _
 rotate_left
 ·simp only[go_sem,h3,h4,aJ,Bool.or_true,cZ]
 simp only[go_sem,h3,h4,aJ,bT]
 rcases h5:((t.l.length:Int)==1) with _ | _
 ·exact AKX
 have g5:((t.l.length:Int) != 1)=false:=AP8
 obtain⟨h0,hl0⟩:=ABa h5
 rw[hl0,aj]
 rcases h6:t.l[0].kind==1 with _ | _
 ·exact AMZ
 have g6:(t.l[0].kind != 1)=false:=by simp[bne,h6]
 simp only[go_sem,g5,g6,AA _ h0,h0,aj]
 try refine AAm ?_
 try simp only[go_sem,g5,g6,AA _ h0,h0]
 rcases h7:t.pc==2 with _ | _
 ·simp only[go_sem,h7,AA _ h0,h0,bT]
  try refine AAm ?_
  try simp only[go_sem,h7,AA _ h0,h0]
 ·simp only[go_sem,h7,AA _ h0,h0,cZ]
  try refine AAm ?_
  try simp only[go_sem,h7,AA _ h0,h0]
theorem WW (l:List DRef) (id:Int) (h1:l.length=1) (h0:0<l.length):Ctr prog 205 [.agg (DDir.c ⟨0,l⟩),.c (.v (.int .i64 (id)))] [.val (.c (.v (.int .i64 (if Az l[0] id=true then 0 else -1))))]:=by
 refine CM call205 func205 ntmps205 results205 fun hw=>?_
 simp only[go_sem]
 refine AB4 1 (A:=Nat) (fun x=>[(5,.c (.v (.int .i64 (x))))]) (fun _=>[⟨38,2,[DDir.c ⟨0,l⟩],true,true⟩]) (fun x=>x≤1∧(x=1→Az l[0] id=false)) (fun x=>1-x) 0 ⟨⟨rfl,rfl⟩,rfl,az _,fun h=>AOh⟩ ?_
 rintro k ⟨hk,hc⟩
 refine AOb (fun h=>?_) fun h=>?_
 ·have hk0:k=0:=by simp[h1] at h; omega
  subst hk0
  have hw01:IntKind.i64.wrap (0+1)=1:=rfl
  have e0:Az l[0] id=(decide (l[0].first≥0)&&(decide (id≥l[0].first)&&decide (IntKind.i64.wrap (id-l[0].first)<l[0].many))):=rfl
  simp only[go_sem,AA _ h0,h0]
  try refine AAm ?_
  try simp only[go_sem,AA _ h0,h0]
  rcases q1:decide (l[0].first≥0) with _ | _
  ·simp only[go_sem,AA _ h0,h0,hw01,q1]
   exact⟨1,⟨rfl,rfl⟩,rfl,⟨aT _,fun _=>by rw[e0,q1]; rfl⟩,AOh⟩
  rcases q2:decide (id≥l[0].first) with _ | _
  ·simp only[go_sem,AA _ h0,h0,hw01,q1,q2]
   exact⟨1,⟨rfl,rfl⟩,rfl,⟨aT _,fun _=>by rw[e0,q1,q2]; rfl⟩,AOh⟩
  rcases q3:decide (IntKind.i64.wrap (id-l[0].first)<l[0].many) with _ | _
  ·simp only[go_sem,AA _ h0,h0,hw01,q1,q2,q3]
   exact⟨1,⟨rfl,rfl⟩,rfl,⟨aT _,fun _=>by rw[e0,q1,q2,q3]; rfl⟩,AOh⟩
  ·have e:Az l[0] id=true:=by rw[e0,q1,q2,q3]; rfl
   simp only[go_sem,AA _ h0,h0,q1,q2,q3,e,aX]
   rfl
 ·have hk1:k=1:=by simp[h1] at h; omega
  subst hk1
  simp only[go_sem,hc rfl,aC,aW]
theorem SG (w:DWorld) (t:DTask) (d:DDeed) {m:Nat} (hf:AX w) (H:TaskIn w t d m):Ctr prog 203 [.agg w.c,.agg t.c,.agg d.c] [.val (.c (.v (.bool (lh w t d))))]:=by
 obtain⟨hm,hd,ht,hft,hfd,hth,hi,hj,hfr⟩:=H
 refine CM call203 func203 ntmps203 results203 fun hw=>?_
 unfold lh
 rcases h1:t.id==d.id with _ | _
 ·have hne:t.id≠d.id:=by simpa using h1
  have g1:(d.id != t.id)=true:=by simp; exact fun e=>hne e.symm
  simp only[go_sem,g1,ai]
 have hee:t.id=d.id:=AO0
 have g1:(d.id != t.id)=false:=by simp[hee]
 simp only[go_sem,g1,aj]
 try refine AAm ?_
 try simp only[go_sem,g1]
 first | refine AB5 _ (AP t.pc 2 7) ?_ | refine AAT _ (AP t.pc 2 7) fun _=>?_
 rcases h2:Aa t.pc 2 7 with _ | _
 ·simp only[go_sem,h2,aK,cZ]
 rw[AII _ h2]
 simp only[go_sem,h2,aJ,bT]
 rcases h5:((t.l.length:Int)==1) with _ | _
 ·exact AKX
 have g5:((t.l.length:Int) != 1)=false:=AP8
 obtain⟨h0,hl0⟩:=ABa h5
 rw[hl0,aj]
 have hl1:t.l.length=1:=by have:=ZE.1 h5; omega
 try refine AAm ?_
 try simp only[go_sem,g5,AA _ h0,h0]
 first | refine CY (WW t.l t.id hl1 h0) ?_ | refine CW (WW t.l t.id hl1 h0) fun _=>?_
 rcases h6:Az t.l[0] t.id with _ | _
 ·have e6:((-1:Int) != 0)=true:=rfl
  simp only[go_sem,h6,e6,aC,aW,ai]
 have e6:((0:Int) != 0)=false:=rfl
 simp only[go_sem,h6,e6,aX,aj]
 rcases h7:decide (t.id<(w.m.length:Int)) with _ | _
 ·have g7:decide (t.id≥(w.m.length:Int))=true:=by simp at h7 ⊢; omega
  simp only[go_sem,g7,ai]
 have g7:decide (t.id≥(w.m.length:Int))=false:=by simp at h7 ⊢; omega
 simp only[go_sem,g7,aj]
 rcases h8:decide (t.pc>4) with _ | _
 ·rcases h9:t.pc==2 with _ | _
  ·simp only[go_sem,h8,h9,AA _ h0,h0,bT]
   try refine AAm ?_
   try simp only[go_sem,h8,h9,AA _ h0,h0]
  ·simp only[go_sem,h8,h9,AA _ h0,h0,bT,cZ]
   try refine AAm ?_
   try simp only[go_sem,h8,h9,AA _ h0,h0]
 ·simp only[go_sem,h8,AA _ h0,h0,cZ]
  try refine AAm ?_
  try simp only[go_sem,h8,AA _ h0,h0]
theorem AIM (n:Int) (h:Aa n 3 8=true):Aa n 4 8 = !(n==3):=by
 simp only[Aa,ay,bf] at h
 have h:n=3∨n=4∨n=5∨n=6∨n=7∨n=8:=AOh
 rcases h with h | h | h | h | h | h<;>subst h<;>rfl
theorem AGR (n:Int) (h:Aa n 3 8=false):Aa n 4 8=false:=by
 rcases h2:Aa n 4 8 with _ | _
 ·rfl
 ·simp only[Aa,ay,bf] at h2
  have:Aa n 3 8=true:=by simp only[Aa,ay,bf]; omega
  rw[this] at h; cases h
theorem SH (w:DWorld) (t:DTask) (d:DDeed) {m:Nat} (hf:AX w) (H:TaskIn w t d m):Ctr prog 204 [.agg w.c,.agg t.c,.agg d.c] [.val (.c (.v (.bool (xJ w t d))))]:=by
 obtain⟨hm,hd,ht,hft,hfd,hth,hi,hj,hfr⟩:=H
 refine CM call204 func204 ntmps204 results204 fun hw=>?_
 rw[EC] at hft
 rw[Hg] at hfd
 unfold xJ
 simp only[go_sem]
 try refine AAm ?_
 try simp only[go_sem]
 first | refine CY (Tz w.c0.cols t.q (AGQ hf) hft.2.1) ?_ | refine CW (Tz w.c0.cols t.q (AGQ hf) hft.2.1) fun _=>?_
 rcases h1:Bo w.c0.cols t.q with _ | _
 ·exact AMH
 simp only[go_sem,h1,aj]
 try refine AAm ?_
 try simp only[go_sem,h1]
 first | refine CY (Yj t.q d.q hft.2.1 hfd.2.1) ?_ | refine CW (Yj t.q d.q hft.2.1 hfd.2.1) fun _=>?_
 rcases h2:WP t.q d.q with _ | _
 ·simp only[go_sem,h2,ai]
 rcases h3:decide (t.ts>w.t) with _ | _
 rotate_left
 ·simp only[go_sem,h2,h3,aJ,ai,aH]
 simp only[go_sem,h2,h3,aK,aj]
 try refine AAm ?_
 try simp only[go_sem,h2,h3]
 first | refine AB5 _ (AP t.pc 3 8) ?_ | refine AAT _ (AP t.pc 3 8) fun _=>?_
 rcases h4:Aa t.pc 3 8 with _ | _
 ·simp only[go_sem,h4,aK,cZ]
  try refine AAm ?_
  try simp only[go_sem,h4]
  first | refine AB5 _ (AP t.pc 4 8) ?_ | refine AAT _ (AP t.pc 4 8) fun _=>?_
  simp only[go_sem,AGR _ h4]
 rcases h5:decide (t.i>(t.l.length:Int)) with _ | _
 rotate_left
 ·simp only[go_sem,h4,h5,aJ,ai,bT]
 simp only[go_sem,h4,h5,aJ,aK,aj,bT]
 try refine AAm ?_
 try simp only[go_sem,h4,h5]
 first | refine AB5 _ (AP t.pc 4 8) ?_ | refine AAT _ (AP t.pc 4 8) fun _=>?_
 rw[AIM _ h4]
 rcases h6:t.pc==3 with _ | _
 rotate_left
 ·simp only[go_sem,h6,aJ,cZ]
 obtain⟨k,hk⟩:=aO hi
 have hkl:k≤t.l.length:=by rw[hk] at h5; simp at h5; omega
 rw[hk,bH,bT]
 rcases bQ k t.l.length with hk2 | hk2
 rotate_left
 ·have e:k=t.l.length:=by omega
  have e2:((k:Int)==(t.l.length:Int))=true:=AOj
  rw[uU hk2]
  simp only[go_sem,h6,hk,e2,aK]
  try refine AAm ?_
  try simp only[go_sem,h6,hk,e2]
 have e2:((k:Int)==(t.l.length:Int))=false:=AOj
 rw[au hk2]
 simp only[go_sem,h6,hk,e2,AA _ hk2,hk2,aK]
 try refine AAm ?_
 try simp only[go_sem,h6,hk,e2,AA _ hk2,hk2]
 have hthk:=Xq hth hk2
 unfold qg
 rcases k1:t.l[k].kind==1 with _ | _
 ·obtain⟨q,hq,hbm,hat⟩ | ⟨hbm,hat⟩:=DR w t.l[k].buf
  rotate_left
  ·simp only[there,hat] at hthk
   cases hthk
  have hgl:=Oc w t.l[k]
  simp only[go_sem,k1,AA _ hk2,hk2,aC,aW]
  try refine AAm ?_
  try simp only[go_sem,k1,AA _ hk2,hk2]
  first | refine CY (Kt w t.l[k] hf hq hbm) ?_ | refine CW (Kt w t.l[k] hf hq hbm) fun _=>?_
  rcases h8:decide (t.pc≥6) with _ | _
  ·simp only[go_sem,h8,ai]
   try refine AAm ?_
   try simp only[go_sem,h8]
  obtain⟨j,hjj⟩:=aO hj
  rw[hjj,bH]
  rcases bQ j (C_ w t.l[k]).length with hm | hm
  ·have e1:decide ((j:Int)<((C_ w t.l[k]).length:Int))=true:=by simp; omega
   rw[au hm]
   simp only[go_sem,h8,hjj,e1,AA _ hm,hm,aj]
   try refine AAm ?_
   try simp only[go_sem,h8,hjj,e1,AA _ hm,hm]
  ·have e1:decide ((j:Int)<((C_ w t.l[k]).length:Int))=false:=by simp; omega
   rw[uU hm]
   simp only[go_sem,h8,hjj,e1,aj]
   try refine AAm ?_
   try simp only[go_sem,h8,hjj,e1]
 ·simp only[aX]
  rcases h9:decide (t.j<t.l[k].many) with _ | _
  ·simp only[go_sem,k1,h9,AA _ hk2,hk2,ai]
   try refine AAm ?_
   try simp only[go_sem,k1,h9,AA _ hk2,hk2]
  rcases h7:decide (t.pc<6) with _ | _
  ·simp only[go_sem,k1,h9,h7,AA _ hk2,hk2,aj,bT]
   try refine AAm ?_
   try simp only[go_sem,k1,h9,h7,AA _ hk2,hk2]
  ·simp only[go_sem,k1,h9,h7,AA _ hk2,hk2,aj,cZ]
   try refine AAm ?_
   try simp only[go_sem,k1,h9,h7,AA _ hk2,hk2]
theorem AGS (w:DWorld) (r:DRef):(lg w r).length≤12:=by
 unfold lg
 split
 ·exact Oc w r
 ·exact az _
theorem Yw (w:DWorld) (hf:AX w):Ctr prog 106 [.agg w.c] [.val (.c (.v (.bool (iU w))))]:=by
 refine CM call106 func106 ntmps106 results106 fun hw=>?_
 have hb:=lenD hf
 unfold iU
 simp only[go_sem]
 refine AB4 1 (A:=Nat) (fun x=>[(11,.c (.v (.int .i64 (x))))]) (fun _=>[⟨44,14,[w.c],true,true⟩]) (Ea w.d.l (Rt w)) (fun x=>w.d.l.length-x) 0 ⟨⟨rfl,rfl⟩,rfl,Ce⟩ ?_
 intro k hk
 refine AOb (fun h=>?_) fun h=>?_
 ·have hk':k<w.d.l.length:=by simpa using h
  simp only[go_sem,AA _ hk',hk']
  try refine AAm ?_
  try simp only[go_sem,AA _ hk',hk']
  first | refine CY (BQ w w.d.l[k]) ?_ | refine CW (BQ w w.d.l[k]) fun _=>?_
  rcases h1:there w w.d.l[k] with _ | _
  ·simp only[go_sem,h1,BH (p:=Rt w) hk' (by simp only[Rt,h1,ai])]
  rcases h2:((w.d.l[k].kind==1)&&(w.d.l[k].many != w.c0.slots)) with _ | _
  rotate_left
  ·have hno:=BH (p:=Rt w) hk' (by simp only[Rt,h1,h2]; rfl)
   simp only[ay] at h2
   simp only[go_sem,h1,h2.1,h2.2,hno]
  have hgl:=AGS w w.d.l[k]
  have hp1:Rt w w.d.l[k]=(lg w w.d.l[k]).all fun x=>Az w.d.l[k] x.id:=by simp only[Rt,h1,h2,aK,aj]
  have hgr:Ctr prog 225 [.agg w.c,.agg w.d.l[k].c] [.val (.c (.sl ((lg w w.d.l[k]).map DRow.c)))]:=FD w w.d.l[k] hf
  have k2:(w.d.l[k].kind==1)=true→(w.d.l[k].many != w.c0.slots)=false:=fun k1=>by rw[k1,aj] at h2; exact h2
  rcases k1:w.d.l[k].kind==1 with _ | _
  rotate_left
  ·have k2:=k2 k1
   simp only[go_sem,h1,k1,k2]
   exact AGi
  ·simp only[go_sem,h1,k1]
   exact AGi
 ·exact ANj
theorem Ul {α:Type} (p:α→Bool) (l:List α) {k:Nat} (h:k<l.length):(l.take (k+1)).countP p=(l.take k).countP p+if p l[k]=true then 1 else 0:=by
 rw[List.take_add_one,au h,List.countP_append]
 simp[List.countP_cons]
theorem cnt_le {α:Type} (p:α→Bool) (l:List α) (k:Nat) (h:l.length≤1048576):(l.take k).countP p≤1048576:=by
 have h1:=List.countP_le_length (p:=p) (l:=l.take k)
 have h2:=List.length_take_le k l
 have h3:(l.take k).length≤l.length:=AOj
 omega
theorem SI (w:DWorld) (hf:AX w):Ctr prog 111 [.agg w.c] [.val (.c (.v (.bool (WT w))))]:=by
 refine CM call111 func111 ntmps111 results111 fun hw=>?_
 have hb:=xN hf
 have hd:=lenD hf
 have hx:=AIJ hf
 have htl:=NV hf
 unfold WT
 simp only[go_sem]
 refine AB4 1 (A:=Nat) (fun x=>[(15,.c (.v (.int .i64 (x))))]) (fun _=>[⟨44,14,[w.c],true,true⟩]) (xK w.b (QT w)) (fun x=>w.b.length-x) 0 ⟨⟨rfl,rfl⟩,rfl,qh⟩ ?_
 intro k hk
 refine AOb (fun h=>?_) fun h=>?_
 ·have hk':k<w.b.length:=by simpa using h
  simp only[go_sem,AA _ hk',hk']
  refine AB4 2 (A:=Nat) (fun x=>[(24,.c (.v (.int .i64 (x)))),(5,.c (.v (.int .i64 ((QS (w.d.l.take x) k:Nat):Int))))]) (fun _=>[⟨44,14,[w.c],true,true⟩,⟨142,5,[w.b[k].c],true,true⟩]) (fun x=>x≤w.d.l.length) (fun x=>w.d.l.length-x) 0 ⟨⟨rfl,rfl⟩,rfl,az _⟩ ?_
  intro i1 hi1
  refine AOb (fun h=>?_) fun h=>?_
  ·have hi':i1<w.d.l.length:=by simpa using h
   have hn:=Ul (fun r:DRef=>r.buf==(k:Int)) w.d.l hi'
   have hle:=cnt_le (fun r:DRef=>r.buf==(k:Int)) w.d.l i1 hd
   change QS (w.d.l.take (i1+1)) k=QS (w.d.l.take i1) k+_ at hn
   change QS (w.d.l.take i1) k≤_ at hle
   rcases h1:w.d.l[i1].buf==(k:Int) with _ | _
   ·rw[h1] at hn
    simp only[go_sem,AA _ hi',hi',h1,wrap_i64 (n:=(i1:Int)+1) AOh AOh]
    exact⟨i1+1,⟨rfl,rfl⟩,by rw[hn]; rfl,hi',AOh⟩
   ·rw[h1] at hn
    simp only[go_sem,AA _ hi',hi',h1,wrap_i64 (n:=(i1:Int)+1) AOh AOh,wrap_i64 (n:=((QS (w.d.l.take i1) k:Nat):Int)+1) AOh AOh]
    exact⟨i1+1,⟨rfl,rfl⟩,by rw[hn]; rfl,hi',AOh⟩
  have hi':i1=w.d.l.length:=AOs
  subst hi'
  simp only[go_sem,bD]
  have hcd:QS w.d.l k≤1048576:=by have:=cnt_le (fun r:DRef=>r.buf==(k:Int)) w.d.l w.d.l.length hd; rw[bD] at this; exact this
  refine AB4 2 (A:=Nat) (fun x=>[(38,.c (.v (.int .i64 (x)))),(5,.c (.v (.int .i64 ((QS w.d.l k+(w.x.take x).countP (fun d:DDead=>d.buf==(k:Int)):Nat):Int))))]) (fun _=>[⟨44,14,[w.c],true,true⟩,⟨142,5,[w.b[k].c],true,true⟩]) (fun x=>x≤w.x.length) (fun x=>w.x.length-x) 0 ⟨⟨rfl,rfl⟩,rfl,az _⟩ ?_
  intro i2 hi2
  refine AOb (fun h=>?_) fun h=>?_
  ·have hi':i2<w.x.length:=by simpa using h
   have hn:=Ul (fun d:DDead=>d.buf==(k:Int)) w.x hi'
   have hle:=cnt_le (fun d:DDead=>d.buf==(k:Int)) w.x i2 hx
   rcases h1:w.x[i2].buf==(k:Int) with _ | _
   ·rw[h1] at hn
    simp only[go_sem,AA _ hi',hi',h1,wrap_i64 (n:=(i2:Int)+1) AOh AOh]
    exact ALw
   ·rw[h1] at hn
    simp only[go_sem,AA _ hi',hi',h1,wrap_i64 (n:=(i2:Int)+1) AOh AOh,wrap_i64 (n:=((QS w.d.l k+(w.x.take i2).countP (fun d:DDead=>d.buf==(k:Int)):Nat):Int)+1) AOh AOh]
    exact ALw
  have hi':i2=w.x.length:=AOs
  subst hi'
  simp only[go_sem,bD]
  have hcx:w.x.countP (fun d:DDead=>d.buf==(k:Int))≤1048576:=by have:=cnt_le (fun d:DDead=>d.buf==(k:Int)) w.x w.x.length hx; rw[bD] at this; exact this
  have hk1:IntKind.i64.wrap ((k:Int)+1)=(k:Int)+1:=wrap_i64 AOh AOh
  refine AB4 2 (A:=Nat) (fun x=>[(52,.c (.v (.int .i64 (x)))),(5,.c (.v (.int .i64 ((QS w.d.l k+w.x.countP (fun d:DDead=>d.buf==(k:Int))+(w.tasks.take x).countP (fun t:DTask=>t.own==(k:Int)+1):Nat):Int))))]) (fun _=>[⟨44,14,[w.c],true,true⟩,⟨142,5,[w.b[k].c],true,true⟩]) (fun x=>x≤w.tasks.length) (fun x=>w.tasks.length-x) 0 ⟨⟨rfl,rfl⟩,rfl,az _⟩ ?_
  intro i3 hi3
  refine AOb (fun h=>?_) fun h=>?_
  ·have hi':i3<w.tasks.length:=by simpa using h
   have hn:=Ul (fun t:DTask=>t.own==(k:Int)+1) w.tasks hi'
   have hle:=cnt_le (fun t:DTask=>t.own==(k:Int)+1) w.tasks i3 htl
   rcases h1:w.tasks[i3].own==(k:Int)+1 with _ | _
   ·rw[h1] at hn
    simp only[go_sem,AA _ hi',hi',hk1,h1,wrap_i64 (n:=(i3:Int)+1) AOh AOh]
    exact ALx
   ·rw[h1] at hn
    simp only[go_sem,AA _ hi',hi',hk1,h1,wrap_i64 (n:=(i3:Int)+1) AOh AOh,wrap_i64 (n:=((QS w.d.l k+w.x.countP (fun d:DDead=>d.buf==(k:Int))+(w.tasks.take i3).countP (fun t:DTask=>t.own==(k:Int)+1):Nat):Int)+1) AOh AOh]
    exact ALx
  have hi':i3=w.tasks.length:=AOs
  subst hi'
  simp only[go_sem,bD]
  have hp:QT w k w.b[k]=QR (((QS w.d.l k+w.x.countP (fun d:DDead=>d.buf==(k:Int)))+w.tasks.countP (fun t:DTask=>t.own==(k:Int)+1):Nat):Int) w.b[k]:=by unfold QT qf; rw[Nat.add_assoc]
  revert hp
  generalize (((QS w.d.l k+w.x.countP (fun d:DDead=>d.buf==(k:Int)))+w.tasks.countP (fun t:DTask=>t.own==(k:Int)+1):Nat):Int)=n
  intro hp
  unfold QR at hp
  rcases h1:w.b[k].kind==0 with _ | _
  ·have g1:(w.b[k].kind != 0)=true:=by simp[bne,h1]
   rcases h2:n != 1 with _ | _
   ·exact AMb
   ·simp only[go_sem,h1,g1,h2,JL (p:=QT w) hk' (by rw[hp,h1,g1,h2]; rfl)]
  ·have g1:(w.b[k].kind != 0)=false:=by simp[bne,h1]
   rcases h2:decide (n>0) with _ | _
   ·exact AMb
   ·simp only[go_sem,h1,g1,h2,JL (p:=QT w) hk' (by rw[hp,h1,g1,h2]; rfl)]
 ·have hk':k=w.b.length:=by have:=hk.1; simp at h; omega
  subst hk'
  simp only[go_sem,TP hk]
noncomputable def Qj (w:DWorld) (i:Nat) (b:DBuf):Bool:=PU w b&&Uj w i b
noncomputable def mG (w:DWorld):Bool:=((w.b.length:Int)==w.c0.bufs)&&(Rw w.b (Qj w)&&iV w)
theorem jF (w:DWorld) (hf:AX w):Ctr prog 86 [.agg w.c] [.val (.c (.v (.bool (mG w))))]:=by
 refine CM call86 func86 ntmps86 results86 fun hw=>?_
 have hb:=xN hf
 have hd:=lenD hf
 have hx:=AIJ hf
 have htl:=NV hf
 unfold mG
 rcases h0:((w.b.length:Int)==w.c0.bufs) with _ | _
 ·exact ANZ
 have g0:((w.b.length:Int) != w.c0.bufs)=false:=by simp only[bne,h0,aJ]
 simp only[go_sem,g0,aj]
 refine AB4 1 (A:=Nat) (fun x=>[(3,.c (.v (.int .i64 (x))))]) (fun _=>[⟨44,14,[w.c],true,true⟩]) (xK w.b (Qj w)) (fun x=>w.b.length-x) 0 ⟨⟨rfl,rfl⟩,rfl,qh⟩ ?_
 intro k hk
 refine AOb (fun h=>?_) fun h=>?_
 ·have hk':k<w.b.length:=by simpa using h
  simp only[go_sem,AA _ hk',hk']
  try refine AAm ?_
  try simp only[go_sem,AA _ hk',hk']
  first | refine CY (Yn w.c0.cols w.b[k] (PX hf hk') (Vu hw.1 hk')) ?_ | refine CW (Yn w.c0.cols w.b[k] (PX hf hk') (Vu hw.1 hk')) fun _=>?_
  rcases h1:iQ w.c0.cols w.b[k] with _ | _
  ·simp only[go_sem,h1,JL (p:=Qj w) hk' (by simp only[Qj,PU,h1,ai]),ai]
  simp only[go_sem,AA _ hk',hk',h1]
  have hs:=AKJ hf hk'
  refine AB4 1 (A:=Nat) (fun x=>[(4,.c (.v (.int .i64 (x))))]) (fun _=>[⟨44,14,[w.c],true,true⟩]) (Ea w.b[k].c0.l fun s=>!decide (s.ins>w.t)) (fun x=>w.b[k].c0.l.length-x) 0 ⟨⟨rfl,rfl⟩,rfl,Ce⟩ ?_
  intro j hj
  simp only[go_sem,AA _ hk',hk']
  try refine AAm ?_
  try simp only[go_sem,AA _ hk',hk']
  refine AA0 (fun h=>?_) (fun h=>?_)
  ·have hj':j<w.b[k].c0.l.length:=by simpa using h
   simp only[go_sem,AA _ hk',hk',AA _ hj',hj']
   try refine AAm ?_
   try simp only[go_sem,AA _ hk',hk',AA _ hj',hj']
   rcases h2:decide (w.b[k].c0.l[j].ins>w.t) with _ | _
   ·simp only[go_sem,AA _ hk',hk',AA _ hj',hj',h2,wrap_i64 (n:=(j:Int)+1) AOh AOh]
    exact⟨j+1,⟨rfl,rfl⟩,rfl,Ah hj' hj (by simp only[h2,aK]),AOh⟩
   ·have hno:=BH (p:=fun s:DSlot=>!decide (s.ins>w.t)) hj' (by simp only[h2,aJ])
    simp only[go_sem,AA _ hk',hk',AA _ hj',hj',h2,JL (p:=Qj w) hk' (by simp only[Qj,PU,hno,aH,ai]),ai]
  have hj':j=w.b[k].c0.l.length:=AO9
  subst hj'
  have hp1:PU w w.b[k]=true:=by simp only[PU,h1,CV hj,aS]
  simp only[go_sem]
  try refine AAm ?_
  try simp only[go_sem]
  first | refine CY (WO w.d k hd) ?_ | refine CW (WO w.d k hd) fun _=>?_
  obtain⟨c0,hc0,hcl⟩:∃ c0:Nat,c0=(if Ep w.d.l k=true then 1 else 0)∧c0≤1:=⟨_,rfl,by split<;>omega⟩
  have hpl:Uj w k w.b[k]=QR ((c0+w.x.countP (fun d:DDead=>d.buf==(k:Int))+w.tasks.countP (fun t:DTask=>t.own==(k:Int)+1):Nat):Int) w.b[k]:=by unfold Uj qf; rw[hc0,Nat.add_assoc]
  have hcx:w.x.countP (fun d:DDead=>d.buf==(k:Int))≤1048576:=by have:=cnt_le (fun d:DDead=>d.buf==(k:Int)) w.x w.x.length hx; rw[bD] at this; exact this
  have hk1:IntKind.i64.wrap ((k:Int)+1)=(k:Int)+1:=wrap_i64 AOh AOh
  rcases h2:Ep w.d.l k with _ | _
  ·simp only[go_sem,h2]
   simp only[h2,aC,aW,aX] at hc0
   subst hc0
   refine AB4 1 (A:=Nat) (fun x=>[(6,.c (.v (.int .i64 (x)))),(5,.c (.v (.int .i64 (((w.x.take x).countP (fun d:DDead=>d.buf==(k:Int)):Nat):Int))))]) (fun _=>[⟨44,14,[w.c],true,true⟩]) (fun x=>x≤w.x.length) (fun x=>w.x.length-x) 0 ⟨⟨rfl,rfl⟩,rfl,az _⟩ ?_
   intro i2 hi2
   refine AOb (fun h=>?_) fun h=>?_
   ·have hi':i2<w.x.length:=by simpa using h
    have hn:=Ul (fun d:DDead=>d.buf==(k:Int)) w.x hi'
    have hle:=cnt_le (fun d:DDead=>d.buf==(k:Int)) w.x i2 hx
    rcases h3:w.x[i2].buf==(k:Int) with _ | _
    ·exact ALu
    ·rw[h3] at hn
     simp only[go_sem,AA _ hi',hi',h3]
     try refine AAm ?_
     try simp only[go_sem,AA _ hi',hi',h3]
     simp only[go_sem,wrap_i64 (n:=(i2:Int)+1) AOh AOh,wrap_i64 (n:=(((w.x.take i2).countP (fun d:DDead=>d.buf==(k:Int)):Nat):Int)+1) AOh AOh]
     exact ALw
   have hi':i2=w.x.length:=AOs
   subst hi'
   simp only[go_sem,bD]
   refine AB4 1 (A:=Nat) (fun x=>[(7,.c (.v (.int .i64 (x)))),(5,.c (.v (.int .i64 ((w.x.countP (fun d:DDead=>d.buf==(k:Int))+(w.tasks.take x).countP (fun t:DTask=>t.own==(k:Int)+1):Nat):Int))))]) (fun _=>[⟨44,14,[w.c],true,true⟩]) (fun x=>x≤w.tasks.length) (fun x=>w.tasks.length-x) 0 ⟨⟨rfl,rfl⟩,rfl,az _⟩ ?_
   intro i3 hi3
   refine AOb (fun h=>?_) fun h=>?_
   ·have hi':i3<w.tasks.length:=by simpa using h
    have hn:=Ul (fun t:DTask=>t.own==(k:Int)+1) w.tasks hi'
    have hle:=cnt_le (fun t:DTask=>t.own==(k:Int)+1) w.tasks i3 htl
    rcases h3:w.tasks[i3].own==(k:Int)+1 with _ | _
    ·exact ALq
    ·rw[h3] at hn
     simp only[go_sem,AA _ hi',hi',hk1,h3]
     try refine AAm ?_
     try simp only[go_sem,AA _ hi',hi',hk1,h3]
     simp only[go_sem,wrap_i64 (n:=(i3:Int)+1) AOh AOh,wrap_i64 (n:=((w.x.countP (fun d:DDead=>d.buf==(k:Int))+(w.tasks.take i3).countP (fun t:DTask=>t.own==(k:Int)+1):Nat):Int)+1) AOh AOh]
     exact ALx
   have hi':i3=w.tasks.length:=AOs
   subst hi'
   simp only[go_sem,bD]
   rw[uX] at hpl
   have hn0:=Int.natCast_nonneg (w.x.countP (fun d:DDead=>d.buf==(k:Int))+w.tasks.countP (fun t:DTask=>t.own==(k:Int)+1))
   revert hpl hn0
   generalize ((w.x.countP (fun d:DDead=>d.buf==(k:Int))+w.tasks.countP (fun t:DTask=>t.own==(k:Int)+1):Nat):Int)=n
   exact AHD
  ·simp only[go_sem,h2]
   simp only[h2,aC,aW,aX] at hc0
   subst hc0
   refine AB4 1 (A:=Nat) (fun x=>[(6,.c (.v (.int .i64 (x)))),(5,.c (.v (.int .i64 ((1+(w.x.take x).countP (fun d:DDead=>d.buf==(k:Int)):Nat):Int))))]) (fun _=>[⟨44,14,[w.c],true,true⟩]) (fun x=>x≤w.x.length) (fun x=>w.x.length-x) 0 ⟨⟨rfl,rfl⟩,rfl,az _⟩ ?_
   intro i2 hi2
   refine AOb (fun h=>?_) fun h=>?_
   ·have hi':i2<w.x.length:=by simpa using h
    have hn:=Ul (fun d:DDead=>d.buf==(k:Int)) w.x hi'
    have hle:=cnt_le (fun d:DDead=>d.buf==(k:Int)) w.x i2 hx
    rcases h3:w.x[i2].buf==(k:Int) with _ | _
    ·exact ALu
    ·rw[h3] at hn
     simp only[go_sem,AA _ hi',hi',h3]
     try refine AAm ?_
     try simp only[go_sem,AA _ hi',hi',h3]
     simp only[go_sem,wrap_i64 (n:=(i2:Int)+1) AOh AOh,wrap_i64 (n:=((1+(w.x.take i2).countP (fun d:DDead=>d.buf==(k:Int)):Nat):Int)+1) AOh AOh]
     exact ALw
   have hi':i2=w.x.length:=AOs
   subst hi'
   simp only[go_sem,bD]
   refine AB4 1 (A:=Nat) (fun x=>[(7,.c (.v (.int .i64 (x)))),(5,.c (.v (.int .i64 ((1+w.x.countP (fun d:DDead=>d.buf==(k:Int))+(w.tasks.take x).countP (fun t:DTask=>t.own==(k:Int)+1):Nat):Int))))]) (fun _=>[⟨44,14,[w.c],true,true⟩]) (fun x=>x≤w.tasks.length) (fun x=>w.tasks.length-x) 0 ⟨⟨rfl,rfl⟩,rfl,az _⟩ ?_
   intro i3 hi3
   refine AOb (fun h=>?_) fun h=>?_
   ·have hi':i3<w.tasks.length:=by simpa using h
    have hn:=Ul (fun t:DTask=>t.own==(k:Int)+1) w.tasks hi'
    have hle:=cnt_le (fun t:DTask=>t.own==(k:Int)+1) w.tasks i3 htl
    rcases h3:w.tasks[i3].own==(k:Int)+1 with _ | _
    ·exact ALq
    ·rw[h3] at hn
     simp only[go_sem,AA _ hi',hi',hk1,h3]
     try refine AAm ?_
     try simp only[go_sem,AA _ hi',hi',hk1,h3]
     simp only[go_sem,wrap_i64 (n:=(i3:Int)+1) AOh AOh,wrap_i64 (n:=((1+w.x.countP (fun d:DDead=>d.buf==(k:Int))+(w.tasks.take i3).countP (fun t:DTask=>t.own==(k:Int)+1):Nat):Int)+1) AOh AOh]
     exact ALx
   have hi':i3=w.tasks.length:=AOs
   subst hi'
   simp only[go_sem,bD]
   have:=hcl
   have hn0:=Int.natCast_nonneg (1+w.x.countP (fun d:DDead=>d.buf==(k:Int))+w.tasks.countP (fun t:DTask=>t.own==(k:Int)+1))
   revert hpl hn0
   generalize ((1+w.x.countP (fun d:DDead=>d.buf==(k:Int))+w.tasks.countP (fun t:DTask=>t.own==(k:Int)+1):Nat):Int)=n
   exact AHD
 ·have hk':k=w.b.length:=by have:=hk.1; simp at h; omega
  subst hk'
  simp only[go_sem,TP hk,aj]
  refine AB4 1 (A:=Nat) (fun x=>[(8,.c (.v (.int .i64 (x))))]) (fun _=>[⟨44,14,[w.c],true,true⟩]) (Ea w.x (Lt w)) (fun x=>w.x.length-x) 0 ⟨⟨rfl,rfl⟩,rfl,Ce⟩ ?_
  intro j hj
  unfold iV
  refine AOb (fun h=>?_) fun h=>?_
  ·have hj':j<w.x.length:=by simpa using h
   simp only[go_sem,AA _ hj',hj']
   refine AAm ?_
   have hwb:IntKind.i64.wrap ((w.b.length:Int)-1)=(w.b.length:Int)-1:=wrap_i64 AOh AOh
   simp only[go_sem,AA _ hj',hj',hwb]
   refine AB5 _ (AP w.x[j].buf 0 _) ?_
   rcases DR w w.x[j].buf with ⟨m,hm,hbm,hat⟩ | ⟨hbm,hat⟩
   ·have e1:Aa (m:Int) 0 ((w.b.length:Int)-1)=true:=by simp[Aa]; omega
    rcases h1:w.b[m].gen==w.x[j].gen with _ | _
    ·have g1:(w.b[m].gen != w.x[j].gen)=true:=by simp[bne,h1]
     simp only[go_sem,AA _ hj',hj',e1,hbm,AA _ hm,hm,g1,BH (p:=Lt w) hj' (by simp only[Lt,hat,h1,ai])]
    have g1:(w.b[m].gen != w.x[j].gen)=false:=AQC
    simp only[go_sem,AA _ hj',hj',e1,hbm,AA _ hm,hm,g1]
    refine AB5 _ (AP w.x[j].at0 0 w.e) ?_
    rcases h2:Aa w.x[j].at0 0 w.e with _ | _
    ·simp only[go_sem,h2,BH (p:=Lt w) hj' (by simp only[Lt,hat,h1,h2,aH])]
    ·simp only[go_sem,h2,wrap_i64 (n:=(j:Int)+1) AOh AOh]
     exact⟨j+1,⟨rfl,rfl⟩,rfl,Ah hj' hj (by simp only[Lt,hat,h1,h2,aS]),AOh⟩
   ·have e1:Aa w.x[j].buf 0 ((w.b.length:Int)-1)=false:=by
     unfold Aa
     rw[Bool.and_eq_false_iff]
     by_cases h0:0≤w.x[j].buf
     ·right; simp; omega
     ·left; simp; omega
    simp only[go_sem,AA _ hj',hj',e1,BH (p:=Lt w) hj' (by simp only[Lt,hat])]
  ·have hj':j=w.x.length:=by have:=hj.1; simp at h; omega
   subst hj'
   simp only[go_sem,CV hj]
noncomputable def WX (w:DWorld) (r:DRef):Bool:=there w r&&(if(r.kind==1)=true then r.many==w.c0.slots else(C_ w r).all fun x=>Aa x.id r.first (IntKind.i64.wrap (IntKind.i64.wrap (r.first+r.many)-1)))
theorem mJ (w:DWorld) (hf:AX w):Ctr prog 87 [.agg w.c] [.val (.c (.v (.bool (w.d.l.all (WX w)))))]:=by
 refine CM call87 func87 ntmps87 results87 fun hw=>?_
 have hd:=lenD hf
 simp only[go_sem]
 refine AB4 1 (A:=Nat) (fun x=>[(3,.c (.v (.int .i64 (x))))]) (fun _=>[⟨44,14,[w.c],true,true⟩]) (Ea w.d.l (WX w)) (fun x=>w.d.l.length-x) 0 ⟨⟨rfl,rfl⟩,rfl,Ce⟩ ?_
 intro k hk
 refine AOb (fun h=>?_) fun h=>?_
 ·have hk':k<w.d.l.length:=by simpa using h
  simp only[go_sem,AA _ hk',hk']
  try refine AAm ?_
  try simp only[go_sem,AA _ hk',hk']
  first | refine CY (Eu w w.d.l[k]) ?_ | refine CW (Eu w w.d.l[k]) fun _=>?_
  rcases h1:there w w.d.l[k] with _ | _
  ·simp only[go_sem,h1,BH (p:=WX w) hk' (by simp only[WX,h1,ai])]
  rcases k1:w.d.l[k].kind==1 with _ | _
  rotate_left
  ·rcases k2:w.d.l[k].many==w.c0.slots with _ | _
   ·have g2:(w.d.l[k].many != w.c0.slots)=true:=by simp[bne,k2]
    simp only[go_sem,h1,k1,k2,g2,BH (p:=WX w) hk' (by simp only[WX,h1,k1,k2,aX,aH])]
   ·have g2:(w.d.l[k].many != w.c0.slots)=false:=by simp[bne,k2]
    simp only[go_sem,h1,k1,k2,g2,wrap_i64 (n:=(k:Int)+1) AOh AOh]
    exact⟨k+1,⟨rfl,rfl⟩,rfl,Ah hk' hk (by simp only[WX,h1,k1,k2,aX,aS]),AOh⟩
  obtain⟨m,hm,hbm,hat⟩ | ⟨hbm,hat⟩:=DR w w.d.l[k].buf
  rotate_left
  ·simp only[there,hat] at h1
   cases h1
  have hgl:=Oc w w.d.l[k]
  have hd1:WX w w.d.l[k]=(C_ w w.d.l[k]).all fun x=>Aa x.id w.d.l[k].first (IntKind.i64.wrap (IntKind.i64.wrap (w.d.l[k].first+w.d.l[k].many)-1)):=by simp only[WX,h1,k1,aC,aW,aj]
  simp only[go_sem,h1,k1]
  try refine AAm ?_
  try simp only[go_sem,h1,k1]
  first | refine CY (Kt w w.d.l[k] hf hm hbm) ?_ | refine CW (Kt w w.d.l[k] hf hm hbm) fun _=>?_
  simp only[go_sem]
  refine AB4 2 (A:=Nat) (fun x=>[(6,.c (.v (.int .i64 (x))))]) (fun _=>[⟨44,14,[w.c],true,true⟩,⟨133,5,[w.d.l[k].c],true,true⟩]) (Ea (C_ w w.d.l[k]) fun x=>Aa x.id w.d.l[k].first (IntKind.i64.wrap (IntKind.i64.wrap (w.d.l[k].first+w.d.l[k].many)-1))) (fun x=>(C_ w w.d.l[k]).length-x) 0 ⟨⟨rfl,rfl⟩,rfl,Ce⟩ ?_
  intro j hj
  refine AOb (fun h=>?_) fun h=>?_
  ·have hj':j<(C_ w w.d.l[k]).length:=by simpa using h
   simp only[go_sem,AA _ hj',hj']
   try refine AAm ?_
   try simp only[go_sem,AA _ hj',hj']
   first | refine AB5 _ (AP (C_ w w.d.l[k])[j].id w.d.l[k].first _) ?_ | refine AAT _ (AP (C_ w w.d.l[k])[j].id w.d.l[k].first _) fun _=>?_
   rcases h3:Aa (C_ w w.d.l[k])[j].id w.d.l[k].first (IntKind.i64.wrap (IntKind.i64.wrap (w.d.l[k].first+w.d.l[k].many)-1)) with _ | _
   ·simp only[go_sem,h3,BH (p:=WX w) hk' (by rw[hd1]; exact BH (p:=fun x:DRow=>Aa x.id w.d.l[k].first (IntKind.i64.wrap (IntKind.i64.wrap (w.d.l[k].first+w.d.l[k].many)-1))) hj' h3)]
   ·simp only[go_sem,h3,wrap_i64 (n:=(j:Int)+1) AOh AOh]
    exact⟨j+1,⟨rfl,rfl⟩,rfl,Ah hj' hj h3,AOh⟩
  ·have hj':j=(C_ w w.d.l[k]).length:=by have:=hj.1; simp at h; omega
   subst hj'
   simp only[go_sem,wrap_i64 (n:=(k:Int)+1) AOh AOh]
   exact⟨k+1,⟨rfl,rfl⟩,rfl,Ah hk' hk (by rw[hd1]; exact CV hj),AOh⟩
 ·exact ANj
theorem SK (w:DWorld) (k:Nat) (hf:AX w) (hk:k<w.tasks.length) (hp:k<w.p.length):Ctr prog 89 [.agg w.c,.c (.v (.int .i64 ((k:Int))))] [.val (.c (.v (.bool (PW w k w.tasks[k] w.p[k]))))]:=by
 have hft:=jD hf hk
 have hft2:=hft
 rw[EC] at hft2
 have hlt:=hft2.2.2.1
 have hld:=ABW hf
 have hlb:=xN hf
 refine CM call89 func89 ntmps89 results89 fun hw=>?_
 generalize ht:w.tasks[k]=t at hft hft2 hlt
 unfold PW
 simp only[go_sem,AA _ hk,hk,ht]
 try refine AAm ?_
 try simp only[go_sem,AA _ hk,hk,ht]
 first | refine CY (WB t k hft) ?_ | refine CW (WB t k hft) fun _=>?_
 rcases h1:IJ t k with _ | _
 ·exact AMH
 obtain⟨g1,g2,g3,g4,g5⟩:=mD h1
 simp only[go_sem,h1,AA _ hp,hp,aj]
 try refine AAm ?_
 try simp only[go_sem,h1,AA _ hp,hp]
 first | refine CY (Yv t) ?_ | refine CW (Yv t) fun _=>?_
 rcases h2:((w.p[k] != -1)==looks t) with _ | _
 ·simp only[go_sem,h2,aK,ai]
 simp only[go_sem,h2,aJ,aj]
 try refine AAm ?_
 try simp only[go_sem,h2]
 first | refine CY (mF w t hf) ?_ | refine CW (mF w t hf) fun _=>?_
 rcases ho:ownB w t with _ | _
 ·rcases h3:t.op==0 with _ | _
  rotate_left
  ·have:ownB w t=(t.own==0):=by
    have e:t.op=0:=AOx
    simp[ownB,e]
   rw[this,g5 h3] at ho
   cases ho
  have ht2:WS w k t=false:=by
   unfold WS
   split
   ·rfl
   ·rw[ho,ai,aH,aH]
  simp only[go_sem,ho,ht2,bT]
 rcases h3:t.op==0 with _ | _
 rotate_left
 ·simp only[go_sem,ho,h3,cZ]
  try refine AAm ?_
  try simp only[go_sem,h3]
 simp only[go_sem,ho,h3,bT]
 try refine AAm ?_
 try simp only[go_sem,h3]
 obtain⟨m,hm⟩:=aO g1
 unfold WS
 rw[hm,bH]
 rcases bQ m w.deeds.length with hml | hml
 rotate_left
 ·exact AMV
 have e1:decide ((m:Int)≥(w.deeds.length:Int))=false:=AOj
 rw[au hml]
 generalize hd:w.deeds[m]=d
 have hfd:Fj d:=hd▸jE hf hml
 try simp only[go_sem,hm,e1]
 try refine AAm ?_
 try simp only[go_sem,hm,e1]
 simp only[ho,aj]
 refine AB4 2 (A:=Nat) (fun x=>[(6,.c (.v (.int .i64 (x))))]) (fun _=>[⟨44,14,[w.c],true,true⟩,⟨72,25,[jC t (m:Int)],true,true⟩]) (Ea t.l (there w)) (fun x=>t.l.length-x) 0 ⟨⟨rfl,rfl⟩,rfl,Ce⟩ ?_
 intro j hj
 refine AOb (fun h=>?_) fun h=>?_
 ·have hj':j<t.l.length:=by simpa using h
  simp only[go_sem,AA _ hj',hj']
  try refine AAm ?_
  try simp only[go_sem,AA _ hj',hj']
  first | refine CY (Eu w t.l[j]) ?_ | refine CW (Eu w t.l[j]) fun _=>?_
  rcases h5:there w t.l[j] with _ | _
  ·simp only[go_sem,h5,BH (p:=there w) hj' h5,ai,aH]
  ·exact ANA
 have hj':j=t.l.length:=AO9
 subst hj'
 have hth:=CV hj
 rw[hth,aj]
 have HT:TaskIn w t d m:=⟨hml,hd,hm,hft,hfd,hth,g2,g3,g4⟩
 rcases h4:Yo k t d with _ | _
 ·simp only[ai]
  unfold Yo at h4
  simp only[go_sem,hm,AA _ hml,hml,hd]
  try refine AAm ?_
  try simp only[go_sem,hm,AA _ hml,hml,hd]
  rcases k1:d.task==(k:Int) with _ | _
  ·have j1:(d.task != (k:Int))=true:=by simp[bne,k1]
   simp only[go_sem,j1]
  have j1:(d.task != (k:Int))=false:=by simp[bne,k1]
  rcases k2:d.op==t.op with _ | _
  ·have j2:(d.op != t.op)=true:=by simp[bne,k2]
   simp only[go_sem,j1,j2]
  have j2:(d.op != t.op)=false:=by simp[bne,k2]
  rw[k1,k2,aj,aj] at h4
  have j3:(d.ret != -1)=true:=by simp[bne,h4]
  simp only[go_sem,j1,j2,j3]
 rw[aj]
 have h4b:=h4
 simp only[Yo,ay] at h4b
 have j1:(d.task != (k:Int))=false:=by simp only[bne,h4b.1,aJ]
 have j2:(d.op != t.op)=false:=by simp only[bne,h4b.2.1,aJ]
 have j3:(d.ret != -1)=false:=by simp only[bne,h4b.2.2,aJ]
 simp only[go_sem,hm,AA _ hml,hml,hd,j1,j2,j3]
 try refine AAm ?_
 try simp only[go_sem,hm,AA _ hml,hml,hd,j1,j2,j3]
 unfold swB
 rcases o1:t.op==1 with _ | _
 rotate_left
 ·simp only[go_sem,o1,aX]
  try refine AAm ?_
  try simp only[go_sem,o1]
  first | refine AB5 _ (by simpa only[go_sem,hm] using UC w t d hf HT) ?_ | refine AAT _ (by simpa only[go_sem,hm] using UC w t d hf HT) fun _=>?_
  exact AIk
 rcases o2:t.op==2 with _ | _
 rotate_left
 ·simp only[go_sem,o1,o2,aX,aC,aW]
  try refine AAm ?_
  try simp only[go_sem,o1,o2]
  first | refine AB5 _ (by simpa only[go_sem,hm] using SG w t d hf HT) ?_ | refine AAT _ (by simpa only[go_sem,hm] using SG w t d hf HT) fun _=>?_
  exact AIk
 rcases o3:t.op==3 with _ | _
 rotate_left
 ·simp only[go_sem,o1,o2,o3,aX,aC,aW]
  try refine AAm ?_
  try simp only[go_sem,o1,o2,o3]
  first | refine AB5 _ (by simpa only[go_sem,hm] using SH w t d hf HT) ?_ | refine AAT _ (by simpa only[go_sem,hm] using SH w t d hf HT) fun _=>?_
  exact AIk
 simp only[go_sem,o1,o2,o3,aC,aW]
 unfold ABV
 try refine AAm ?_
 try simp only[go_sem,o1,o2,o3]
 first | refine AB5 _ (AP t.pc 2 5) ?_ | refine AAT _ (AP t.pc 2 5) fun _=>?_
 rcases r1:Aa t.pc 2 5 with _ | _
 ·simp only[go_sem,r1,aK,cZ]
 simp only[go_sem,r1,aJ,bT]
 try refine AAm ?_
 try simp only[go_sem,r1]
 first | refine AB5 _ (AP (t.l.length:Int) 1 2) ?_ | refine AAT _ (AP (t.l.length:Int) 1 2) fun _=>?_
 exact AIk
end Go.Proofs.YtnoldekcdlaahaaGreat
