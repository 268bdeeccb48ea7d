/- A part. -/
import Derived.Test.YtdagmocgcanknaaGreatZp
import Derived.Test.YtdagmocgcanknaaGreatZj
set_option linter.unusedSimpArgs false
set_option linter.unusedVariables false
set_option maxHeartbeats 8000000
set_option maxRecDepth 10000
open Go.Proofs.Tryz
namespace Go.Proofs.YtdagmocgcanknaaGreat
open Go.Vm
theorem lV (w:DWorld) (t:DTask) (hf:AU w):Ctr prog 156 [.agg w.c,.agg t.c] [.val (.c (.v (.bool (ownB w t))))]:=by
 refine CM call156 func156 ntmps156 results156 fun hw=>?_;have hlb:=wQ hf;unfold ownB;rcases o1:t.op==1 with _ | _
 .rcases o4:t.op==4 with _ | _
  .simp only[go_sem,o1,o4,ac,ax,aL]
  simp only[go_sem,o1,o4,ac,ah,ax,aL];try refine AAP ?_
  try simp only[go_sem,o1,o4]
  first | refine AAt _ (AP t.pc 4 5) ?_ | refine AAO _ (AP t.pc 4 5) fun _=>?_
  rcases h45:Ae t.pc 4 5 with _ | _
  .simp only[go_sem,h45,ax,aL]
  simp only[go_sem,h45,aO];unfold NC;try refine AAP ?_
  try simp only[go_sem,h45]
  first | refine AAt _ (AP t.own 1 w.b.length) ?_ | refine AAO _ (AP t.own 1 w.b.length) fun _=>?_
  rcases q1:Ae t.own 1 w.b.length with _ | _
  .simp only[go_sem,q1,ac]
  obtain⟨q,hq,e3,e4⟩:=AA6 hlb q1;rw[e4,am hq];simp only[go_sem,q1,e3,AA _ hq,hq,ah]
 .have o4:(t.op==4)=false:=by
   have:t.op=1:=by simpa using o1
   rw[this]; rfl
  rcases p8:t.pc==8 with _ | _
  .simp only[go_sem,o1,o4,p8,ac,ah,ax,aL]
  simp only[go_sem,o1,o4,p8,ah,aO];unfold NC;try refine AAP ?_
  try simp only[go_sem,o1,o4,p8]
  first | refine AAt _ (AP t.own 1 w.b.length) ?_ | refine AAO _ (AP t.own 1 w.b.length) fun _=>?_
  rcases q1:Ae t.own 1 w.b.length with _ | _
  .simp only[go_sem,q1,ac]
  obtain⟨q,hq,e3,e4⟩:=AA6 hlb q1;have hol:gX w t=(w.b[q].c0.l.length:Int):=by unfold gX; rw[e4,am hq]
  rw[e4,am hq,hol];simp only[go_sem,q1,e3,AA _ hq,hq,ah];rcases k1:w.b[q].kind==1 with _ | _
  .simp only[go_sem,k1,ac]
  .simp only[go_sem,k1,ah]
theorem UR (w:DWorld) (t:DTask) (d:DDeed) {m:Nat} (hf:AU w) (H:TaskIn w t d m):Ctr prog 157 [.agg w.c,.agg t.c,.agg d.c] [.val (.c (.v (.bool (AER w t d))))]:=by
 obtain⟨hm,hd,ht,hft,hfd,hth,hi,hj,hfr⟩:=H;refine CM call157 func157 ntmps157 results157 fun hw=>?_;rw[Dy] at hft;rw[G8] at hfd;unfold AER;rw[AJu];simp only[go_sem];try refine AAP ?_
 try simp only[go_sem]
 first | refine AAt _ (QG w.c0.cols t.r) ?_ | refine AAO _ (QG w.c0.cols t.r) fun _=>?_
 rcases h1:fits w.c0.cols t.r with _ | _
 .exact AL1
 simp only[go_sem,h1,ah];try refine AAP ?_
 try simp only[go_sem,h1]
 first | refine AAt _ (SA t.r d.r hft.1.1 hfd.1.1) ?_ | refine AAO _ (SA t.r d.r hft.1.1 hfd.1.1) fun _=>?_
 rcases h2:N8 t.r d.r with _ | _
 .simp only[go_sem,h2,ac]
 simp only[go_sem,h2,ah];try refine AAP ?_
 try simp only[go_sem]
 first | refine AAt _ (AP t.pc 2 7) ?_ | refine AAO _ (AP t.pc 2 7) fun _=>?_
 rcases h3:Ae t.pc 2 7 with _ | _
 .simp only[go_sem,h3,aH,P7]
 rcases h4:t.pc==5 with _ | _;rotate_left
 .simp only[go_sem,h3,h4,aD,Bool.or_true,P7]
 simp only[go_sem,h3,h4,aD,be];rcases h5:((t.l.length:Int)==1) with _ | _
 .exact AKh
 have g5:((t.l.length:Int) != 1)=false:=AQb;obtain⟨h0,hl0⟩:=AA7 h5;rw[hl0,ah];rcases h6:t.l[0].kind==1 with _ | _
 .exact AML
 have g6:(t.l[0].kind != 1)=false:=by simp[bne,h6]
 simp only[go_sem,g5,g6,AA _ h0,h0,ah];try refine AAP ?_
 try simp only[go_sem,g5,g6,AA _ h0,h0]
 rcases h7:t.pc==2 with _ | _
 .simp only[go_sem,h7,AA _ h0,h0,be];try refine AAP ?_
  try simp only[go_sem,h7,AA _ h0,h0]
 .simp only[go_sem,h7,AA _ h0,h0,P7];try refine AAP ?_
  try simp only[go_sem,h7,AA _ h0,h0]
theorem Wx (l:List DRef) (id:Int) (h1:l.length=1) (h0:0<l.length):Ctr prog 232 [.agg (DDir.c ⟨0,l⟩),.c (.v (.int .i64 (id)))] [.val (.c (.v (.int .i64 (if DY l[0] id=true then 0 else -1))))]:=by
 refine CM call232 func232 ntmps232 results232 fun hw=>?_;simp only[go_sem];refine AAe 1 (A:=Nat) (fun x=>[(5,.c (.v (.int .i64 (x))))]) (fun _=>[⟨38,2,[DDir.c ⟨0,l⟩],true,true⟩]) (fun x=>x<=1/\(x=1->DY l[0] id=false)) (fun x=>1-x) 0 ⟨⟨rfl,rfl⟩,rfl,aq _,fun h=>AOl⟩ ?_;rintro k ⟨hk,hc⟩;refine AOd (fun h=>?_) fun h=>?_
 .have hk0:k=0:=by simp[h1] at h; omega
  subst hk0;have hw01:IntKind.i64.wrap (0+1)=1:=rfl;have e0:DY l[0] id=(decide (l[0].first>=0)&&(decide (id>=l[0].first)&&decide (IntKind.i64.wrap (id-l[0].first)<l[0].many))):=rfl;simp only[go_sem,AA _ h0,h0];try refine AAP ?_
  try simp only[go_sem,AA _ h0,h0]
  rcases q1:decide (l[0].first>=0) with _ | _
  .simp only[go_sem,AA _ h0,h0,hw01,q1];exact⟨1,⟨rfl,rfl⟩,rfl,⟨aG _,fun _=>by rw[e0,q1]; rfl⟩,AOl⟩
  rcases q2:decide (id>=l[0].first) with _ | _
  .simp only[go_sem,AA _ h0,h0,hw01,q1,q2];exact⟨1,⟨rfl,rfl⟩,rfl,⟨aG _,fun _=>by rw[e0,q1,q2]; rfl⟩,AOl⟩
  rcases q3:decide (IntKind.i64.wrap (id-l[0].first)<l[0].many) with _ | _
  .simp only[go_sem,AA _ h0,h0,hw01,q1,q2,q3];exact⟨1,⟨rfl,rfl⟩,rfl,⟨aG _,fun _=>by rw[e0,q1,q2,q3]; rfl⟩,AOl⟩
  .have e:DY l[0] id=true:=by rw[e0,q1,q2,q3]; rfl
   simp only[go_sem,AA _ h0,h0,q1,q2,q3,e,aO];rfl
 .have hk1:k=1:=by simp[h1] at h; omega
  subst hk1;simp only[go_sem,hc rfl,ax,aL]
theorem S9 (w:DWorld) (t:DTask) (d:DDeed) {m:Nat} (hf:AU w) (H:TaskIn w t d m):Ctr prog 158 [.agg w.c,.agg t.c,.agg d.c] [.val (.c (.v (.bool (wK w t d))))]:=by
 obtain⟨hm,hd,ht,hft,hfd,hth,hi,hj,hfr⟩:=H;refine CM call158 func158 ntmps158 results158 fun hw=>?_;unfold wK;rcases h1:t.id==d.id with _ | _
 .have hne:t.id≠d.id:=by simpa using h1
  have g1:(d.id != t.id)=true:=by simp; exact fun e=>hne e.symm
  simp only[go_sem,g1,ac]
 have hee:t.id=d.id:=AO8;have g1:(d.id != t.id)=false:=by simp[hee]
 simp only[go_sem,g1,ah];try refine AAP ?_
 try simp only[go_sem,g1]
 first | refine AAt _ (AP t.pc 2 7) ?_ | refine AAO _ (AP t.pc 2 7) fun _=>?_
 rcases h2:Ae t.pc 2 7 with _ | _
 .simp only[go_sem,h2,aH,P7]
 rw[AHr _ h2];simp only[go_sem,h2,aD,be];rcases h5:((t.l.length:Int)==1) with _ | _
 .exact AKh
 have g5:((t.l.length:Int) != 1)=false:=AQb;obtain⟨h0,hl0⟩:=AA7 h5;rw[hl0,ah];have hl1:t.l.length=1:=by have:=qX.1 h5; omega
 try refine AAP ?_
 try simp only[go_sem,g5,AA _ h0,h0]
 first | refine CY (Wx t.l t.id hl1 h0) ?_ | refine CW (Wx t.l t.id hl1 h0) fun _=>?_
 rcases h6:DY t.l[0] t.id with _ | _
 .have e6:((-1:Int) != 0)=true:=rfl;simp only[go_sem,h6,e6,ax,aL,ac]
 have e6:((0:Int) != 0)=false:=rfl;simp only[go_sem,h6,e6,aO,ah];rcases h7:decide (t.id<(w.m.length:Int)) with _ | _
 .have g7:decide (t.id>=(w.m.length:Int))=true:=by simp at h7 ⊢; omega
  simp only[go_sem,g7,ac]
 have g7:decide (t.id>=(w.m.length:Int))=false:=by simp at h7 ⊢; omega
 simp only[go_sem,g7,ah];rcases h8:decide (t.pc>4) with _ | _
 .rcases h9:t.pc==2 with _ | _
  .simp only[go_sem,h8,h9,AA _ h0,h0,be];try refine AAP ?_
   try simp only[go_sem,h8,h9,AA _ h0,h0]
  .simp only[go_sem,h8,h9,AA _ h0,h0,be,P7];try refine AAP ?_
   try simp only[go_sem,h8,h9,AA _ h0,h0]
 .simp only[go_sem,h8,AA _ h0,h0,P7];try refine AAP ?_
  try simp only[go_sem,h8,AA _ h0,h0]
theorem AHw (n:Int) (h:Ae n 3 8=true):Ae n 4 8 = !(n==3):=by simp only[Ae,ar,aQ] at h;have h:n=3\/n=4\/n=5\/n=6\/n=7\/n=8:=AOl;rcases h with h | h | h | h | h | h<;>subst h<;>rfl
theorem AF_ (n:Int) (h:Ae n 3 8=false):Ae n 4 8=false:=by
 rcases h2:Ae n 4 8 with _ | _
 .rfl
 .simp only[Ae,ar,aQ] at h2;have:Ae n 3 8=true:=by simp only[Ae,ar,aQ]; omega
  rw[this] at h; cases h
theorem S_ (w:DWorld) (t:DTask) (d:DDeed) {m:Nat} (hf:AU w) (H:TaskIn w t d m):Ctr prog 159 [.agg w.c,.agg t.c,.agg d.c] [.val (.c (.v (.bool (wL w t d))))]:=by
 obtain⟨hm,hd,ht,hft,hfd,hth,hi,hj,hfr⟩:=H;refine CM call159 func159 ntmps159 results159 fun hw=>?_;rw[Dy] at hft;rw[G8] at hfd;unfold wL;simp only[go_sem];try refine AAP ?_
 try simp only[go_sem]
 first | refine CY (Tz w.c0.cols t.q (AF9 hf) hft.2.1) ?_ | refine CW (Tz w.c0.cols t.q (AF9 hf) hft.2.1) fun _=>?_
 rcases h1:CE w.c0.cols t.q with _ | _
 .exact AL1
 simp only[go_sem,h1,ah];try refine AAP ?_
 try simp only[go_sem,h1]
 first | refine CY (Y7 t.q d.q hft.2.1 hfd.2.1) ?_ | refine CW (Y7 t.q d.q hft.2.1 hfd.2.1) fun _=>?_
 rcases h2:Wl t.q d.q with _ | _
 .simp only[go_sem,h2,ac]
 rcases h3:decide (t.ts>w.t) with _ | _;rotate_left
 .simp only[go_sem,h2,h3,aD,ac,ay]
 simp only[go_sem,h2,h3,aH,ah];try refine AAP ?_
 try simp only[go_sem,h2,h3]
 first | refine AAt _ (AP t.pc 3 8) ?_ | refine AAO _ (AP t.pc 3 8) fun _=>?_
 rcases h4:Ae t.pc 3 8 with _ | _
 .simp only[go_sem,h4,aH,P7];try refine AAP ?_
  try simp only[go_sem,h4]
  first | refine AAt _ (AP t.pc 4 8) ?_ | refine AAO _ (AP t.pc 4 8) fun _=>?_
  simp only[go_sem,AF_ _ h4]
 rcases h5:decide (t.i>(t.l.length:Int)) with _ | _;rotate_left
 .simp only[go_sem,h4,h5,aD,ac,be]
 simp only[go_sem,h4,h5,aD,aH,ah,be];try refine AAP ?_
 try simp only[go_sem,h4,h5]
 first | refine AAt _ (AP t.pc 4 8) ?_ | refine AAO _ (AP t.pc 4 8) fun _=>?_
 rw[AHw _ h4];rcases h6:t.pc==3 with _ | _;rotate_left
 .simp only[go_sem,h6,aD,P7]
 obtain⟨k,hk⟩:=aF hi;have hkl:k<=t.l.length:=by rw[hk] at h5; simp at h5; omega
 rw[hk,aZ,be];rcases bh k t.l.length with hk2 | hk2;rotate_left
 .have e:k=t.l.length:=by omega
  have e2:((k:Int)==(t.l.length:Int))=true:=AOn;rw[jq hk2];simp only[go_sem,h6,hk,e2,aH];try refine AAP ?_
  try simp only[go_sem,h6,hk,e2]
 have e2:((k:Int)==(t.l.length:Int))=false:=AOn;rw[am hk2];simp only[go_sem,h6,hk,e2,AA _ hk2,hk2,aH];try refine AAP ?_
 try simp only[go_sem,h6,hk,e2,AA _ hk2,hk2]
 have hthk:=X8 hth hk2;unfold qI;rcases k1:t.l[k].kind==1 with _ | _
 .obtain⟨q,hq,hbm,hat⟩ | ⟨hbm,hat⟩:=DZ w t.l[k].buf;rotate_left
  .simp only[there,hat] at hthk;cases hthk
  have hgl:=Oq w t.l[k];simp only[go_sem,k1,AA _ hk2,hk2,ax,aL];try refine AAP ?_
  try simp only[go_sem,k1,AA _ hk2,hk2]
  first | refine CY (LQ w t.l[k] hf hq hbm) ?_ | refine CW (LQ w t.l[k] hf hq hbm) fun _=>?_
  rcases h8:decide (t.pc>=6) with _ | _
  .simp only[go_sem,h8,ac];try refine AAP ?_
   try simp only[go_sem,h8]
  obtain⟨j,hjj⟩:=aF hj;rw[hjj,aZ];rcases bh j (Dc w t.l[k]).length with hm | hm
  .have e1:decide ((j:Int)<((Dc w t.l[k]).length:Int))=true:=by simp; omega
   rw[am hm];simp only[go_sem,h8,hjj,e1,AA _ hm,hm,ah];try refine AAP ?_
   try simp only[go_sem,h8,hjj,e1,AA _ hm,hm]
  .have e1:decide ((j:Int)<((Dc w t.l[k]).length:Int))=false:=by simp; omega
   rw[jq hm];simp only[go_sem,h8,hjj,e1,ah];try refine AAP ?_
   try simp only[go_sem,h8,hjj,e1]
 .simp only[aO];rcases h9:decide (t.j<t.l[k].many) with _ | _
  .simp only[go_sem,k1,h9,AA _ hk2,hk2,ac];try refine AAP ?_
   try simp only[go_sem,k1,h9,AA _ hk2,hk2]
  rcases h7:decide (t.pc<6) with _ | _
  .simp only[go_sem,k1,h9,h7,AA _ hk2,hk2,ah,be];try refine AAP ?_
   try simp only[go_sem,k1,h9,h7,AA _ hk2,hk2]
  .simp only[go_sem,k1,h9,h7,AA _ hk2,hk2,ah,P7];try refine AAP ?_
   try simp only[go_sem,k1,h9,h7,AA _ hk2,hk2]
theorem TA (w:DWorld) (k:Nat) (hf:AU w) (hk:k<w.tasks.length) (hp:k<w.p.length):Ctr prog 69 [.agg w.c,.c (.v (.int .i64 ((k:Int))))] [.val (.c (.v (.bool (P5 w k w.tasks[k] w.p[k]))))]:=by
 have hft:=iO hf hk;have hft2:=hft;rw[Dy] at hft2;have hlt:=hft2.2.2.1;have hld:=AA5 hf;have hlb:=wQ hf;refine CM call69 func69 ntmps69 results69 fun hw=>?_;generalize ht:w.tasks[k]=t at hft hft2 hlt;unfold P5;simp only[go_sem,AA _ hk,hk,ht];try refine AAP ?_
 try simp only[go_sem,AA _ hk,hk,ht]
 first | refine CY (Wp t k hft) ?_ | refine CW (Wp t k hft) fun _=>?_
 rcases h1:Ie t k with _ | _
 .exact AL1
 obtain⟨g1,g2,g3,g4,g5⟩:=lU h1;simp only[go_sem,h1,AA _ hp,hp,ah];try refine AAP ?_
 try simp only[go_sem,h1,AA _ hp,hp]
 first | refine CY (Y4 t) ?_ | refine CW (Y4 t) fun _=>?_
 rcases h2:((w.p[k] != -1)==looks t) with _ | _
 .simp only[go_sem,h2,aH,ac]
 simp only[go_sem,h2,aD,ah];try refine AAP ?_
 try simp only[go_sem,h2]
 first | refine CY (lV w t hf) ?_ | refine CW (lV w t hf) fun _=>?_
 rcases ho:ownB w t with _ | _
 .rcases h3:t.op==0 with _ | _;rotate_left
  .have:ownB w t=(t.own==0):=by have e:t.op=0:=AO7;simp[ownB,e]
   rw[this,g5 h3] at ho;cases ho
  have ht2:gZ w k t=false:=by
   unfold gZ;split
   .rfl
   .rw[ho,ac,ay,ay]
  simp only[go_sem,ho,ht2,be]
 rcases h3:t.op==0 with _ | _;rotate_left
 .simp only[go_sem,ho,h3,P7];try refine AAP ?_
  try simp only[go_sem,h3]
 simp only[go_sem,ho,h3,be];try refine AAP ?_
 try simp only[go_sem,h3]
 obtain⟨m,hm⟩:=aF g1;unfold gZ;rw[hm,aZ];rcases bh m w.deeds.length with hml | hml;rotate_left
 .exact AMH
 have e1:decide ((m:Int)>=(w.deeds.length:Int))=false:=AOn;rw[am hml];generalize hd:w.deeds[m]=d;have hfd:Ej d:=hd▸iP hf hml;try simp only[go_sem,hm,e1]
 try refine AAP ?_
 try simp only[go_sem,hm,e1]
 simp only[ho,ah];refine AAe 2 (A:=Nat) (fun x=>[(6,.c (.v (.int .i64 (x))))]) (fun _=>[⟨44,14,[w.c],true,true⟩,⟨120,25,[iM t (m:Int)],true,true⟩]) (FW t.l (there w)) (fun x=>t.l.length-x) 0 ⟨⟨rfl,rfl⟩,rfl,D9⟩ ?_;intro j hj;refine AOd (fun h=>?_) fun h=>?_
 .have hj':j<t.l.length:=by simpa using h
  simp only[go_sem,AA _ hj',hj'];try refine AAP ?_
  try simp only[go_sem,AA _ hj',hj']
  first | refine CY (Iy w t.l[j]) ?_ | refine CW (Iy w t.l[j]) fun _=>?_
  rcases h5:there w t.l[j] with _ | _
  .simp only[go_sem,h5,Ba (p:=there w) hj' h5,ac,ay]
  .exact AM1
 have hj':j=t.l.length:=APM;subst hj';have hth:=DX hj;rw[hth,ah];have HT:TaskIn w t d m:=⟨hml,hd,hm,hft,hfd,hth,g2,g3,g4⟩;rcases h4:gY k t d with _ | _
 .simp only[ac];unfold gY at h4;simp only[go_sem,hm,AA _ hml,hml,hd];try refine AAP ?_
  try simp only[go_sem,hm,AA _ hml,hml,hd]
  rcases k1:d.task==(k:Int) with _ | _
  .have j1:(d.task != (k:Int))=true:=by simp[bne,k1]
   simp only[go_sem,j1]
  have j1:(d.task != (k:Int))=false:=by simp[bne,k1]
  rcases k2:d.op==t.op with _ | _
  .have j2:(d.op != t.op)=true:=by simp[bne,k2]
   simp only[go_sem,j1,j2]
  have j2:(d.op != t.op)=false:=by simp[bne,k2]
  rw[k1,k2,ah,ah] at h4;have j3:(d.ret != -1)=true:=by simp[bne,h4]
  simp only[go_sem,j1,j2,j3]
 rw[ah];have h4b:=h4;simp only[gY,ar] at h4b;have j1:(d.task != (k:Int))=false:=by simp only[bne,h4b.1,aD]
 have j2:(d.op != t.op)=false:=by simp only[bne,h4b.2.1,aD]
 have j3:(d.ret != -1)=false:=by simp only[bne,h4b.2.2,aD]
 simp only[go_sem,hm,AA _ hml,hml,hd,j1,j2,j3];try refine AAP ?_
 try simp only[go_sem,hm,AA _ hml,hml,hd,j1,j2,j3]
 unfold swB;rcases o1:t.op==1 with _ | _;rotate_left
 .simp only[go_sem,o1,aO];try refine AAP ?_
  try simp only[go_sem,o1]
  first | refine AAt _ (by simpa only[go_sem,hm] using UR w t d hf HT) ?_ | refine AAO _ (by simpa only[go_sem,hm] using UR w t d hf HT) fun _=>?_
  exact AJC
 rcases o2:t.op==2 with _ | _;rotate_left
 .simp only[go_sem,o1,o2,aO,ax,aL];try refine AAP ?_
  try simp only[go_sem,o1,o2]
  first | refine AAt _ (by simpa only[go_sem,hm] using S9 w t d hf HT) ?_ | refine AAO _ (by simpa only[go_sem,hm] using S9 w t d hf HT) fun _=>?_
  exact AJC
 rcases o3:t.op==3 with _ | _;rotate_left
 .simp only[go_sem,o1,o2,o3,aO,ax,aL];try refine AAP ?_
  try simp only[go_sem,o1,o2,o3]
  first | refine AAt _ (by simpa only[go_sem,hm] using S_ w t d hf HT) ?_ | refine AAO _ (by simpa only[go_sem,hm] using S_ w t d hf HT) fun _=>?_
  exact AJC
 simp only[go_sem,o1,o2,o3,ax,aL];unfold wM;try refine AAP ?_
 try simp only[go_sem,o1,o2,o3]
 first | refine AAt _ (AP t.pc 2 5) ?_ | refine AAO _ (AP t.pc 2 5) fun _=>?_
 rcases r1:Ae t.pc 2 5 with _ | _
 .simp only[go_sem,r1,aH,P7]
 simp only[go_sem,r1,aD,be];try refine AAP ?_
 try simp only[go_sem,r1]
 first | refine AAt _ (AP (t.l.length:Int) 1 2) ?_ | refine AAO _ (AP (t.l.length:Int) 1 2) fun _=>?_
 exact AJC
