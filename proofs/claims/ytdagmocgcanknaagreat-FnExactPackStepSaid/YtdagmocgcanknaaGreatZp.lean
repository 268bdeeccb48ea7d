/- A part. -/
import Derived.Test.YtdagmocgcanknaaGreatZh
set_option linter.unusedSimpArgs false
set_option linter.unusedVariables false
set_option maxHeartbeats 4000000
set_option maxRecDepth 10000
open Go.Proofs.Tryz
namespace Go.Proofs.YtdagmocgcanknaaGreat
open Go.Vm
section
variable {p q r:Prop}
theorem ALf(h:p:=by
 refine ACc 13 9 (by kernel_rfl) ?_;simp only[go_sem,AA _ hk2,hk2,ay,ac,ah];refine ABg _ (by simpa only[go_sem,Qo,ap] using hro) ?_;rcases h7:decide (t.pc<=5) with _ | _<;>simp only[go_sem,h7,AA _ hk2,hk2,k1]):p:=h
end
theorem AF9 {w:DWorld} (hf:AU w):w.c0.cols.length<=1048576:=by rw[AZ,Jm] at hf;exact hf.1
theorem iL {r:DRef} (h:Eh r=true) (hk:(r.kind==1)=false):(r.kind==2)=true:=by simp only[Eh,Ae,ar,aQ] at h;have:r.kind≠1:=APQ;have:=h.2.2.1;simp; omega
theorem Sv (w:DWorld) (t:DTask) (d:DDeed) {m:Nat} (hf:AU w) (H:TaskIn w t d m):Ctr prog 192 [.agg w.c,.agg t.c] [.val (.c (.v (.bool (wL w t d))))]:=by
 obtain⟨hm,hd,ht,hft,hfd,hth,hi,hj,hfr⟩:=H;refine CM call192 func192 ntmps192 results192 fun hw=>?_;rw[Dy] at hft;rw[G8] at hfd;unfold wL;simp only[go_sem];try refine AAP ?_
 try simp only[go_sem]
 first | refine CY (T_ w.c0.cols t.q (AF9 hf) hft.2.1) ?_ | refine CW (T_ w.c0.cols t.q (AF9 hf) hft.2.1) fun _=>?_
 rcases h1:CE w.c0.cols t.q with _ | _
 .exact AL1
 simp only[go_sem,h1,ht,AA _ hm,hm,hd,ah];try refine AAP ?_
 try simp only[go_sem,h1,ht,AA _ hm,hm,hd]
 first | refine CY (Sm t.q d.q hft.2.1 hfd.2.1) ?_ | refine CW (Sm t.q d.q hft.2.1 hfd.2.1) fun _=>?_
 rcases h2:Wl t.q d.q with _ | _
 .simp only[go_sem,h2,ac]
 rcases h3:decide (t.ts>w.t) with _ | _;rotate_left
 .simp only[go_sem,h2,h3,aD,ac,ay]
 simp only[go_sem,h2,h3,aH,ah];try refine AAP ?_
 try simp only[go_sem]
 first | refine AAt _ (AL t.pc 3 8) ?_ | refine AAO _ (AL t.pc 3 8) fun _=>?_
 rcases h4:Ae t.pc 3 8 with _ | _
 .simp only[go_sem,h4,aH,P7]
 rcases h5:decide (t.i>(t.l.length:Int)) with _ | _;rotate_left
 .simp only[go_sem,h4,h5,aD,ac,be];try refine AAP ?_
  try simp only[go_sem,h5]
 simp only[go_sem,h4,h5,aD,aH,ah,be];try refine AAP ?_
 try simp only[go_sem,h5]
 rcases h6:t.pc==3 with _ | _;rotate_left
 .simp only[go_sem,h6,P7]
 obtain⟨k,hk⟩:=aF hi;have hkl:k<=t.l.length:=by rw[hk] at h5; simp at h5; omega
 rw[hk,aZ,be];rcases bh k t.l.length with hk2 | hk2;rotate_left
 .have e:k=t.l.length:=by omega
  have e2:((k:Int)==(t.l.length:Int))=true:=AOn;rw[jq hk2];simp only[go_sem,h6,hk,e2];try refine AAP ?_
  try simp only[go_sem,h6,hk,e2]
 have e2:((k:Int)==(t.l.length:Int))=false:=AOn;rw[am hk2];simp only[go_sem,h6,hk,e2];have hthk:=X8 hth hk2;unfold qI;rcases k1:t.l[k].kind==1 with _ | _
 .have kk2:=iL (hfr _ (an hk2)) k1;have hro:=zS w t.l[k] t.j hf hthk k1 kk2 hj;simp only[ax,aL];rcases hg:(Dc w t.l[k])[t.j.toNat]? with _ | x
  .rw[hg] at hro;exact ALf
  .rw[hg] at hro;refine ACc 13 9 (by kernel_rfl) ?_;simp only[go_sem,AA _ hk2,hk2,ay,ac,ah];refine CZ (hro) ?_;rcases h7:decide (t.pc<=5) with _ | _
   .have h8:decide (t.pc>=6)=true:=by simp at h7 ⊢; omega
    simp only[go_sem,h7,h8,AA _ hk2,hk2,ah];try refine AAP ?_
    try simp only[go_sem,h7,h8]
   .have h8:decide (t.pc>=6)=false:=by simp at h7 ⊢; omega
    simp only[go_sem,h7,h8,AA _ hk2,hk2,k1,ac];try refine AAP ?_
    try simp only[go_sem,h7,h8,AA _ hk2,hk2,k1]
 .obtain⟨q,hq,hqb,hqm⟩:=X7 hthk k1;simp only[aO];rcases h9:decide (t.j<t.l[k].many) with _ | _
  .have hro:=ACT w t.l[k] t.j hf hthk k1 h9;exact ALf
  .obtain⟨j,hjj⟩:=aF hj;have hjl:j<w.b[q].c0.l.length:=by rw[hjj,<- hqm] at h9; simp at h9; omega
   have hro:=(qM w t.l[k] hf hq hqb hthk k1 hjl).frz;simp only[ao,ap,oK,DRow.o_er] at hro;rw[hjj];refine ACc 13 9 (by kernel_rfl) ?_;simp only[go_sem,AA _ hk2,hk2,hjj,ay,ac,ah];refine CZ (hro) ?_;rcases h7:decide (t.pc<=5) with _ | _
   .have h8:decide (t.pc<6)=false:=by simp at h7 ⊢; omega
    simp only[go_sem,h7,h8,AA _ hk2,hk2,be];try refine AAP ?_
    try simp only[go_sem,h7,h8]
   .have h8:decide (t.pc<6)=true:=by simp at h7 ⊢; omega
    simp only[go_sem,h7,h8,AA _ hk2,hk2,k1,P7];try refine AAP ?_
    try simp only[go_sem,h7,h8,AA _ hk2,hk2,k1]
def iM (t:DTask) (h:Int):List Cl:=[.v (.int .i64 t.op),.v (.int .i64 t.pc),.v (.int .i64 h),.sl (t.r.map DVal.c),.v (.int .i64 t.id),.v (.int .i64 t.q.kind),.v (.int .i64 t.q.p.kind),.v (.int .i64 t.q.p.col),.v (.int .i64 t.q.p.op),.v (.int .i64 t.q.p.v.ty),.v (.int .i64 t.q.p.v.n),.v (.string t.q.p.v.s),.sl (t.q.p.l.map DPred.c),.v (.int .i64 t.q.col),.sl (t.q.out.map intC),.v (.int .i64 t.ts),.v (.int .i64 t.ver),.sl (t.l.map DRef.c),.v (.int .i64 t.i),.v (.int .i64 t.j),.v (.int .i64 t.s),.v (.int .i64 t.at0),.v (.int .i64 t.own),.v (.bool t.won),.sl (t.got.map DRow.c)]
@[go_sem] theorem AGm (t:DTask) (h:Int):iM t h = [.v (.int .i64 t.op),.v (.int .i64 t.pc),.v (.int .i64 h),.sl (t.r.map DVal.c),.v (.int .i64 t.id),.v (.int .i64 t.q.kind),.v (.int .i64 t.q.p.kind),.v (.int .i64 t.q.p.col),.v (.int .i64 t.q.p.op),.v (.int .i64 t.q.p.v.ty),.v (.int .i64 t.q.p.v.n),.v (.string t.q.p.v.s),.sl (t.q.p.l.map DPred.c),.v (.int .i64 t.q.col),.sl (t.q.out.map intC),.v (.int .i64 t.ts),.v (.int .i64 t.ver),.sl (t.l.map DRef.c),.v (.int .i64 t.i),.v (.int .i64 t.j),.v (.int .i64 t.s),.v (.int .i64 t.at0),.v (.int .i64 t.own),.v (.bool t.won),.sl (t.got.map DRow.c)]:=rfl
theorem lU {t:DTask} {k:Int} (h:Ie t k=true):0<=t.h/\0<=t.i/\0<=t.j/\(∀ r∈t.l,Eh r=true)/\((t.op==0)=true->(t.own==0)=true):=by
 simp only[Ie,ar] at h;obtain⟨_,_,_,_,h5,h6,_,h8⟩:=h;simp only[numsL,aI,aM,DC,ar,aa8,aaA] at h5;refine⟨AOl,AOl,AOl,fun r hr=>?_,fun h0=>?_⟩
 .have:=aC.1 h6 r hr;simp only[G6,ar] at this;exact this.1
 .have e:(t.op != 0)=false:=by simp[bne,h0]
  rw[e,be] at h8;simp only[DJ,ar] at h8;exact h8.2.2.2.2.2.2.2.2.2.2.2.2.1
theorem iO {w:DWorld} (hf:AU w) {k:Nat} (hk:k<w.tasks.length):Ei w.tasks[k]:=by rw[AZ] at hf;exact hf.2.2.2.2.2.2.1.2 _ (an hk)
theorem iP {w:DWorld} (hf:AU w) {k:Nat} (hk:k<w.deeds.length):Ej w.deeds[k]:=by rw[AZ] at hf;exact hf.2.2.2.2.2.2.2.2 _ (an hk)
theorem Sz (w:DWorld) (k:Nat) (hf:AU w) (hk:k<w.tasks.length) (hp:k<w.p.length):Ctr prog 94 [.agg w.c,.c (.v (.int .i64 ((k:Int))))] [.val (.c (.v (.bool (P5 w k w.tasks[k] w.p[k]))))]:=by
 have hft:=iO hf hk;have hft2:=hft;rw[Dy] at hft2;have hlt:=hft2.2.2.1;have hld:=AA5 hf;have hlb:=wQ hf;refine CM call94 func94 ntmps94 results94 fun hw=>?_;generalize ht:w.tasks[k]=t at hft hft2 hlt;unfold P5;simp only[go_sem,AA _ hk,hk,ht];try refine AAP ?_
 try simp only[go_sem,AA _ hk,hk,ht]
 first | refine CY (Wn t k hft) ?_ | refine CW (Wn t k hft) fun _=>?_
 rcases h1:Ie t k with _ | _
 .exact AL1
 obtain⟨g1,g2,g3,g4,g5⟩:=lU h1;simp only[go_sem,h1,AA _ hp,hp,ah];try refine AAP ?_
 try simp only[go_sem,h1,AA _ hp,hp]
 first | refine CY (Y3 t) ?_ | refine CW (Y3 t) fun _=>?_
 rcases h2:((w.p[k] != -1)==looks t) with _ | _
 .simp only[go_sem,h2,aH,ac]
 simp only[go_sem,h2,aD,ah];try refine AAP ?_
 try simp only[go_sem,h2]
 first | refine CY (g_ t) ?_ | refine CW (g_ t) fun _=>?_
 rcases h3:t.op==0 with _ | _;rotate_left
 .simp only[go_sem,h3,P7]
 simp only[go_sem,h3,be];obtain⟨m,hm⟩:=aF g1;unfold gZ;rw[hm,aZ];rcases bh m w.deeds.length with hml | hml;rotate_left
 .exact AMH
 have e1:decide ((m:Int)>=(w.deeds.length:Int))=false:=AOn;rw[am hml];generalize hd:w.deeds[m]=d;have hfd:Ej d:=hd▸iP hf hml;rcases h4:gY k t d with _ | _
 .simp only[h4,ac];unfold gY at h4;rcases k1:d.task==(k:Int) with _ | _
  .have j1:(d.task != (k:Int))=true:=by simp[bne,k1]
   try simp only[go_sem,hm,e1,AA _ hml,hml,hd,j1]
   try refine AAP ?_
   try simp only[go_sem,hm,e1,AA _ hml,hml,hd,j1]
  have j1:(d.task != (k:Int))=false:=by simp[bne,k1]
  rcases k2:d.op==t.op with _ | _
  .have j2:(d.op != t.op)=true:=by simp[bne,k2]
   try simp only[go_sem,hm,e1,AA _ hml,hml,hd,j1,j2]
   try refine AAP ?_
   try simp only[go_sem,hm,e1,AA _ hml,hml,hd,j1,j2]
  have j2:(d.op != t.op)=false:=by simp[bne,k2]
  rw[k1,k2,ah,ah] at h4;have j3:(d.ret != -1)=true:=by simp[bne,h4]
  try simp only[go_sem,hm,e1,AA _ hml,hml,hd,j1,j2,j3]
  try refine AAP ?_
  try simp only[go_sem,hm,e1,AA _ hml,hml,hd,j1,j2,j3]
 simp only[h4,ah];have h4b:=h4;simp only[gY,ar] at h4b;have j1:(d.task != (k:Int))=false:=by simp only[bne,h4b.1,aD]
 have j2:(d.op != t.op)=false:=by simp only[bne,h4b.2.1,aD]
 have j3:(d.ret != -1)=false:=by simp only[bne,h4b.2.2,aD]
 try simp only[go_sem,hm,e1,AA _ hml,hml,hd,j1,j2,j3]
 try refine AAP ?_
 try simp only[go_sem,hm,e1,AA _ hml,hml,hd,j1,j2,j3]
 refine AAe 2 (A:=Nat) (fun x=>[(72,.c (.v (.int .i64 (x))))]) (fun _=>[⟨44,14,[w.c],true,true⟩,⟨120,25,[iM t (m:Int)],true,true⟩]) (FW t.l (there w)) (fun x=>t.l.length-x) 0 ⟨⟨rfl,rfl⟩,rfl,D9⟩ ?_;intro j hj;refine AOd (fun h=>?_) fun h=>?_
 .have hj':j<t.l.length:=by simpa using h
  simp only[go_sem,AA _ hj',hj'];try refine AAP ?_
  try simp only[go_sem,AA _ hj',hj']
  first | refine CY (Cf w t.l[j]) ?_ | refine CW (Cf w t.l[j]) fun _=>?_
  rcases h5:there w t.l[j] with _ | _
  .simp only[go_sem,h5,Ba (p:=there w) hj' h5,ac]
  .exact AM1
 have hj':j=t.l.length:=APM;subst hj';have hth:=DX hj;rw[hth,ah];have HT:TaskIn w t d m:=⟨hml,hd,hm,hft,hfd,hth,g2,g3,g4⟩;unfold ownB swB;rcases o1:t.op==1 with _ | _;rotate_left
 .have o4:(t.op==4)=false:=by
   have:t.op=1:=by simpa using o1
   rw[this]; rfl
  simp only[o1,o4,ah,aO,ac,ax,aL];rcases p8:t.pc==8 with _ | _
  .simp only[ax,aL];rcases w0:t.own==0 with _ | _
   .have j0:(t.own != 0)=true:=by simp[bne,w0]
    simp only[go_sem,o1,o4,p8,j0,ac]
   have j0:(t.own != 0)=false:=by simp[bne,w0]
   simp only[go_sem,o1,o4,p8,j0,ah];try refine AAP ?_
   try simp only[go_sem,o1,p8]
   first | refine AAt _ APY ?_ | refine AAO _ APY fun _=>?_
   exact AJC
  .simp only[aO];simp only[go_sem,o1,p8];try refine AAP ?_
   try simp only[go_sem,o1,p8]
   first | refine AAt _ (by simpa only[go_sem,hm] using Lc w t 1 hf) ?_ | refine AAO _ (by simpa only[go_sem,hm] using Lc w t 1 hf) fun _=>?_
   rcases q1:NC w t 1 with _ | _
   .simp only[go_sem,q1,ac]
   have hin:Ae t.own 1 w.b.length=true:=by unfold NC at q1;rw[ar] at q1;exact q1.1
   obtain⟨q,hq,e3,e4⟩:=AA6 hlb hin;have hol:gX w t=(w.b[q].c0.l.length:Int):=by unfold gX; rw[e4,am hq]
   rw[hol];rcases l1:((w.b[q].c0.l.length:Int)==w.c0.slots) with _ | _
   .have j1:((w.b[q].c0.l.length:Int) != w.c0.slots)=true:=by simp only[bne,l1,aH]
    simp only[go_sem,q1,e3,AA _ hq,hq,j1,ah,ac]
   have j1:((w.b[q].c0.l.length:Int) != w.c0.slots)=false:=by simp only[bne,l1,aD]
   simp only[go_sem,q1,e3,AA _ hq,hq,j1,o1,ah];try refine AAP ?_
   try simp only[go_sem,o1]
   first | refine AAt _ APY ?_ | refine AAO _ APY fun _=>?_
   exact AJC
 simp only[o1,ac,ax,aL];rcases o4:t.op==4 with _ | _
 .simp only[ac,ax,aL];rcases w0:t.own==0 with _ | _
  .have j0:(t.own != 0)=true:=by simp[bne,w0]
   simp only[go_sem,o1,o4,j0,ac]
  have j0:(t.own != 0)=false:=by simp[bne,w0]
  rcases o2:t.op==2 with _ | _;rotate_left
  .simp only[aO,ah];simp only[go_sem,o1,o4,o2,j0];try refine AAP ?_
   try simp only[go_sem,o1,o2]
   first | refine AAt _ (by simpa only[go_sem,hm] using Sj w t d hf HT) ?_ | refine AAO _ (by simpa only[go_sem,hm] using Sj w t d hf HT) fun _=>?_
   exact AJC
  rcases o3:t.op==3 with _ | _;rotate_left
  .simp only[ax,aL,aO,ah];simp only[go_sem,o1,o4,o2,o3,j0];try refine AAP ?_
   try simp only[go_sem,o1,o2,o3]
   first | refine AAt _ (by simpa only[go_sem,hm] using Sv w t d hf HT) ?_ | refine AAO _ (by simpa only[go_sem,hm] using Sv w t d hf HT) fun _=>?_
   exact AJC
  simp only[ax,aL,ah];simp only[go_sem,o1,o4,o2,o3,j0];unfold wM;try refine AAP ?_
  try simp only[go_sem,o1,o4,o2,o3,j0]
  exact AIE
 .have o2:(t.op==2)=false:=by
   have:t.op=4:=by simpa using o4
   rw[this]; rfl
  have o3:(t.op==3)=false:=by
   have:t.op=4:=by simpa using o4
   rw[this]; rfl
  simp only[o2,o3,ah,ax,aL]
  have e45:Ae t.pc 4 5=((t.pc==4)||(t.pc==5)):=by
   unfold Ae;rcases p4:t.pc==4 with _ | _
   .rcases p5:t.pc==5 with _ | _
    .simp at p4 p5 ⊢; omega
    .simp at p5 ⊢; omega
   .simp at p4 ⊢; omega
  unfold wM;rcases h45:Ae t.pc 4 5 with _ | _
  .rw[h45] at e45;have p4:(t.pc==4)=false:=by rcases p:t.pc==4 with _ | _<;>simp[p] at e45 ⊢
   have p5:(t.pc==5)=false:=by rcases p:t.pc==5 with _ | _<;>simp[p] at e45 ⊢
   simp only[ax,aL];rcases w0:t.own==0 with _ | _
   .have j0:(t.own != 0)=true:=by simp[bne,w0]
    simp only[go_sem,o1,o4,p4,p5,j0,ac]
   have j0:(t.own != 0)=false:=by simp[bne,w0]
   simp only[go_sem,o1,o4,o2,o3,p4,p5,j0,ah];try refine AAP ?_
   try simp only[go_sem,o1,o4,o2,o3]
   exact AIE
  .rw[h45] at e45
   have hp:(t.pc==4)=true\/((t.pc==4)=false/\(t.pc==5)=true):=by
    rcases p:t.pc==4 with _ | _
    .rw[p,be] at e45;exact .inr ⟨rfl,e45.symm⟩
    .exact .inl rfl
   simp only[aO];rcases hp with p4 | ⟨p4,p5⟩;rotate_left;simp only[go_sem,o1,o4,p4,p5];rotate_left;simp only[go_sem,o1,o4,p4]
   all_goals
    try refine AAP ?_
    try simp only[go_sem,o1,o4,p4]
    first | refine AAt _ (by simpa only[go_sem,hm] using Lc w t 2 hf) ?_ | refine AAO _ (by simpa only[go_sem,hm] using Lc w t 2 hf) fun _=>?_
    rcases q1:NC w t 2 with _ | _
    .simp only[go_sem,q1,ac]
    simp only[go_sem,q1,o1,o4,o2,o3,ah]
    try refine AAP ?_
    try simp only[go_sem,o1,o4,o2,o3]
    exact AIE
