/- A part. -/
import Derived.Test.YtdagmocgcanknaaGreatZh
set_option linter.unusedSimpArgs false
set_option linter.unusedVariables false
set_option maxHeartbeats 4000000
set_option maxRecDepth 10000
open Go.Proofs.Tryz
namespace Go.Proofs.YtdagmocgcanknaaGreat
open Go.Vm
theorem AF5 (w:DWorld) (r:DRef):(lM w r).length<=12:=by
 unfold lM;split
 .exact Oq w r
 .exact aq _
theorem Y5 (w:DWorld) (hf:AU w):Ctr prog 91 [.agg w.c] [.val (.c (.v (.bool (gm w))))]:=by
 refine CM call91 func91 ntmps91 results91 fun hw=>?_;have hb:=lenD hf;unfold gm;simp only[go_sem];refine AAe 1 (A:=Nat) (fun x=>[(11,.c (.v (.int .i64 (x))))]) (fun _=>[⟨44,14,[w.c],true,true⟩]) (FW w.d.l (SX w)) (fun x=>w.d.l.length-x) 0 ⟨⟨rfl,rfl⟩,rfl,D9⟩ ?_;intro k hk;refine AOd (fun h=>?_) fun h=>?_
 .have hk':k<w.d.l.length:=by simpa using h
  simp only[go_sem,AA _ hk',hk'];try refine AAP ?_
  try simp only[go_sem,AA _ hk',hk']
  first | refine CY (Cf w w.d.l[k]) ?_ | refine CW (Cf w w.d.l[k]) fun _=>?_
  rcases h1:there w w.d.l[k] with _ | _
  .simp only[go_sem,h1,Ba (p:=SX w) hk' (by simp only[SX,h1,ac])]
  rcases h2:((w.d.l[k].kind==1)&&(w.d.l[k].many != w.c0.slots)) with _ | _;rotate_left
  .have hno:=Ba (p:=SX w) hk' (by simp only[SX,h1,h2]; rfl);simp only[ar] at h2;simp only[go_sem,h1,h2.1,h2.2,hno]
  have hgl:=AF5 w w.d.l[k];have hp1:SX w w.d.l[k]=(lM w w.d.l[k]).all fun x=>DY w.d.l[k] x.id:=by simp only[SX,h1,h2,aH,ah]
  have hgr:Ctr prog 184 [.agg w.c,.agg w.d.l[k].c] [.val (.c (.sl ((lM w w.d.l[k]).map DRow.c)))]:=IL w w.d.l[k] hf;have k2:(w.d.l[k].kind==1)=true->(w.d.l[k].many != w.c0.slots)=false:=fun k1=>by rw[k1,ah] at h2; exact h2
  rcases k1:w.d.l[k].kind==1 with _ | _;rotate_left
  .have k2:=k2 k1;simp only[go_sem,h1,k1,k2];exact AG8
  .simp only[go_sem,h1,k1];exact AG8
 .exact ANf
theorem U2 {α:Type} (p:α->Bool) (l:List α) {k:Nat} (h:k<l.length):(l.take (k+1)).countP p=(l.take k).countP p+if p l[k]=true then 1 else 0:=by rw[abE,am h,List.countP_append];simp[List.countP_cons]
theorem cnt_le {α:Type} (p:α->Bool) (l:List α) (k:Nat) (h:l.length<=1048576):(l.take k).countP p<=1048576:=by have h1:=List.countP_le_length (p:=p) (l:=l.take k);have h2:=List.length_take_le k l;have h3:(l.take k).length<=l.length:=AOn;omega
theorem Sl (w:DWorld) (hf:AU w):Ctr prog 96 [.agg w.c] [.val (.c (.v (.bool (Wh w))))]:=by
 refine CM call96 func96 ntmps96 results96 fun hw=>?_;have hb:=wQ hf;have hd:=lenD hf;have hx:=AHs hf;have htl:=Wi hf;unfold Wh;simp only[go_sem];refine AAe 1 (A:=Nat) (fun x=>[(15,.c (.v (.int .i64 (x))))]) (fun _=>[⟨44,14,[w.c],true,true⟩]) (wO w.b (Qn w)) (fun x=>w.b.length-x) 0 ⟨⟨rfl,rfl⟩,rfl,qJ⟩ ?_;intro k hk;refine AOd (fun h=>?_) fun h=>?_
 .have hk':k<w.b.length:=by simpa using h
  simp only[go_sem,AA _ hk',hk'];refine AAe 2 (A:=Nat) (fun x=>[(24,.c (.v (.int .i64 (x)))),(5,.c (.v (.int .i64 ((Qm (w.d.l.take x) k:Nat):Int))))]) (fun _=>[⟨44,14,[w.c],true,true⟩,⟨145,5,[w.b[k].c],true,true⟩]) (fun x=>x<=w.d.l.length) (fun x=>w.d.l.length-x) 0 ⟨⟨rfl,rfl⟩,rfl,aq _⟩ ?_;intro i1 hi1;refine AOd (fun h=>?_) fun h=>?_
  .have hi':i1<w.d.l.length:=by simpa using h
   have hn:=U2 (fun r:DRef=>r.buf==(k:Int)) w.d.l hi';have hle:=cnt_le (fun r:DRef=>r.buf==(k:Int)) w.d.l i1 hd;change Qm (w.d.l.take (i1+1)) k=Qm (w.d.l.take i1) k+_ at hn;change Qm (w.d.l.take i1) k<=_ at hle;rcases h1:w.d.l[i1].buf==(k:Int) with _ | _
   .rw[h1] at hn;simp only[go_sem,AA _ hi',hi',h1,wrap_i64 (n:=(i1:Int)+1) AOl AOl];exact⟨i1+1,⟨rfl,rfl⟩,by rw[hn]; rfl,hi',AOl⟩
   .rw[h1] at hn;simp only[go_sem,AA _ hi',hi',h1,wrap_i64 (n:=(i1:Int)+1) AOl AOl,wrap_i64 (n:=((Qm (w.d.l.take i1) k:Nat):Int)+1) AOl AOl];exact⟨i1+1,⟨rfl,rfl⟩,by rw[hn]; rfl,hi',AOl⟩
  have hi':i1=w.d.l.length:=AO1;subst hi';simp only[go_sem,aX];have hcd:Qm w.d.l k<=1048576:=by have:=cnt_le (fun r:DRef=>r.buf==(k:Int)) w.d.l w.d.l.length hd; rw[aX] at this; exact this
  refine AAe 2 (A:=Nat) (fun x=>[(38,.c (.v (.int .i64 (x)))),(5,.c (.v (.int .i64 ((Qm w.d.l k+(w.x.take x).countP (fun d:DDead=>d.buf==(k:Int)):Nat):Int))))]) (fun _=>[⟨44,14,[w.c],true,true⟩,⟨145,5,[w.b[k].c],true,true⟩]) (fun x=>x<=w.x.length) (fun x=>w.x.length-x) 0 ⟨⟨rfl,rfl⟩,rfl,aq _⟩ ?_;intro i2 hi2;refine AOd (fun h=>?_) fun h=>?_
  .have hi':i2<w.x.length:=by simpa using h
   have hn:=U2 (fun d:DDead=>d.buf==(k:Int)) w.x hi';have hle:=cnt_le (fun d:DDead=>d.buf==(k:Int)) w.x i2 hx;rcases h1:w.x[i2].buf==(k:Int) with _ | _
   .rw[h1] at hn;simp only[go_sem,AA _ hi',hi',h1,wrap_i64 (n:=(i2:Int)+1) AOl AOl];exact ALb
   .rw[h1] at hn;simp only[go_sem,AA _ hi',hi',h1,wrap_i64 (n:=(i2:Int)+1) AOl AOl,wrap_i64 (n:=((Qm w.d.l k+(w.x.take i2).countP (fun d:DDead=>d.buf==(k:Int)):Nat):Int)+1) AOl AOl];exact ALb
  have hi':i2=w.x.length:=AO1;subst hi';simp only[go_sem,aX];have hcx:w.x.countP (fun d:DDead=>d.buf==(k:Int))<=1048576:=by have:=cnt_le (fun d:DDead=>d.buf==(k:Int)) w.x w.x.length hx; rw[aX] at this; exact this
  have hk1:IntKind.i64.wrap ((k:Int)+1)=(k:Int)+1:=wrap_i64 AOl AOl;refine AAe 2 (A:=Nat) (fun x=>[(52,.c (.v (.int .i64 (x)))),(5,.c (.v (.int .i64 ((Qm w.d.l k+w.x.countP (fun d:DDead=>d.buf==(k:Int))+(w.tasks.take x).countP (fun t:DTask=>t.own==(k:Int)+1):Nat):Int))))]) (fun _=>[⟨44,14,[w.c],true,true⟩,⟨145,5,[w.b[k].c],true,true⟩]) (fun x=>x<=w.tasks.length) (fun x=>w.tasks.length-x) 0 ⟨⟨rfl,rfl⟩,rfl,aq _⟩ ?_;intro i3 hi3;refine AOd (fun h=>?_) fun h=>?_
  .have hi':i3<w.tasks.length:=by simpa using h
   have hn:=U2 (fun t:DTask=>t.own==(k:Int)+1) w.tasks hi';have hle:=cnt_le (fun t:DTask=>t.own==(k:Int)+1) w.tasks i3 htl;rcases h1:w.tasks[i3].own==(k:Int)+1 with _ | _
   .rw[h1] at hn;simp only[go_sem,AA _ hi',hi',hk1,h1,wrap_i64 (n:=(i3:Int)+1) AOl AOl];exact ALc
   .rw[h1] at hn;simp only[go_sem,AA _ hi',hi',hk1,h1,wrap_i64 (n:=(i3:Int)+1) AOl AOl,wrap_i64 (n:=((Qm w.d.l k+w.x.countP (fun d:DDead=>d.buf==(k:Int))+(w.tasks.take i3).countP (fun t:DTask=>t.own==(k:Int)+1):Nat):Int)+1) AOl AOl];exact ALc
  have hi':i3=w.tasks.length:=AO1;subst hi';simp only[go_sem,aX];have hp:Qn w k w.b[k]=Ql (((Qm w.d.l k+w.x.countP (fun d:DDead=>d.buf==(k:Int)))+w.tasks.countP (fun t:DTask=>t.own==(k:Int)+1):Nat):Int) w.b[k]:=by unfold Qn qH; rw[Nat.add_assoc]
  revert hp;generalize (((Qm w.d.l k+w.x.countP (fun d:DDead=>d.buf==(k:Int)))+w.tasks.countP (fun t:DTask=>t.own==(k:Int)+1):Nat):Int)=n;intro hp;unfold Ql at hp;rcases h1:w.b[k].kind==0 with _ | _
  .have g1:(w.b[k].kind != 0)=true:=by simp[bne,h1]
   rcases h2:n != 1 with _ | _
   .exact AMN
   .simp only[go_sem,h1,g1,h2,Je (p:=Qn w) hk' (by rw[hp,h1,g1,h2]; rfl)]
  .have g1:(w.b[k].kind != 0)=false:=by simp[bne,h1]
   rcases h2:decide (n>0) with _ | _
   .exact AMN
   .simp only[go_sem,h1,g1,h2,Je (p:=Qn w) hk' (by rw[hp,h1,g1,h2]; rfl)]
 .have hk':k=w.b.length:=by have:=hk.1; simp at h; omega
  subst hk';simp only[go_sem,Tq hk]
noncomputable def Qx (w:DWorld) (i:Nat) (b:DBuf):Bool:=Py w b&&U1 w i b
noncomputable def lQ (w:DWorld):Bool:=((w.b.length:Int)==w.c0.bufs)&&(Si w.b (Qx w)&&gp w)
theorem h_ (w:DWorld) (hf:AU w):Ctr prog 66 [.agg w.c] [.val (.c (.v (.bool (lQ w))))]:=by
 refine CM call66 func66 ntmps66 results66 fun hw=>?_;have hb:=wQ hf;have hd:=lenD hf;have hx:=AHs hf;have htl:=Wi hf;unfold lQ;rcases h0:((w.b.length:Int)==w.c0.bufs) with _ | _
 .exact ANU
 have g0:((w.b.length:Int) != w.c0.bufs)=false:=by simp only[bne,h0,aD]
 simp only[go_sem,g0,ah];refine AAe 1 (A:=Nat) (fun x=>[(3,.c (.v (.int .i64 (x))))]) (fun _=>[⟨44,14,[w.c],true,true⟩]) (wO w.b (Qx w)) (fun x=>w.b.length-x) 0 ⟨⟨rfl,rfl⟩,rfl,qJ⟩ ?_;intro k hk;refine AOd (fun h=>?_) fun h=>?_
 .have hk':k<w.b.length:=by simpa using h
  simp only[go_sem,AA _ hk',hk'];try refine AAP ?_
  try simp only[go_sem,AA _ hk',hk']
  first | refine CY (Y0 w.c0.cols w.b[k] (P6 hf hk') (TL hw.1 hk')) ?_ | refine CW (Y0 w.c0.cols w.b[k] (P6 hf hk') (TL hw.1 hk')) fun _=>?_
  rcases h1:gV w.c0.cols w.b[k] with _ | _
  .simp only[go_sem,h1,Je (p:=Qx w) hk' (by simp only[Qx,Py,h1,ac]),ac]
  simp only[go_sem,AA _ hk',hk',h1];have hs:=AJv hf hk';refine AAe 1 (A:=Nat) (fun x=>[(4,.c (.v (.int .i64 (x))))]) (fun _=>[⟨44,14,[w.c],true,true⟩]) (FW w.b[k].c0.l fun s=>!decide (s.ins>w.t)) (fun x=>w.b[k].c0.l.length-x) 0 ⟨⟨rfl,rfl⟩,rfl,D9⟩ ?_;intro j hj;simp only[go_sem,AA _ hk',hk'];try refine AAP ?_
  try simp only[go_sem,AA _ hk',hk']
  refine AAQ (fun h=>?_) (fun h=>?_)
  .have hj':j<w.b[k].c0.l.length:=by simpa using h
   simp only[go_sem,AA _ hk',hk',AA _ hj',hj'];try refine AAP ?_
   try simp only[go_sem,AA _ hk',hk',AA _ hj',hj']
   rcases h2:decide (w.b[k].c0.l[j].ins>w.t) with _ | _
   .simp only[go_sem,AA _ hk',hk',AA _ hj',hj',h2,wrap_i64 (n:=(j:Int)+1) AOl AOl];exact⟨j+1,⟨rfl,rfl⟩,rfl,CB hj' hj (by simp only[h2,aH]),AOl⟩
   .have hno:=Ba (p:=fun s:DSlot=>!decide (s.ins>w.t)) hj' (by simp only[h2,aD]);simp only[go_sem,AA _ hk',hk',AA _ hj',hj',h2,Je (p:=Qx w) hk' (by simp only[Qx,Py,hno,ay,ac]),ac]
  have hj':j=w.b[k].c0.l.length:=APM;subst hj';have hp1:Py w w.b[k]=true:=by simp only[Py,h1,DX hj,aw]
  simp only[go_sem];try refine AAP ?_
  try simp only[go_sem]
  first | refine CY (WZ w.d k hd) ?_ | refine CW (WZ w.d k hd) fun _=>?_
  obtain⟨c0,hc0,hcl⟩:∃ c0:Nat,c0=(if FC w.d.l k=true then 1 else 0)/\c0<=1:=⟨_,rfl,by split<;>omega⟩;have hpl:U1 w k w.b[k]=Ql ((c0+w.x.countP (fun d:DDead=>d.buf==(k:Int))+w.tasks.countP (fun t:DTask=>t.own==(k:Int)+1):Nat):Int) w.b[k]:=by unfold U1 qH; rw[hc0,Nat.add_assoc]
  have hcx:w.x.countP (fun d:DDead=>d.buf==(k:Int))<=1048576:=by have:=cnt_le (fun d:DDead=>d.buf==(k:Int)) w.x w.x.length hx; rw[aX] at this; exact this
  have hk1:IntKind.i64.wrap ((k:Int)+1)=(k:Int)+1:=wrap_i64 AOl AOl;rcases h2:FC w.d.l k with _ | _
  .simp only[go_sem,h2];simp only[h2,ax,aL,aO] at hc0;subst hc0;refine AAe 1 (A:=Nat) (fun x=>[(6,.c (.v (.int .i64 (x)))),(5,.c (.v (.int .i64 (((w.x.take x).countP (fun d:DDead=>d.buf==(k:Int)):Nat):Int))))]) (fun _=>[⟨44,14,[w.c],true,true⟩]) (fun x=>x<=w.x.length) (fun x=>w.x.length-x) 0 ⟨⟨rfl,rfl⟩,rfl,aq _⟩ ?_;intro i2 hi2;refine AOd (fun h=>?_) fun h=>?_
   .have hi':i2<w.x.length:=by simpa using h
    have hn:=U2 (fun d:DDead=>d.buf==(k:Int)) w.x hi';have hle:=cnt_le (fun d:DDead=>d.buf==(k:Int)) w.x i2 hx;rcases h3:w.x[i2].buf==(k:Int) with _ | _
    .exact ALY
    .rw[h3] at hn;simp only[go_sem,AA _ hi',hi',h3];try refine AAP ?_
     try simp only[go_sem,AA _ hi',hi',h3]
     simp only[go_sem,wrap_i64 (n:=(i2:Int)+1) AOl AOl,wrap_i64 (n:=(((w.x.take i2).countP (fun d:DDead=>d.buf==(k:Int)):Nat):Int)+1) AOl AOl];exact ALb
   have hi':i2=w.x.length:=AO1;subst hi';simp only[go_sem,aX];refine AAe 1 (A:=Nat) (fun x=>[(7,.c (.v (.int .i64 (x)))),(5,.c (.v (.int .i64 ((w.x.countP (fun d:DDead=>d.buf==(k:Int))+(w.tasks.take x).countP (fun t:DTask=>t.own==(k:Int)+1):Nat):Int))))]) (fun _=>[⟨44,14,[w.c],true,true⟩]) (fun x=>x<=w.tasks.length) (fun x=>w.tasks.length-x) 0 ⟨⟨rfl,rfl⟩,rfl,aq _⟩ ?_;intro i3 hi3;refine AOd (fun h=>?_) fun h=>?_
   .have hi':i3<w.tasks.length:=by simpa using h
    have hn:=U2 (fun t:DTask=>t.own==(k:Int)+1) w.tasks hi';have hle:=cnt_le (fun t:DTask=>t.own==(k:Int)+1) w.tasks i3 htl;rcases h3:w.tasks[i3].own==(k:Int)+1 with _ | _
    .exact ALU
    .rw[h3] at hn;simp only[go_sem,AA _ hi',hi',hk1,h3];try refine AAP ?_
     try simp only[go_sem,AA _ hi',hi',hk1,h3]
     simp only[go_sem,wrap_i64 (n:=(i3:Int)+1) AOl AOl,wrap_i64 (n:=((w.x.countP (fun d:DDead=>d.buf==(k:Int))+(w.tasks.take i3).countP (fun t:DTask=>t.own==(k:Int)+1):Nat):Int)+1) AOl AOl];exact ALc
   have hi':i3=w.tasks.length:=AO1;subst hi';simp only[go_sem,aX];rw[nY] at hpl;have hn0:=Int.natCast_nonneg (w.x.countP (fun d:DDead=>d.buf==(k:Int))+w.tasks.countP (fun t:DTask=>t.own==(k:Int)+1));revert hpl hn0;generalize ((w.x.countP (fun d:DDead=>d.buf==(k:Int))+w.tasks.countP (fun t:DTask=>t.own==(k:Int)+1):Nat):Int)=n;exact AHA
  .simp only[go_sem,h2];simp only[h2,ax,aL,aO] at hc0;subst hc0;refine AAe 1 (A:=Nat) (fun x=>[(6,.c (.v (.int .i64 (x)))),(5,.c (.v (.int .i64 ((1+(w.x.take x).countP (fun d:DDead=>d.buf==(k:Int)):Nat):Int))))]) (fun _=>[⟨44,14,[w.c],true,true⟩]) (fun x=>x<=w.x.length) (fun x=>w.x.length-x) 0 ⟨⟨rfl,rfl⟩,rfl,aq _⟩ ?_;intro i2 hi2;refine AOd (fun h=>?_) fun h=>?_
   .have hi':i2<w.x.length:=by simpa using h
    have hn:=U2 (fun d:DDead=>d.buf==(k:Int)) w.x hi';have hle:=cnt_le (fun d:DDead=>d.buf==(k:Int)) w.x i2 hx;rcases h3:w.x[i2].buf==(k:Int) with _ | _
    .exact ALY
    .rw[h3] at hn;simp only[go_sem,AA _ hi',hi',h3];try refine AAP ?_
     try simp only[go_sem,AA _ hi',hi',h3]
     simp only[go_sem,wrap_i64 (n:=(i2:Int)+1) AOl AOl,wrap_i64 (n:=((1+(w.x.take i2).countP (fun d:DDead=>d.buf==(k:Int)):Nat):Int)+1) AOl AOl];exact ALb
   have hi':i2=w.x.length:=AO1;subst hi';simp only[go_sem,aX];refine AAe 1 (A:=Nat) (fun x=>[(7,.c (.v (.int .i64 (x)))),(5,.c (.v (.int .i64 ((1+w.x.countP (fun d:DDead=>d.buf==(k:Int))+(w.tasks.take x).countP (fun t:DTask=>t.own==(k:Int)+1):Nat):Int))))]) (fun _=>[⟨44,14,[w.c],true,true⟩]) (fun x=>x<=w.tasks.length) (fun x=>w.tasks.length-x) 0 ⟨⟨rfl,rfl⟩,rfl,aq _⟩ ?_;intro i3 hi3;refine AOd (fun h=>?_) fun h=>?_
   .have hi':i3<w.tasks.length:=by simpa using h
    have hn:=U2 (fun t:DTask=>t.own==(k:Int)+1) w.tasks hi';have hle:=cnt_le (fun t:DTask=>t.own==(k:Int)+1) w.tasks i3 htl;rcases h3:w.tasks[i3].own==(k:Int)+1 with _ | _
    .exact ALU
    .rw[h3] at hn;simp only[go_sem,AA _ hi',hi',hk1,h3];try refine AAP ?_
     try simp only[go_sem,AA _ hi',hi',hk1,h3]
     simp only[go_sem,wrap_i64 (n:=(i3:Int)+1) AOl AOl,wrap_i64 (n:=((1+w.x.countP (fun d:DDead=>d.buf==(k:Int))+(w.tasks.take i3).countP (fun t:DTask=>t.own==(k:Int)+1):Nat):Int)+1) AOl AOl];exact ALc
   have hi':i3=w.tasks.length:=AO1;subst hi';simp only[go_sem,aX];have:=hcl;have hn0:=Int.natCast_nonneg (1+w.x.countP (fun d:DDead=>d.buf==(k:Int))+w.tasks.countP (fun t:DTask=>t.own==(k:Int)+1));revert hpl hn0;generalize ((1+w.x.countP (fun d:DDead=>d.buf==(k:Int))+w.tasks.countP (fun t:DTask=>t.own==(k:Int)+1):Nat):Int)=n;exact AHA
 .have hk':k=w.b.length:=by have:=hk.1; simp at h; omega
  subst hk';simp only[go_sem,Tq hk,ah];refine AAe 1 (A:=Nat) (fun x=>[(8,.c (.v (.int .i64 (x))))]) (fun _=>[⟨44,14,[w.c],true,true⟩]) (FW w.x (ML w)) (fun x=>w.x.length-x) 0 ⟨⟨rfl,rfl⟩,rfl,D9⟩ ?_;intro j hj;unfold gp;refine AOd (fun h=>?_) fun h=>?_
  .have hj':j<w.x.length:=by simpa using h
   simp only[go_sem,AA _ hj',hj'];refine AAP ?_;have hwb:IntKind.i64.wrap ((w.b.length:Int)-1)=(w.b.length:Int)-1:=wrap_i64 AOl AOl;simp only[go_sem,AA _ hj',hj',hwb];refine AAt _ (AP w.x[j].buf 0 _) ?_;rcases DZ w w.x[j].buf with ⟨m,hm,hbm,hat⟩ | ⟨hbm,hat⟩
   .have e1:Ae (m:Int) 0 ((w.b.length:Int)-1)=true:=by simp[Ae]; omega
    rcases h1:w.b[m].gen==w.x[j].gen with _ | _
    .have g1:(w.b[m].gen != w.x[j].gen)=true:=by simp[bne,h1]
     simp only[go_sem,AA _ hj',hj',e1,hbm,AA _ hm,hm,g1,Ba (p:=ML w) hj' (by simp only[ML,hat,h1,ac])]
    have g1:(w.b[m].gen != w.x[j].gen)=false:=AQf;simp only[go_sem,AA _ hj',hj',e1,hbm,AA _ hm,hm,g1];refine AAt _ (AP w.x[j].at0 0 w.e) ?_;rcases h2:Ae w.x[j].at0 0 w.e with _ | _
    .simp only[go_sem,h2,Ba (p:=ML w) hj' (by simp only[ML,hat,h1,h2,ay])]
    .simp only[go_sem,h2,wrap_i64 (n:=(j:Int)+1) AOl AOl];exact⟨j+1,⟨rfl,rfl⟩,rfl,CB hj' hj (by simp only[ML,hat,h1,h2,aw]),AOl⟩
   .have e1:Ae w.x[j].buf 0 ((w.b.length:Int)-1)=false:=by
     unfold Ae;rw[Bool.and_eq_false_iff];by_cases h0:0<=w.x[j].buf
     .right; simp; omega
     .left; simp; omega
    simp only[go_sem,AA _ hj',hj',e1,Ba (p:=ML w) hj' (by simp only[ML,hat])]
  .have hj':j=w.x.length:=by have:=hj.1; simp at h; omega
   subst hj';simp only[go_sem,DX hj]
noncomputable def Wj (w:DWorld) (r:DRef):Bool:=there w r&&(if(r.kind==1)=true then r.many==w.c0.slots else(Dc w r).all fun x=>Ae x.id r.first (IntKind.i64.wrap (IntKind.i64.wrap (r.first+r.many)-1)))
theorem lS (w:DWorld) (hf:AU w):Ctr prog 67 [.agg w.c] [.val (.c (.v (.bool (w.d.l.all (Wj w)))))]:=by
 refine CM call67 func67 ntmps67 results67 fun hw=>?_;have hd:=lenD hf;simp only[go_sem];refine AAe 1 (A:=Nat) (fun x=>[(3,.c (.v (.int .i64 (x))))]) (fun _=>[⟨44,14,[w.c],true,true⟩]) (FW w.d.l (Wj w)) (fun x=>w.d.l.length-x) 0 ⟨⟨rfl,rfl⟩,rfl,D9⟩ ?_;intro k hk;refine AOd (fun h=>?_) fun h=>?_
 .have hk':k<w.d.l.length:=by simpa using h
  simp only[go_sem,AA _ hk',hk'];try refine AAP ?_
  try simp only[go_sem,AA _ hk',hk']
  first | refine CY (Iy w w.d.l[k]) ?_ | refine CW (Iy w w.d.l[k]) fun _=>?_
  rcases h1:there w w.d.l[k] with _ | _
  .simp only[go_sem,h1,Ba (p:=Wj w) hk' (by simp only[Wj,h1,ac])]
  rcases k1:w.d.l[k].kind==1 with _ | _;rotate_left
  .rcases k2:w.d.l[k].many==w.c0.slots with _ | _
   .have g2:(w.d.l[k].many != w.c0.slots)=true:=by simp[bne,k2]
    simp only[go_sem,h1,k1,k2,g2,Ba (p:=Wj w) hk' (by simp only[Wj,h1,k1,k2,aO,ay])]
   .have g2:(w.d.l[k].many != w.c0.slots)=false:=by simp[bne,k2]
    simp only[go_sem,h1,k1,k2,g2,wrap_i64 (n:=(k:Int)+1) AOl AOl];exact⟨k+1,⟨rfl,rfl⟩,rfl,CB hk' hk (by simp only[Wj,h1,k1,k2,aO,aw]),AOl⟩
  obtain⟨m,hm,hbm,hat⟩ | ⟨hbm,hat⟩:=DZ w w.d.l[k].buf;rotate_left
  .simp only[there,hat] at h1;cases h1
  have hgl:=Oq w w.d.l[k];have hd1:Wj w w.d.l[k]=(Dc w w.d.l[k]).all fun x=>Ae x.id w.d.l[k].first (IntKind.i64.wrap (IntKind.i64.wrap (w.d.l[k].first+w.d.l[k].many)-1)):=by simp only[Wj,h1,k1,ax,aL,ah]
  simp only[go_sem,h1,k1];try refine AAP ?_
  try simp only[go_sem,h1,k1]
  first | refine CY (LQ w w.d.l[k] hf hm hbm) ?_ | refine CW (LQ w w.d.l[k] hf hm hbm) fun _=>?_
  simp only[go_sem];refine AAe 2 (A:=Nat) (fun x=>[(6,.c (.v (.int .i64 (x))))]) (fun _=>[⟨44,14,[w.c],true,true⟩,⟨139,5,[w.d.l[k].c],true,true⟩]) (FW (Dc w w.d.l[k]) fun x=>Ae x.id w.d.l[k].first (IntKind.i64.wrap (IntKind.i64.wrap (w.d.l[k].first+w.d.l[k].many)-1))) (fun x=>(Dc w w.d.l[k]).length-x) 0 ⟨⟨rfl,rfl⟩,rfl,D9⟩ ?_;intro j hj;refine AOd (fun h=>?_) fun h=>?_
  .have hj':j<(Dc w w.d.l[k]).length:=by simpa using h
   simp only[go_sem,AA _ hj',hj'];try refine AAP ?_
   try simp only[go_sem,AA _ hj',hj']
   first | refine AAt _ (AP (Dc w w.d.l[k])[j].id w.d.l[k].first _) ?_ | refine AAO _ (AP (Dc w w.d.l[k])[j].id w.d.l[k].first _) fun _=>?_
   rcases h3:Ae (Dc w w.d.l[k])[j].id w.d.l[k].first (IntKind.i64.wrap (IntKind.i64.wrap (w.d.l[k].first+w.d.l[k].many)-1)) with _ | _
   .simp only[go_sem,h3,Ba (p:=Wj w) hk' (by rw[hd1]; exact Ba (p:=fun x:DRow=>Ae x.id w.d.l[k].first (IntKind.i64.wrap (IntKind.i64.wrap (w.d.l[k].first+w.d.l[k].many)-1))) hj' h3)]
   .simp only[go_sem,h3,wrap_i64 (n:=(j:Int)+1) AOl AOl];exact⟨j+1,⟨rfl,rfl⟩,rfl,CB hj' hj h3,AOl⟩
  .have hj':j=(Dc w w.d.l[k]).length:=by have:=hj.1; simp at h; omega
   subst hj';simp only[go_sem,wrap_i64 (n:=(k:Int)+1) AOl AOl];exact⟨k+1,⟨rfl,rfl⟩,rfl,CB hk' hk (by rw[hd1]; exact DX hj),AOl⟩
 .exact ANf
