/- A part. -/
import Derived.Test.YthmifbbmgnhddaaGreatXb
import Derived.Test.YthmifbbmgnhddaaGreatZr
set_option linter.unusedSimpArgs false
set_option linter.unusedVariables false
set_option maxHeartbeats 8000000
set_option maxRecDepth 10000
open Go.Proofs.Tryz
namespace Go.Proofs.YthmifbbmgnhddaaGreat
open Go.Vm
theorem AHg (w:DWorld) (r:DRef):(o6 w r).length≤12:=by
 unfold o6
 split
 ·exact d_ w r
 ·exact au _
theorem ZL (w:DWorld) (hf:AZ w):Ctr prog 129 [.agg w.c] [.val (.c (.v (.bool (ji w))))]:=by
 refine CM call129 func129 ntmps129 results129 fun hw=>?_
 have hb:=lenD hf
 unfold ji
 simp only[go_sem]
 refine AAT 1 (A:=Nat) (fun x=>[(11,.c (.v (.int .i64 (x))))]) (fun _=>[⟨46,14,[w.c],true,true⟩]) (Gp w.d.l (TZ w)) (fun x=>w.d.l.length-x) 0 ⟨⟨rfl,rfl⟩,rfl,EL⟩ ?_
 intro k hk
 refine AQx (fun h=>?_) fun h=>?_
 ·have hk':k<w.d.l.length:=by simpa using h
  simp only[go_sem,AA _ hk',hk']
  try refine AAO ?_
  try simp only[go_sem,AA _ hk',hk']
  first | refine CY (Fz w w.d.l[k]) ?_ | refine CW (Fz w w.d.l[k]) fun _=>?_
  rcases h1:there w w.d.l[k] with _ | _
  ·simp only[go_sem,h1,BP (p:=TZ w) hk' (by simp only[TZ,h1,ag])]
  rcases h2:((w.d.l[k].kind==1)&&(w.d.l[k].many != w.c0.slots)) with _ | _
  rotate_left
  ·have hno:=BP (p:=TZ w) hk' (by simp only[TZ,h1,h2]; rfl)
   simp only[az] at h2
   simp only[go_sem,h1,h2.1,h2.2,hno]
  have hgl:=AHg w w.d.l[k]
  have hp1:TZ w w.d.l[k]=(o6 w w.d.l[k]).all fun x=>DT w.d.l[k] x.id:=by simp only[TZ,h1,h2,aH,ah]
  have hgr:Ctr prog 244 [.agg w.c,.agg w.d.l[k].c] [.val (.c (.sl ((o6 w w.d.l[k]).map DRow.c)))]:=NQ w w.d.l[k] hf
  have k2:(w.d.l[k].kind==1)=true→(w.d.l[k].many != w.c0.slots)=false:=fun k1=>by rw[k1,ah] at h2; exact h2
  rcases k1:w.d.l[k].kind==1 with _ | _
  rotate_left
  ·have k2:=k2 k1
   simp only[go_sem,h1,k1,k2]
   exact AGT
  ·simp only[go_sem,h1,k1]
   exact AGT
 ·exact AP4
theorem VX {α:Type} (p:α→Bool) (l:List α) {k:Nat} (h:k<l.length):(l.take (k+1)).countP p=(l.take k).countP p+if p l[k]=true then 1 else 0:=by
 rw[abR,aC h,List.countP_append]
 simp[List.countP_cons]
theorem cnt_le {α:Type} (p:α→Bool) (l:List α) (k:Nat) (h:l.length≤1048576):(l.take k).countP p≤1048576:=by
 have h1:=List.countP_le_length (p:=p) (l:=l.take k)
 have h2:=List.length_take_le k l
 have h3:(l.take k).length≤l.length:=AQ5
 omega
theorem Sm (w:DWorld) (hf:AZ w):Ctr prog 134 [.agg w.c] [.val (.c (.v (.bool (Xl w))))]:=by
 refine CM call134 func134 ntmps134 results134 fun hw=>?_
 have hb:=zX hf
 have hd:=lenD hf
 have hx:=AKi hf
 have htl:=Xm hf
 unfold Xl
 simp only[go_sem]
 refine AAT 1 (A:=Nat) (fun x=>[(15,.c (.v (.int .i64 (x))))]) (fun _=>[⟨46,14,[w.c],true,true⟩]) (zV w.b (RG w)) (fun x=>w.b.length-x) 0 ⟨⟨rfl,rfl⟩,rfl,uJ⟩ ?_
 intro k hk
 refine AQx (fun h=>?_) fun h=>?_
 ·have hk':k<w.b.length:=by simpa using h
  simp only[go_sem,AA _ hk',hk']
  refine AAT 2 (A:=Nat) (fun x=>[(24,.c (.v (.int .i64 (x)))),(5,.c (.v (.int .i64 ((RF (w.d.l.take x) k:Nat):Int))))]) (fun _=>[⟨46,14,[w.c],true,true⟩,⟨170,5,[w.b[k].c],true,true⟩]) (fun x=>x≤w.d.l.length) (fun x=>w.d.l.length-x) 0 ⟨⟨rfl,rfl⟩,rfl,au _⟩ ?_
  intro i1 hi1
  refine AQx (fun h=>?_) fun h=>?_
  ·have hi':i1<w.d.l.length:=by simpa using h
   have hn:=VX (fun r:DRef=>r.buf==(k:Int)) w.d.l hi'
   have hle:=cnt_le (fun r:DRef=>r.buf==(k:Int)) w.d.l i1 hd
   change RF (w.d.l.take (i1+1)) k=RF (w.d.l.take i1) k+_ at hn
   change RF (w.d.l.take i1) k≤_ at hle
   rcases h1:w.d.l[i1].buf==(k:Int) with _ | _
   ·rw[h1] at hn
    simp only[go_sem,AA _ hi',hi',h1,wrap_i64 (n:=(i1:Int)+1) AQ2 AQ2]
    exact⟨i1+1,⟨rfl,rfl⟩,by rw[hn]; rfl,hi',AQ2⟩
   ·rw[h1] at hn
    simp only[go_sem,AA _ hi',hi',h1,wrap_i64 (n:=(i1:Int)+1) AQ2 AQ2,wrap_i64 (n:=((RF (w.d.l.take i1) k:Nat):Int)+1) AQ2 AQ2]
    exact⟨i1+1,⟨rfl,rfl⟩,by rw[hn]; rfl,hi',AQ2⟩
  have hi':i1=w.d.l.length:=ARD
  subst hi'
  simp only[go_sem,bP]
  have hcd:RF w.d.l k≤1048576:=by have:=cnt_le (fun r:DRef=>r.buf==(k:Int)) w.d.l w.d.l.length hd; rw[bP] at this; exact this
  refine AAT 2 (A:=Nat) (fun x=>[(38,.c (.v (.int .i64 (x)))),(5,.c (.v (.int .i64 ((RF w.d.l k+(w.x.take x).countP (fun d:DDead=>d.buf==(k:Int)):Nat):Int))))]) (fun _=>[⟨46,14,[w.c],true,true⟩,⟨170,5,[w.b[k].c],true,true⟩]) (fun x=>x≤w.x.length) (fun x=>w.x.length-x) 0 ⟨⟨rfl,rfl⟩,rfl,au _⟩ ?_
  intro i2 hi2
  refine AQx (fun h=>?_) fun h=>?_
  ·have hi':i2<w.x.length:=by simpa using h
   have hn:=VX (fun d:DDead=>d.buf==(k:Int)) w.x hi'
   have hle:=cnt_le (fun d:DDead=>d.buf==(k:Int)) w.x i2 hx
   rcases h1:w.x[i2].buf==(k:Int) with _ | _
   ·rw[h1] at hn
    simp only[go_sem,AA _ hi',hi',h1,wrap_i64 (n:=(i2:Int)+1) AQ2 AQ2]
    exact AOC
   ·rw[h1] at hn
    simp only[go_sem,AA _ hi',hi',h1,wrap_i64 (n:=(i2:Int)+1) AQ2 AQ2,wrap_i64 (n:=((RF w.d.l k+(w.x.take i2).countP (fun d:DDead=>d.buf==(k:Int)):Nat):Int)+1) AQ2 AQ2]
    exact AOC
  have hi':i2=w.x.length:=ARD
  subst hi'
  simp only[go_sem,bP]
  have hcx:w.x.countP (fun d:DDead=>d.buf==(k:Int))≤1048576:=by have:=cnt_le (fun d:DDead=>d.buf==(k:Int)) w.x w.x.length hx; rw[bP] at this; exact this
  have hk1:IntKind.i64.wrap ((k:Int)+1)=(k:Int)+1:=wrap_i64 AQ2 AQ2
  refine AAT 2 (A:=Nat) (fun x=>[(52,.c (.v (.int .i64 (x)))),(5,.c (.v (.int .i64 ((RF w.d.l k+w.x.countP (fun d:DDead=>d.buf==(k:Int))+(w.tasks.take x).countP (fun t:DTask=>t.own==(k:Int)+1):Nat):Int))))]) (fun _=>[⟨46,14,[w.c],true,true⟩,⟨170,5,[w.b[k].c],true,true⟩]) (fun x=>x≤w.tasks.length) (fun x=>w.tasks.length-x) 0 ⟨⟨rfl,rfl⟩,rfl,au _⟩ ?_
  intro i3 hi3
  refine AQx (fun h=>?_) fun h=>?_
  ·have hi':i3<w.tasks.length:=by simpa using h
   have hn:=VX (fun t:DTask=>t.own==(k:Int)+1) w.tasks hi'
   have hle:=cnt_le (fun t:DTask=>t.own==(k:Int)+1) w.tasks i3 htl
   rcases h1:w.tasks[i3].own==(k:Int)+1 with _ | _
   ·rw[h1] at hn
    simp only[go_sem,AA _ hi',hi',hk1,h1,wrap_i64 (n:=(i3:Int)+1) AQ2 AQ2]
    exact AOD
   ·rw[h1] at hn
    simp only[go_sem,AA _ hi',hi',hk1,h1,wrap_i64 (n:=(i3:Int)+1) AQ2 AQ2,wrap_i64 (n:=((RF w.d.l k+w.x.countP (fun d:DDead=>d.buf==(k:Int))+(w.tasks.take i3).countP (fun t:DTask=>t.own==(k:Int)+1):Nat):Int)+1) AQ2 AQ2]
    exact AOD
  have hi':i3=w.tasks.length:=ARD
  subst hi'
  simp only[go_sem,bP]
  have hp:RG w k w.b[k]=RD (((RF w.d.l k+w.x.countP (fun d:DDead=>d.buf==(k:Int)))+w.tasks.countP (fun t:DTask=>t.own==(k:Int)+1):Nat):Int) w.b[k]:=by unfold RG uH; rw[Nat.add_assoc]
  revert hp
  generalize (((RF w.d.l k+w.x.countP (fun d:DDead=>d.buf==(k:Int)))+w.tasks.countP (fun t:DTask=>t.own==(k:Int)+1):Nat):Int)=n
  intro hp
  unfold RD at hp
  rcases h1:w.b[k].kind==0 with _ | _
  ·have g1:(w.b[k].kind != 0)=true:=by simp[bne,h1]
   rcases h2:n != 1 with _ | _
   ·exact AOv
   ·simp only[go_sem,h1,g1,h2,Jk (p:=RG w) hk' (by rw[hp,h1,g1,h2]; rfl)]
  ·have g1:(w.b[k].kind != 0)=false:=by simp[bne,h1]
   rcases h2:decide (n>0) with _ | _
   ·exact AOv
   ·simp only[go_sem,h1,g1,h2,Jk (p:=RG w) hk' (by rw[hp,h1,g1,h2]; rfl)]
 ·have hk':k=w.b.length:=by have:=hk.1; simp at h; omega
  subst hk'
  simp only[go_sem,UX hk]
noncomputable def Rt (w:DWorld) (i:Nat) (b:DBuf):Bool:=QK w b&&Vr w i b
noncomputable def nV (w:DWorld):Bool:=((w.b.length:Int)==w.c0.bufs)&&(Td w.b (Rt w)&&jk w)
theorem iP (w:DWorld) (hf:AZ w):Ctr prog 112 [.agg w.c] [.val (.c (.v (.bool (nV w))))]:=by
 refine CM call112 func112 ntmps112 results112 fun hw=>?_
 have hb:=zX hf
 have hd:=lenD hf
 have hx:=AKi hf
 have htl:=Xm hf
 unfold nV
 rcases h0:((w.b.length:Int)==w.c0.bufs) with _ | _
 ·exact APu
 have g0:((w.b.length:Int) != w.c0.bufs)=false:=by simp only[bne,h0,aO]
 simp only[go_sem,g0,ah]
 refine AAT 1 (A:=Nat) (fun x=>[(3,.c (.v (.int .i64 (x))))]) (fun _=>[⟨46,14,[w.c],true,true⟩]) (zV w.b (Rt w)) (fun x=>w.b.length-x) 0 ⟨⟨rfl,rfl⟩,rfl,uJ⟩ ?_
 intro k hk
 refine AQx (fun h=>?_) fun h=>?_
 ·have hk':k<w.b.length:=by simpa using h
  simp only[go_sem,AA _ hk',hk']
  try refine AAO ?_
  try simp only[go_sem,AA _ hk',hk']
  first | refine CY (Zh w.c0.cols w.b[k] (QM hf hk') (UW hw.1 hk')) ?_ | refine CW (Zh w.c0.cols w.b[k] (QM hf hk') (UW hw.1 hk')) fun _=>?_
  rcases h1:je w.c0.cols w.b[k] with _ | _
  ·simp only[go_sem,h1,Jk (p:=Rt w) hk' (by simp only[Rt,QK,h1,ag]),ag]
  simp only[go_sem,AA _ hk',hk',h1]
  have hs:=AMm hf hk'
  refine AAT 1 (A:=Nat) (fun x=>[(4,.c (.v (.int .i64 (x))))]) (fun _=>[⟨46,14,[w.c],true,true⟩]) (Gp w.b[k].c0.l fun s=>!decide (s.ins>w.t)) (fun x=>w.b[k].c0.l.length-x) 0 ⟨⟨rfl,rfl⟩,rfl,EL⟩ ?_
  intro j hj
  simp only[go_sem,AA _ hk',hk']
  try refine AAO ?_
  try simp only[go_sem,AA _ hk',hk']
  refine AAP (fun h=>?_) (fun h=>?_)
  ·have hj':j<w.b[k].c0.l.length:=by simpa using h
   simp only[go_sem,AA _ hk',hk',AA _ hj',hj']
   try refine AAO ?_
   try simp only[go_sem,AA _ hk',hk',AA _ hj',hj']
   rcases h2:decide (w.b[k].c0.l[j].ins>w.t) with _ | _
   ·simp only[go_sem,AA _ hk',hk',AA _ hj',hj',h2,wrap_i64 (n:=(j:Int)+1) AQ2 AQ2]
    exact⟨j+1,⟨rfl,rfl⟩,rfl,Bv hj' hj (by simp only[h2,aH]),AQ2⟩
   ·have hno:=BP (p:=fun s:DSlot=>!decide (s.ins>w.t)) hj' (by simp only[h2,aO])
    simp only[go_sem,AA _ hk',hk',AA _ hj',hj',h2,Jk (p:=Rt w) hk' (by simp only[Rt,QK,hno,aK,ag]),ag]
  have hj':j=w.b[k].c0.l.length:=ARX
  subst hj'
  have hp1:QK w w.b[k]=true:=by simp only[QK,h1,DR hj,aF]
  simp only[go_sem]
  try refine AAO ?_
  try simp only[go_sem]
  first | refine CY (Xe w.d k hd) ?_ | refine CW (Xe w.d k hd) fun _=>?_
  obtain⟨c0,hc0,hcl⟩:∃ c0:Nat,c0=(if Ew w.d.l k=true then 1 else 0)∧c0≤1:=⟨_,rfl,by split<;>omega⟩
  have hpl:Vr w k w.b[k]=RD ((c0+w.x.countP (fun d:DDead=>d.buf==(k:Int))+w.tasks.countP (fun t:DTask=>t.own==(k:Int)+1):Nat):Int) w.b[k]:=by unfold Vr uH; rw[hc0,Nat.add_assoc]
  have hcx:w.x.countP (fun d:DDead=>d.buf==(k:Int))≤1048576:=by have:=cnt_le (fun d:DDead=>d.buf==(k:Int)) w.x w.x.length hx; rw[bP] at this; exact this
  have hk1:IntKind.i64.wrap ((k:Int)+1)=(k:Int)+1:=wrap_i64 AQ2 AQ2
  rcases h2:Ew w.d.l k with _ | _
  ·simp only[go_sem,h2]
   simp only[h2,ay,aY,bH] at hc0
   subst hc0
   refine AAT 1 (A:=Nat) (fun x=>[(6,.c (.v (.int .i64 (x)))),(5,.c (.v (.int .i64 (((w.x.take x).countP (fun d:DDead=>d.buf==(k:Int)):Nat):Int))))]) (fun _=>[⟨46,14,[w.c],true,true⟩]) (fun x=>x≤w.x.length) (fun x=>w.x.length-x) 0 ⟨⟨rfl,rfl⟩,rfl,au _⟩ ?_
   intro i2 hi2
   refine AQx (fun h=>?_) fun h=>?_
   ·have hi':i2<w.x.length:=by simpa using h
    have hn:=VX (fun d:DDead=>d.buf==(k:Int)) w.x hi'
    have hle:=cnt_le (fun d:DDead=>d.buf==(k:Int)) w.x i2 hx
    rcases h3:w.x[i2].buf==(k:Int) with _ | _
    ·exact AOA
    ·rw[h3] at hn
     simp only[go_sem,AA _ hi',hi',h3]
     try refine AAO ?_
     try simp only[go_sem,AA _ hi',hi',h3]
     simp only[go_sem,wrap_i64 (n:=(i2:Int)+1) AQ2 AQ2,wrap_i64 (n:=(((w.x.take i2).countP (fun d:DDead=>d.buf==(k:Int)):Nat):Int)+1) AQ2 AQ2]
     exact AOC
   have hi':i2=w.x.length:=ARD
   subst hi'
   simp only[go_sem,bP]
   refine AAT 1 (A:=Nat) (fun x=>[(7,.c (.v (.int .i64 (x)))),(5,.c (.v (.int .i64 ((w.x.countP (fun d:DDead=>d.buf==(k:Int))+(w.tasks.take x).countP (fun t:DTask=>t.own==(k:Int)+1):Nat):Int))))]) (fun _=>[⟨46,14,[w.c],true,true⟩]) (fun x=>x≤w.tasks.length) (fun x=>w.tasks.length-x) 0 ⟨⟨rfl,rfl⟩,rfl,au _⟩ ?_
   intro i3 hi3
   refine AQx (fun h=>?_) fun h=>?_
   ·have hi':i3<w.tasks.length:=by simpa using h
    have hn:=VX (fun t:DTask=>t.own==(k:Int)+1) w.tasks hi'
    have hle:=cnt_le (fun t:DTask=>t.own==(k:Int)+1) w.tasks i3 htl
    rcases h3:w.tasks[i3].own==(k:Int)+1 with _ | _
    ·exact AN6
    ·rw[h3] at hn
     simp only[go_sem,AA _ hi',hi',hk1,h3]
     try refine AAO ?_
     try simp only[go_sem,AA _ hi',hi',hk1,h3]
     simp only[go_sem,wrap_i64 (n:=(i3:Int)+1) AQ2 AQ2,wrap_i64 (n:=((w.x.countP (fun d:DDead=>d.buf==(k:Int))+(w.tasks.take i3).countP (fun t:DTask=>t.own==(k:Int)+1):Nat):Int)+1) AQ2 AQ2]
     exact AOD
   have hi':i3=w.tasks.length:=ARD
   subst hi'
   simp only[go_sem,bP]
   rw[Ry] at hpl
   have hn0:=Int.natCast_nonneg (w.x.countP (fun d:DDead=>d.buf==(k:Int))+w.tasks.countP (fun t:DTask=>t.own==(k:Int)+1))
   revert hpl hn0
   generalize ((w.x.countP (fun d:DDead=>d.buf==(k:Int))+w.tasks.countP (fun t:DTask=>t.own==(k:Int)+1):Nat):Int)=n
   exact AHE
  ·simp only[go_sem,h2]
   simp only[h2,ay,aY,bH] at hc0
   subst hc0
   refine AAT 1 (A:=Nat) (fun x=>[(6,.c (.v (.int .i64 (x)))),(5,.c (.v (.int .i64 ((1+(w.x.take x).countP (fun d:DDead=>d.buf==(k:Int)):Nat):Int))))]) (fun _=>[⟨46,14,[w.c],true,true⟩]) (fun x=>x≤w.x.length) (fun x=>w.x.length-x) 0 ⟨⟨rfl,rfl⟩,rfl,au _⟩ ?_
   intro i2 hi2
   refine AQx (fun h=>?_) fun h=>?_
   ·have hi':i2<w.x.length:=by simpa using h
    have hn:=VX (fun d:DDead=>d.buf==(k:Int)) w.x hi'
    have hle:=cnt_le (fun d:DDead=>d.buf==(k:Int)) w.x i2 hx
    rcases h3:w.x[i2].buf==(k:Int) with _ | _
    ·exact AOA
    ·rw[h3] at hn
     simp only[go_sem,AA _ hi',hi',h3]
     try refine AAO ?_
     try simp only[go_sem,AA _ hi',hi',h3]
     simp only[go_sem,wrap_i64 (n:=(i2:Int)+1) AQ2 AQ2,wrap_i64 (n:=((1+(w.x.take i2).countP (fun d:DDead=>d.buf==(k:Int)):Nat):Int)+1) AQ2 AQ2]
     exact AOC
   have hi':i2=w.x.length:=ARD
   subst hi'
   simp only[go_sem,bP]
   refine AAT 1 (A:=Nat) (fun x=>[(7,.c (.v (.int .i64 (x)))),(5,.c (.v (.int .i64 ((1+w.x.countP (fun d:DDead=>d.buf==(k:Int))+(w.tasks.take x).countP (fun t:DTask=>t.own==(k:Int)+1):Nat):Int))))]) (fun _=>[⟨46,14,[w.c],true,true⟩]) (fun x=>x≤w.tasks.length) (fun x=>w.tasks.length-x) 0 ⟨⟨rfl,rfl⟩,rfl,au _⟩ ?_
   intro i3 hi3
   refine AQx (fun h=>?_) fun h=>?_
   ·have hi':i3<w.tasks.length:=by simpa using h
    have hn:=VX (fun t:DTask=>t.own==(k:Int)+1) w.tasks hi'
    have hle:=cnt_le (fun t:DTask=>t.own==(k:Int)+1) w.tasks i3 htl
    rcases h3:w.tasks[i3].own==(k:Int)+1 with _ | _
    ·exact AN6
    ·rw[h3] at hn
     simp only[go_sem,AA _ hi',hi',hk1,h3]
     try refine AAO ?_
     try simp only[go_sem,AA _ hi',hi',hk1,h3]
     simp only[go_sem,wrap_i64 (n:=(i3:Int)+1) AQ2 AQ2,wrap_i64 (n:=((1+w.x.countP (fun d:DDead=>d.buf==(k:Int))+(w.tasks.take i3).countP (fun t:DTask=>t.own==(k:Int)+1):Nat):Int)+1) AQ2 AQ2]
     exact AOD
   have hi':i3=w.tasks.length:=ARD
   subst hi'
   simp only[go_sem,bP]
   have:=hcl
   have hn0:=Int.natCast_nonneg (1+w.x.countP (fun d:DDead=>d.buf==(k:Int))+w.tasks.countP (fun t:DTask=>t.own==(k:Int)+1))
   revert hpl hn0
   generalize ((1+w.x.countP (fun d:DDead=>d.buf==(k:Int))+w.tasks.countP (fun t:DTask=>t.own==(k:Int)+1):Nat):Int)=n
   exact AHE
 ·have hk':k=w.b.length:=by have:=hk.1; simp at h; omega
  subst hk'
  simp only[go_sem,UX hk,ah]
  refine AAT 1 (A:=Nat) (fun x=>[(8,.c (.v (.int .i64 (x))))]) (fun _=>[⟨46,14,[w.c],true,true⟩]) (Gp w.x (Me w)) (fun x=>w.x.length-x) 0 ⟨⟨rfl,rfl⟩,rfl,EL⟩ ?_
  intro j hj
  unfold jk
  refine AQx (fun h=>?_) fun h=>?_
  ·have hj':j<w.x.length:=by simpa using h
   simp only[go_sem,AA _ hj',hj']
   refine AAO ?_
   have hwb:IntKind.i64.wrap ((w.b.length:Int)-1)=(w.b.length:Int)-1:=wrap_i64 AQ2 AQ2
   simp only[go_sem,AA _ hj',hj',hwb]
   refine AAS _ (AQ w.x[j].buf 0 _) ?_
   rcases Eb w w.x[j].buf with ⟨m,hm,hbm,hat⟩ | ⟨hbm,hat⟩
   ·have e1:Ad (m:Int) 0 ((w.b.length:Int)-1)=true:=by simp[Ad]; omega
    rcases h1:w.b[m].gen==w.x[j].gen with _ | _
    ·have g1:(w.b[m].gen != w.x[j].gen)=true:=by simp[bne,h1]
     simp only[go_sem,AA _ hj',hj',e1,hbm,AA _ hm,hm,g1,BP (p:=Me w) hj' (by simp only[Me,hat,h1,ag])]
    have g1:(w.b[m].gen != w.x[j].gen)=false:=ASf
    simp only[go_sem,AA _ hj',hj',e1,hbm,AA _ hm,hm,g1]
    refine AAS _ (AQ w.x[j].at0 0 w.e) ?_
    rcases h2:Ad w.x[j].at0 0 w.e with _ | _
    ·simp only[go_sem,h2,BP (p:=Me w) hj' (by simp only[Me,hat,h1,h2,aK])]
    ·simp only[go_sem,h2,wrap_i64 (n:=(j:Int)+1) AQ2 AQ2]
     exact⟨j+1,⟨rfl,rfl⟩,rfl,Bv hj' hj (by simp only[Me,hat,h1,h2,aF]),AQ2⟩
   ·have e1:Ad w.x[j].buf 0 ((w.b.length:Int)-1)=false:=by
     unfold Ad
     rw[Bool.and_eq_false_iff]
     by_cases h0:0≤w.x[j].buf
     ·right; simp; omega
     ·left; simp; omega
    simp only[go_sem,AA _ hj',hj',e1,BP (p:=Me w) hj' (by simp only[Me,hat])]
  ·have hj':j=w.x.length:=by have:=hj.1; simp at h; omega
   subst hj'
   simp only[go_sem,DR hj]
noncomputable def Wp (w:DWorld) (r:DRef):Bool:=there w r&&(if(r.kind==1)=true then r.many==w.c0.slots else(Ec w r).all fun x=>Ad x.id r.first (IntKind.i64.wrap (IntKind.i64.wrap (r.first+r.many)-1)))
theorem nX (w:DWorld) (hf:AZ w):Ctr prog 113 [.agg w.c] [.val (.c (.v (.bool (w.d.l.all (Wp w)))))]:=by
 refine CM call113 func113 ntmps113 results113 fun hw=>?_
 have hd:=lenD hf
 simp only[go_sem]
 refine AAT 1 (A:=Nat) (fun x=>[(3,.c (.v (.int .i64 (x))))]) (fun _=>[⟨46,14,[w.c],true,true⟩]) (Gp w.d.l (Wp w)) (fun x=>w.d.l.length-x) 0 ⟨⟨rfl,rfl⟩,rfl,EL⟩ ?_
 intro k hk
 refine AQx (fun h=>?_) fun h=>?_
 ·have hk':k<w.d.l.length:=by simpa using h
  simp only[go_sem,AA _ hk',hk']
  try refine AAO ?_
  try simp only[go_sem,AA _ hk',hk']
  first | refine CY (Md w w.d.l[k]) ?_ | refine CW (Md w w.d.l[k]) fun _=>?_
  rcases h1:there w w.d.l[k] with _ | _
  ·simp only[go_sem,h1,BP (p:=Wp w) hk' (by simp only[Wp,h1,ag])]
  rcases k1:w.d.l[k].kind==1 with _ | _
  rotate_left
  ·rcases k2:w.d.l[k].many==w.c0.slots with _ | _
   ·have g2:(w.d.l[k].many != w.c0.slots)=true:=by simp[bne,k2]
    simp only[go_sem,h1,k1,k2,g2,BP (p:=Wp w) hk' (by simp only[Wp,h1,k1,k2,bH,aK])]
   ·have g2:(w.d.l[k].many != w.c0.slots)=false:=by simp[bne,k2]
    simp only[go_sem,h1,k1,k2,g2,wrap_i64 (n:=(k:Int)+1) AQ2 AQ2]
    exact⟨k+1,⟨rfl,rfl⟩,rfl,Bv hk' hk (by simp only[Wp,h1,k1,k2,bH,aF]),AQ2⟩
  obtain⟨m,hm,hbm,hat⟩ | ⟨hbm,hat⟩:=Eb w w.d.l[k].buf
  rotate_left
  ·simp only[there,hat] at h1
   cases h1
  have hgl:=d_ w w.d.l[k]
  have hd1:Wp w w.d.l[k]=(Ec w w.d.l[k]).all fun x=>Ad x.id w.d.l[k].first (IntKind.i64.wrap (IntKind.i64.wrap (w.d.l[k].first+w.d.l[k].many)-1)):=by simp only[Wp,h1,k1,ay,aY,ah]
  simp only[go_sem,h1,k1]
  try refine AAO ?_
  try simp only[go_sem,h1,k1]
  first | refine CY (OG w w.d.l[k] hf hm hbm) ?_ | refine CW (OG w w.d.l[k] hf hm hbm) fun _=>?_
  simp only[go_sem]
  refine AAT 2 (A:=Nat) (fun x=>[(6,.c (.v (.int .i64 (x))))]) (fun _=>[⟨46,14,[w.c],true,true⟩,⟨204,5,[w.d.l[k].c],true,true⟩]) (Gp (Ec w w.d.l[k]) fun x=>Ad x.id w.d.l[k].first (IntKind.i64.wrap (IntKind.i64.wrap (w.d.l[k].first+w.d.l[k].many)-1))) (fun x=>(Ec w w.d.l[k]).length-x) 0 ⟨⟨rfl,rfl⟩,rfl,EL⟩ ?_
  intro j hj
  refine AQx (fun h=>?_) fun h=>?_
  ·have hj':j<(Ec w w.d.l[k]).length:=by simpa using h
   simp only[go_sem,AA _ hj',hj']
   try refine AAO ?_
   try simp only[go_sem,AA _ hj',hj']
   first | refine AAS _ (AQ (Ec w w.d.l[k])[j].id w.d.l[k].first _) ?_ | refine AAN _ (AQ (Ec w w.d.l[k])[j].id w.d.l[k].first _) fun _=>?_
   rcases h3:Ad (Ec w w.d.l[k])[j].id w.d.l[k].first (IntKind.i64.wrap (IntKind.i64.wrap (w.d.l[k].first+w.d.l[k].many)-1)) with _ | _
   ·simp only[go_sem,h3,BP (p:=Wp w) hk' (by rw[hd1]; exact BP (p:=fun x:DRow=>Ad x.id w.d.l[k].first (IntKind.i64.wrap (IntKind.i64.wrap (w.d.l[k].first+w.d.l[k].many)-1))) hj' h3)]
   ·simp only[go_sem,h3,wrap_i64 (n:=(j:Int)+1) AQ2 AQ2]
    exact⟨j+1,⟨rfl,rfl⟩,rfl,Bv hj' hj h3,AQ2⟩
  ·have hj':j=(Ec w w.d.l[k]).length:=by have:=hj.1; simp at h; omega
   subst hj'
   simp only[go_sem,wrap_i64 (n:=(k:Int)+1) AQ2 AQ2]
   exact⟨k+1,⟨rfl,rfl⟩,rfl,Bv hk' hk (by rw[hd1]; exact DR hj),AQ2⟩
 ·exact AP4
theorem Sr (w:DWorld) (k:Nat) (hf:AZ w) (hk:k<w.tasks.length) (hp:k<w.p.length):Ctr prog 115 [.agg w.c,.c (.v (.int .i64 ((k:Int))))] [.val (.c (.v (.bool (Rn w k w.tasks[k] w.p[k]))))]:=by
 have hft:=lI hf hk
 have hft2:=hft
 rw[ED] at hft2
 have hlt:=hft2.2.2.1
 have hld:=ADB hf
 have hlb:=zX hf
 refine CM call115 func115 ntmps115 results115 fun hw=>?_
 generalize ht:w.tasks[k]=t at hft hft2 hlt
 unfold Rn
 simp only[go_sem,AA _ hk,hk,ht]
 try refine AAO ?_
 try simp only[go_sem,AA _ hk,hk,ht]
 first | refine CY (Xh t k hft) ?_ | refine CW (Xh t k hft) fun _=>?_
 rcases h1:JX t k with _ | _
 ·exact AOH
 obtain⟨g1,g2,g3,g4,g5⟩:=pR h1
 simp only[go_sem,h1,AA _ hp,hp,ah]
 try refine AAO ?_
 try simp only[go_sem,h1,AA _ hp,hp]
 first | refine CY (Zy t) ?_ | refine CW (Zy t) fun _=>?_
 rcases h2:((w.p[k] != -1)==looks t) with _ | _
 ·simp only[go_sem,h2,aH,ag]
 simp only[go_sem,h2,aO,ah]
 try refine AAO ?_
 try simp only[go_sem,h2]
 first | refine CY (pU w t hf) ?_ | refine CW (pU w t hf) fun _=>?_
 rcases ho:ownB w t with _ | _
 ·rcases h3:t.op==0 with _ | _
  rotate_left
  ·have:ownB w t=(t.own==0):=by
    have e:t.op=0:=ARQ
    simp[ownB,e]
   rw[this,g5 h3] at ho
   cases ho
  have ht2:zU w k t=false:=by
   unfold zU
   split
   ·rfl
   ·rw[ho,ag,aK,aK]
  simp only[go_sem,ho,ht2,bW]
 rcases h3:t.op==0 with _ | _
 rotate_left
 ·simp only[go_sem,ho,h3,Pv]
  try refine AAO ?_
  try simp only[go_sem,h3]
 simp only[go_sem,ho,h3,bW]
 try refine AAO ?_
 try simp only[go_sem,h3]
 obtain⟨m,hm⟩:=aU g1
 unfold zU
 rw[hm,YM]
 rcases bZ m w.deeds.length with hml | hml
 rotate_left
 ·exact AOn
 have e1:decide ((m:Int)≥(w.deeds.length:Int))=false:=AQ5
 rw[aC hml]
 generalize hd:w.deeds[m]=d
 have hfd:C_ d:=hd▸lJ hf hml
 try simp only[go_sem,hm,e1]
 try refine AAO ?_
 try simp only[go_sem,hm,e1]
 simp only[ho,ah]
 refine AAT 2 (A:=Nat) (fun x=>[(6,.c (.v (.int .i64 (x))))]) (fun _=>[⟨46,14,[w.c],true,true⟩,⟨132,25,[lH t (m:Int)],true,true⟩]) (Gp t.l (there w)) (fun x=>t.l.length-x) 0 ⟨⟨rfl,rfl⟩,rfl,EL⟩ ?_
 intro j hj
 refine AQx (fun h=>?_) fun h=>?_
 ·have hj':j<t.l.length:=by simpa using h
  simp only[go_sem,AA _ hj',hj']
  try refine AAO ?_
  try simp only[go_sem,AA _ hj',hj']
  first | refine CY (Md w t.l[j]) ?_ | refine CW (Md w t.l[j]) fun _=>?_
  rcases h5:there w t.l[j] with _ | _
  ·simp only[go_sem,h5,BP (p:=there w) hj' h5,ag,aK]
  ·exact APV
 have hj':j=t.l.length:=ARX
 subst hj'
 have hth:=DR hj
 rw[hth,ah]
 have HT:TaskIn w t d m:=⟨hml,hd,hm,hft,hfd,hth,g2,g3,g4⟩
 rcases h4:jh k t d with _ | _
 ·simp only[ag]
  unfold jh at h4
  simp only[go_sem,hm,AA _ hml,hml,hd]
  try refine AAO ?_
  try simp only[go_sem,hm,AA _ hml,hml,hd]
  rcases k1:d.task==(k:Int) with _ | _
  ·have j1:(d.task != (k:Int))=true:=by simp[bne,k1]
   simp only[go_sem,j1]
  have j1:(d.task != (k:Int))=false:=by simp[bne,k1]
  rcases k2:d.op==t.op with _ | _
  ·have j2:(d.op != t.op)=true:=by simp[bne,k2]
   simp only[go_sem,j1,j2]
  have j2:(d.op != t.op)=false:=by simp[bne,k2]
  rw[k1,k2,ah,ah] at h4
  have j3:(d.ret != -1)=true:=by simp[bne,h4]
  simp only[go_sem,j1,j2,j3]
 rw[ah]
 have h4b:=h4
 simp only[jh,az] at h4b
 have j1:(d.task != (k:Int))=false:=by simp only[bne,h4b.1,aO]
 have j2:(d.op != t.op)=false:=by simp only[bne,h4b.2.1,aO]
 have j3:(d.ret != -1)=false:=by simp only[bne,h4b.2.2,aO]
 simp only[go_sem,hm,AA _ hml,hml,hd,j1,j2,j3]
 try refine AAO ?_
 try simp only[go_sem,hm,AA _ hml,hml,hd,j1,j2,j3]
 unfold swB
 rcases o1:t.op==1 with _ | _
 rotate_left
 ·simp only[go_sem,o1,bH]
  try refine AAO ?_
  try simp only[go_sem,o1]
  first | refine AAS _ (by simpa only[go_sem,hm] using VE w t d hf HT) ?_ | refine AAN _ (by simpa only[go_sem,hm] using VE w t d hf HT) fun _=>?_
  exact AIu
 rcases o2:t.op==2 with _ | _
 rotate_left
 ·simp only[go_sem,o1,o2,bH,ay,aY]
  try refine AAO ?_
  try simp only[go_sem,o1,o2]
  first | refine AAS _ (by simpa only[go_sem,hm] using UA w t d hf HT) ?_ | refine AAN _ (by simpa only[go_sem,hm] using UA w t d hf HT) fun _=>?_
  exact AIu
 rcases o3:t.op==3 with _ | _
 rotate_left
 ·simp only[go_sem,o1,o2,o3,bH,ay,aY]
  try refine AAO ?_
  try simp only[go_sem,o1,o2,o3]
  first | refine AAS _ (by simpa only[go_sem,hm] using UB w t d hf HT) ?_ | refine AAN _ (by simpa only[go_sem,hm] using UB w t d hf HT) fun _=>?_
  exact AIu
 simp only[go_sem,o1,o2,o3,ay,aY]
 unfold ADA
 try refine AAO ?_
 try simp only[go_sem,o1,o2,o3]
 first | refine AAS _ (AQ t.pc 2 5) ?_ | refine AAN _ (AQ t.pc 2 5) fun _=>?_
 rcases r1:Ad t.pc 2 5 with _ | _
 ·simp only[go_sem,r1,aH,Pv]
 simp only[go_sem,r1,aO,bW]
 try refine AAO ?_
 try simp only[go_sem,r1]
 first | refine AAS _ (AQ (t.l.length:Int) 1 2) ?_ | refine AAN _ (AQ (t.l.length:Int) 1 2) fun _=>?_
 exact AIu
theorem ZM (w:DWorld) (hf:AZ w):Ctr prog 111 [.agg w.c] [.val (.c (.v (.bool (Yg w))))]:=by
 refine CM call111 func111 ntmps111 results111 fun hw=>?_
 have hld:=ADB hf
 unfold Yg
 simp only[go_sem]
 refine AAT 1 (A:=Nat) (fun x=>[(3,.c (.v (.int .i64 (x))))]) (fun _=>[⟨46,14,[w.c],true,true⟩]) (Gp w.deeds (deed1 w)) (fun x=>w.deeds.length-x) 0 ⟨⟨rfl,rfl⟩,rfl,EL⟩ ?_
 intro j hj
 refine AQx (fun h=>?_) fun h=>?_
 ·have hj':j<w.deeds.length:=by simpa using h
  simp only[go_sem,AA _ hj',hj']
  try refine AAO ?_
  try simp only[go_sem,AA _ hj',hj']
  first | refine CY (Qb w.deeds[j]) ?_ | refine CW (Qb w.deeds[j]) fun _=>?_
  rcases q1:Ef w.deeds[j] with _ | _
  ·simp only[go_sem,q1,BP (p:=deed1 w) hj' (by simp only[deed1,q1,ag])]
  rcases q2:decide (w.deeds[j].inv≥w.time) with _ | _
  rotate_left
  ·simp only[go_sem,q1,q2,BP (p:=deed1 w) hj' (by simp only[deed1,q1,q2]; rfl)]
  rcases q3:decide (w.deeds[j].lin≥w.time) with _ | _
  rotate_left
  ·simp only[go_sem,q1,q2,q3,BP (p:=deed1 w) hj' (by simp only[deed1,q1,q2,q3]; rfl)]
  rcases q4:decide (w.deeds[j].ret≥w.time) with _ | _
  rotate_left
  ·simp only[go_sem,q1,q2,q3,q4,BP (p:=deed1 w) hj' (by simp only[deed1,q1,q2,q3,q4]; rfl)]
  exact AOh
 have hj':j=w.deeds.length:=ARX
 subst hj'
 simp only[go_sem,DR hj]
noncomputable def Wq (w:DWorld):Bool:=headB w&&(NZ w.d&&(!decide (w.d.ver>1000000)&&(((w.p.length:Int)==5)&&(Pn w.p w.e&&(((w.tasks.length:Int)==5)&&(Yg w&&(nV w&&(w.d.l.all (Wp w)&&(Tc w&&uK w)))))))))
theorem iQ (w:DWorld) (hf:AZ w):Ctr prog 40 [.agg w.c] [.val (.c (.v (.bool (Wq w))))]:=by
 refine CM call40 func40 ntmps40 results40 fun hw=>?_
 have hlt:=Xm hf
 unfold Wq headB
 simp only[go_sem,bF,aT,aG]
 try refine AAO ?_
 try simp only[go_sem]
 first | refine CY (Xa w.c0) ?_ | refine CW (Xa w.c0) fun _=>?_
 rcases h1:Oq w.c0 with _ | _
 ·simp only[go_sem,h1,ag,ah,aK]
 simp only[go_sem,h1,ah]
 try refine AAO ?_
 try simp only[go_sem]
 first | refine AAS _ (AQ w.time 0 1000000) ?_ | refine AAN _ (AQ w.time 0 1000000) fun _=>?_
 rcases h2:Ad w.time 0 1000000 with _ | _
 ·simp only[go_sem,h2,ag,ah,aK]
 simp only[go_sem,h2,ah]
 try refine AAO ?_
 try simp only[go_sem]
 first | refine AAS _ (AQ w.t 1 1000000) ?_ | refine AAN _ (AQ w.t 1 1000000) fun _=>?_
 rcases h3:Ad w.t 1 1000000 with _ | _
 ·simp only[go_sem,h3,ag,ah,aK]
 simp only[go_sem,h3,ah]
 try refine AAO ?_
 try simp only[go_sem]
 first | refine AAS _ (AQ w.e 0 1000000) ?_ | refine AAN _ (AQ w.e 0 1000000) fun _=>?_
 rcases h4:Ad w.e 0 1000000 with _ | _
 ·simp only[go_sem,h4,ag,ah,aK]
 simp only[go_sem,h4,ah]
 try refine AAO ?_
 try simp only[go_sem]
 first | refine CY (Zg w.d (lenD hf)) ?_ | refine CW (Zg w.d (lenD hf)) fun _=>?_
 rcases h5:NZ w.d with _ | _
 ·simp only[go_sem,h5,ag,ah,aK]
 simp only[go_sem,h5,ah]
 rcases h6:decide (w.d.ver>1000000) with _ | _
 rotate_left
 ·exact AQl
 rcases h12:((w.p.length:Int)==5) with _ | _
 ·have g:((w.p.length:Int) != 5)=true:=by simp only[bne,h12,aH]
  simp only[go_sem,h6,g,aH,ag,ah]
  try refine AAO ?_
  try simp only[go_sem,h6,g]
 have g12:((w.p.length:Int) != 5)=false:=by simp only[bne,h12,aO]
 simp only[go_sem,h6,g12,aH,ah]
 try refine AAO ?_
 try simp only[go_sem,h6,g12]
 first | refine AAS _ (Xd w.p w.e (AId hf)) ?_ | refine AAN _ (Xd w.p w.e (AId hf)) fun _=>?_
 rcases h13:Pn w.p w.e with _ | _
 ·simp only[go_sem,h13,ag]
 rcases h11:((w.tasks.length:Int)==5) with _ | _
 ·have g:((w.tasks.length:Int) != 5)=true:=by simp only[bne,h11,aH]
  simp only[go_sem,h13,g,ag,ah]
  try refine AAO ?_
  try simp only[go_sem,h13,g]
 have g11:((w.tasks.length:Int) != 5)=false:=by simp only[bne,h11,aO]
 simp only[go_sem,h13,g11,ah]
 try refine AAO ?_
 try simp only[go_sem,h13,g11]
 try refine AAO ?_
 try simp only[go_sem]
 first | refine CY (ZM w hf) ?_ | refine CW (ZM w hf) fun _=>?_
 rcases h7:Yg w with _ | _
 ·simp only[go_sem,h7,ag,ah,aK]
 simp only[go_sem,h7,ah]
 try refine AAO ?_
 try simp only[go_sem]
 first | refine CY (iP w hf) ?_ | refine CW (iP w hf) fun _=>?_
 rcases h8:nV w with _ | _
 ·simp only[go_sem,h8,ag,ah,aK]
 simp only[go_sem,h8,ah]
 try refine AAO ?_
 try simp only[go_sem]
 first | refine CY (nX w hf) ?_ | refine CW (nX w hf) fun _=>?_
 rcases h9:w.d.l.all (Wp w) with _ | _
 ·simp only[go_sem,h9,ag,ah,aK]
 simp only[go_sem,h9,ah]
 try refine AAO ?_
 try simp only[go_sem]
 first | refine CY (Zj w hf) ?_ | refine CW (Zj w hf) fun _=>?_
 rcases h10:Tc w with _ | _
 ·simp only[go_sem,h10,ag,ah,aK]
 simp only[go_sem,h10,ah]
 have hl5:w.tasks.length=w.p.length:=by
  exact AQK
 unfold uK
 refine AAT 1 (A:=Nat) (fun x=>[(3,.c (.v (.int .i64 (x))))]) (fun _=>[⟨46,14,[w.c],true,true⟩]) (zV w.tasks fun k t=>Rn w k t (w.p[k]?.getD 0)) (fun x=>w.tasks.length-x) 0 ⟨⟨rfl,rfl⟩,rfl,uJ⟩ ?_
 intro k hk
 refine AQx (fun h=>?_) fun h=>?_
 ·have hk':k<w.tasks.length:=by simpa using h
  have hp:k<w.p.length:=AQ2
  have e1:(w.p[k]?.getD 0)=w.p[k]:=by rw[aC hp]; rfl
  simp only[go_sem,AA _ hk',hk']
  try refine AAO ?_
  try simp only[go_sem,AA _ hk',hk']
  first | refine CY (Sr w k hf hk' hp) ?_ | refine CW (Sr w k hf hk' hp) fun _=>?_
  rcases h14:Rn w k w.tasks[k] w.p[k] with _ | _
  ·simp only[go_sem,h14,Jk (p:=fun k t=>Rn w k t (w.p[k]?.getD 0)) hk' (by rw[e1]; exact h14)]
  ·exact AO3
 have hk':k=w.tasks.length:=by have:=hk.1; simp at h; omega
 subst hk'
 rw[UX hk]
 exact AIu
theorem Ls (w:DWorld) (hf:AZ w):Ctr prog 52 [.agg w.c] [.val (.c (.v (.bool (D_ w))))]:=by
 refine CM call52 func52 ntmps52 results52 fun hw=>?_
 have hlt:=Xm hf
 have hld:=ADB hf
 unfold D_ headB
 simp only[go_sem]
 try refine AAO ?_
 try simp only[go_sem]
 first | refine CY (XZ w.c0) ?_ | refine CW (XZ w.c0) fun _=>?_
 rcases h1:Oq w.c0 with _ | _
 ·simp only[go_sem,h1,ag,ah,aK]
 simp only[go_sem,h1,ah]
 try refine AAO ?_
 try simp only[go_sem]
 first | refine AAS _ (AL w.time 0 1000000) ?_ | refine AAN _ (AL w.time 0 1000000) fun _=>?_
 rcases h2:Ad w.time 0 1000000 with _ | _
 ·simp only[go_sem,h2,ag,ah,aK]
 simp only[go_sem,h2,ah]
 try refine AAO ?_
 try simp only[go_sem]
 first | refine AAS _ (AL w.t 1 1000000) ?_ | refine AAN _ (AL w.t 1 1000000) fun _=>?_
 rcases h3:Ad w.t 1 1000000 with _ | _
 ·simp only[go_sem,h3,ag,ah,aK]
 simp only[go_sem,h3,ah]
 try refine AAO ?_
 try simp only[go_sem]
 first | refine AAS _ (AL w.e 0 1000000) ?_ | refine AAN _ (AL w.e 0 1000000) fun _=>?_
 rcases h4:Ad w.e 0 1000000 with _ | _
 ·simp only[go_sem,h4,ag,ah,aK]
 simp only[go_sem,h4,ah]
 try refine AAO ?_
 try simp only[go_sem]
 first | refine CY (Zf w.d (lenD hf)) ?_ | refine CW (Zf w.d (lenD hf)) fun _=>?_
 rcases h5:NZ w.d with _ | _
 ·simp only[go_sem,h5,ag,ah,aK]
 simp only[go_sem,h5,ah]
 rcases h6:decide (w.d.ver>1000000) with _ | _
 rotate_left
 ·exact AQl
 simp only[go_sem,h6,aH,ah]
 try refine AAO ?_
 try simp only[go_sem]
 first | refine CY (jo w hf) ?_ | refine CW (jo w hf) fun _=>?_
 rcases h7:o7 w with _ | _
 ·simp only[go_sem,h7,ag,ah,aK]
 simp only[go_sem,h7,ah]
 try refine AAO ?_
 try simp only[go_sem]
 first | refine CY (Zi w hf) ?_ | refine CW (Zi w hf) fun _=>?_
 rcases h8:Tc w with _ | _
 ·simp only[go_sem,h8,ag,ah,aK]
 simp only[go_sem,h8,ah]
 try refine AAO ?_
 try simp only[go_sem]
 first | refine CY (ZL w hf) ?_ | refine CW (ZL w hf) fun _=>?_
 rcases h9:ji w with _ | _
 ·simp only[go_sem,h9,ag,ah,aK]
 simp only[go_sem,h9,ah]
 try refine AAO ?_
 try simp only[go_sem]
 first | refine CY (jq w hf) ?_ | refine CW (jq w hf) fun _=>?_
 rcases h10:jk w with _ | _
 ·simp only[go_sem,h10,ag,ah,aK]
 simp only[go_sem,h10,ah]
 rcases h11:((w.tasks.length:Int)==5) with _ | _
 ·have g:((w.tasks.length:Int) != 5)=true:=by simp only[bne,h11,aH]
  simp only[go_sem,g,ag]
  try refine AAO ?_
  try simp only[go_sem,g]
 have g11:((w.tasks.length:Int) != 5)=false:=by simp only[bne,h11,aO]
 rcases h12:((w.p.length:Int)==5) with _ | _
 ·have g:((w.p.length:Int) != 5)=true:=by simp only[bne,h12,aH]
  simp only[go_sem,g11,g,ag,ah]
  try refine AAO ?_
  try simp only[go_sem,g11,g]
 have g12:((w.p.length:Int) != 5)=false:=by simp only[bne,h12,aO]
 simp only[go_sem,g11,g12,ah]
 try refine AAO ?_
 try simp only[go_sem,g11,g12]
 first | refine AAS _ (Xc w.p w.e (AId hf)) ?_ | refine AAN _ (Xc w.p w.e (AId hf)) fun _=>?_
 rcases h13:Pn w.p w.e with _ | _
 ·simp only[go_sem,h13,ag]
 simp only[go_sem,h13,ah]
 have hl5:w.tasks.length=w.p.length:=by
  exact AQK
 unfold uK
 refine AAT 1 (A:=Nat) (fun x=>[(79,.c (.v (.int .i64 (x))))]) (fun _=>[⟨46,14,[w.c],true,true⟩]) (zV w.tasks fun k t=>Rn w k t (w.p[k]?.getD 0)) (fun x=>w.tasks.length-x) 0 ⟨⟨rfl,rfl⟩,rfl,uJ⟩ ?_
 intro k hk
 refine AQx (fun h=>?_) fun h=>?_
 ·have hk':k<w.tasks.length:=by simpa using h
  have hp:k<w.p.length:=AQ2
  have e1:(w.p[k]?.getD 0)=w.p[k]:=by rw[aC hp]; rfl
  simp only[go_sem,AA _ hk',hk']
  try refine AAO ?_
  try simp only[go_sem,AA _ hk',hk']
  first | refine CY (T_ w k hf hk' hp) ?_ | refine CW (T_ w k hf hk' hp) fun _=>?_
  rcases h14:Rn w k w.tasks[k] w.p[k] with _ | _
  ·simp only[go_sem,h14,Jk (p:=fun k t=>Rn w k t (w.p[k]?.getD 0)) hk' (by rw[e1]; exact h14),ag]
  ·exact AO3
 have hk':k=w.tasks.length:=by have:=hk.1; simp at h; omega
 subst hk'
 rw[UX hk,ah]
 unfold Yg
 simp only[go_sem]
 refine AAT 1 (A:=Nat) (fun x=>[(90,.c (.v (.int .i64 (x))))]) (fun _=>[⟨46,14,[w.c],true,true⟩]) (Gp w.deeds (deed1 w)) (fun x=>w.deeds.length-x) 0 ⟨⟨rfl,rfl⟩,rfl,EL⟩ ?_
 intro j hj
 refine AQx (fun h=>?_) fun h=>?_
 ·have hj':j<w.deeds.length:=by simpa using h
  simp only[go_sem,AA _ hj',hj']
  try refine AAO ?_
  try simp only[go_sem,AA _ hj',hj']
  first | refine CY (Qc w.deeds[j]) ?_ | refine CW (Qc w.deeds[j]) fun _=>?_
  rcases q1:Ef w.deeds[j] with _ | _
  ·simp only[go_sem,q1,BP (p:=deed1 w) hj' (by simp only[deed1,q1,ag]),ag]
  rcases q2:decide (w.deeds[j].inv≥w.time) with _ | _
  rotate_left
  ·simp only[go_sem,q1,q2,BP (p:=deed1 w) hj' (by simp only[deed1,q1,q2]; rfl),ag]
  rcases q3:decide (w.deeds[j].lin≥w.time) with _ | _
  rotate_left
  ·simp only[go_sem,q1,q2,q3,BP (p:=deed1 w) hj' (by simp only[deed1,q1,q2,q3]; rfl),ag]
  rcases q4:decide (w.deeds[j].ret≥w.time) with _ | _
  rotate_left
  ·simp only[go_sem,q1,q2,q3,q4,BP (p:=deed1 w) hj' (by simp only[deed1,q1,q2,q3,q4]; rfl),ag]
  exact AOh
 have hj':j=w.deeds.length:=ARX
 subst hj'
 rw[DR hj,ah]
 simp only[go_sem]
 try refine AAO ?_
 try simp only[go_sem]
 first | refine CY (Sm w hf) ?_ | refine CW (Sm w hf) fun _=>?_
 exact AIu
theorem AHh (w:DWorld) (r:DRef) {x:DRow} (hx:x∈Ec w r):0≤x.id∧x.id≤1000000000:=by
 unfold Ec at hx
 split at hx
 ·simp at hx
 ·rename_i b hb
  rcases h:CQ w.c0.cols b.g with _ | l
  ·rw[h] at hx; simp at hx
  ·rw[h] at hx
   have:=(Uf (Tf h)).2.2 x hx
   exact⟨this.1,this.2.1⟩
theorem nY {α:Type} {l:List α} {p q:α→Bool} (h:∀ x∈l,p x=q x):l.all p=l.all q:=by
 rw[Bool.eq_iff_iff,aS,aS]
 exact⟨fun h2 x hx=>by rw[← h x hx]; exact h2 x hx,fun h2 x hx=>by rw[h x hx]; exact h2 x hx⟩
theorem AJw {w:DWorld} (hd:NZ w.d=true):w.d.l.all (Wp w)=ji w:=by
 refine nY fun r hr=>?_
 obtain⟨h1,h2,h3⟩:=AEn hd hr
 unfold Wp TZ o6
 rcases ht:there w r with _ | _
 ·simp only[ag]
 rcases k1:r.kind==1 with _ | _
 ·have k2:=lG h1 k1
  rw[k2]
  simp only[ah,ag,aH,ay,aY,bH]
  refine nY fun x hx=>?_
  have hi:=AHh w r hx
  exact(AEo h1 h2 h3 x.id AQ2).symm
 ·have k2:(r.kind==2)=false:=by
   have:r.kind=1:=by simpa using k1
   rw[this]; rfl
  rw[k2]
  rcases hm:r.many==w.c0.slots with _ | _<;>simp[bne,hm]
theorem AHi {w:DWorld} (hd:NZ w.d=true):nV w=(o7 w&&(jk w&&Xl w)):=by
 have h:Td w.b (Rt w)=(w.b.all (QK w)&&Td w.b (RG w)):=by
  rw[Bool.eq_iff_iff,az,Yf,Yf,aS]
  constructor
  ·intro h
   refine⟨fun x hx=>?_,fun k hk=>?_⟩
   ·obtain⟨i,hi,rfl⟩:=abC.1 hx
    have:=h i hi
    simp only[Rt,az] at this
    exact this.1
   ·have:=h k hk
    simp only[Rt,az,zW hd] at this
    exact this.2
  ·rintro⟨h1,h2⟩ k hk
   simp only[Rt,az,zW hd]
   exact⟨h1 _ (aj hk),h2 k hk⟩
 unfold nV o7 Xl
 rw[h]
 ac_rfl
theorem xx (w:DWorld):Wq w=D_ w:=by
 unfold Wq D_
 rcases hd:NZ w.d with _ | _
 ·simp only[ag]
 rw[AJw hd,AHi hd]
 ac_rfl
theorem Lt (w:DWorld) (hf:AZ w):Ctr prog 40 [.agg w.c] [.val (.c (.v (.bool (D_ w))))]:=by
 rw[← xx]
 exact iQ w hf
def xy (w:DWorld):Bool:=decide (w.time<1000000)&&(decide (w.t<1000000)&&(decide (w.e<1000000)&&decide (w.d.ver<1000000)))
def rW (w:DWorld):Bool:=w.time==1000000||(w.t==1000000||(w.e==1000000||w.d.ver==1000000))
theorem ZN (w:DWorld):Ctr prog 258 [.agg w.c] [.val (.c (.v (.bool (rW w))))]:=by
 refine CM call258 func258 ntmps258 results258 fun hw=>?_
 rcases h1:w.time==1000000 with _ | _<;>rcases h2:w.t==1000000 with _ | _<;>rcases h3:w.e==1000000 with _ | _ <;>
  simp only[go_sem,h1,h2,h3,rW,Pv,bW]
theorem AD7 {w:DWorld} (h:D_ w=true):rW w = !xy w:=by
 unfold D_ headB at h
 simp only[az,abl,aaD,Ad,bC] at h
 obtain⟨⟨_,⟨_,h1⟩,⟨_,h2⟩,⟨_,h3⟩⟩,_,h4,_⟩:=h
 have key:∀ x:Int,x≤1000000→(x==1000000) = !decide (x<1000000):=fun x hx=>by
  by_cases e:x=1000000
  ·subst e; rfl
  ·have e1:(x==1000000)=false:=by simpa using e
   have e2:decide (x<1000000)=true:=AQ5
   rw[e1,e2]; rfl
 unfold rW xy
 rw[key _ h1,key _ h2,key _ h3,key _ AQ2]
 simp only[Bool.not_and]
end Go.Proofs.YthmifbbmgnhddaaGreat
