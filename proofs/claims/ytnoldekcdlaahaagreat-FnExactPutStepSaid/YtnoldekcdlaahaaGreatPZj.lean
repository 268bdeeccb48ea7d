/- A part. -/
import Derived.Test.YtnoldekcdlaahaaGreatPZo
import Derived.Test.YtnoldekcdlaahaaGreatPXd
set_option linter.unusedSimpArgs false
set_option linter.unusedVariables false
set_option maxHeartbeats 4000000
set_option maxRecDepth 10000
open Go.Proofs.Tryz
namespace Go.Proofs.YtnoldekcdlaahaaGreat
open Go.Vm
theorem AF0 (w:DWorld) (r:DRef):(kT w r).length≤12:=by
 unfold kT
 split
 ·exact Yw w r
 ·exact aA _
theorem YH (w:DWorld) (hf:Aa w):Ctr prog 106 [.agg w.c] [.val (.c (.v (.bool (gW w))))]:=by
 refine CM call106 func106 ntmps106 results106 fun hw=>?_
 have hb:=lenD hf
 unfold gW
 simp only[go_sem]
 refine ABK 1 (A:=Nat) (fun x=>[(11,.c (.v (.int .i64 (x))))]) (fun _=>[⟨44,14,[w.c],true,true⟩]) (FC w.d.l (RY w)) (fun x=>w.d.l.length-x) 0 ⟨⟨rfl,rfl⟩,rfl,DZ⟩ ?_
 intro k hk
 refine AOJ (fun h=>?_) fun h=>?_
 ·have hk':k<w.d.l.length:=by simpa using h
  simp only[go_sem,AA _ hk',hk']
  try refine AAm ?_
  try simp only[go_sem,AA _ hk',hk']
  first | refine CY (BI w w.d.l[k]) ?_ | refine CW (BI w w.d.l[k]) fun _=>?_
  rcases h1:there w w.d.l[k] with _ | _
  ·simp only[go_sem,h1,BU (p:=RY w) hk' (by simp only[RY,h1,ag])]
  rcases h2:((w.d.l[k].kind==1)&&(w.d.l[k].many != w.c0.slots)) with _ | _
  rotate_left
  ·have hno:=BU (p:=RY w) hk' (by simp only[RY,h1,h2]; rfl)
   simp only[ay] at h2
   simp only[go_sem,h1,h2.1,h2.2,hno]
  have hgl:=AF0 w w.d.l[k]
  have hp1:RY w w.d.l[k]=(kT w w.d.l[k]).all fun x=>CU w.d.l[k] x.id:=by simp only[RY,h1,h2,aS,aj]
  have hgr:Ctr prog 225 [.agg w.c,.agg w.d.l[k].c] [.val (.c (.sl ((kT w w.d.l[k]).map DRow.c)))]:=Lt w w.d.l[k] hf
  have k2:(w.d.l[k].kind==1)=true→(w.d.l[k].many != w.c0.slots)=false:=fun k1=>by rw[k1,aj] at h2; exact h2
  rcases k1:w.d.l[k].kind==1 with _ | _
  rotate_left
  ·have k2:=k2 k1
   simp only[go_sem,h1,k1,k2]
   exact AGb
  ·simp only[go_sem,h1,k1]
   exact AGb
 ·exact ANQ
theorem UW {α:Type} (p:α→Bool) (l:List α) {k:Nat} (h:k<l.length):(l.take (k+1)).countP p=(l.take k).countP p+if p l[k]=true then 1 else 0:=by
 rw[List.take_add_one,au h,List.countP_append]
 simp[List.countP_cons]
theorem cnt_le {α:Type} (p:α→Bool) (l:List α) (k:Nat) (h:l.length≤1048576):(l.take k).countP p≤1048576:=by
 have h1:=List.countP_le_length (p:=p) (l:=l.take k)
 have h2:=List.length_take_le k l
 have h3:(l.take k).length≤l.length:=AOS
 omega
theorem RX (w:DWorld) (hf:Aa w):Ctr prog 111 [.agg w.c] [.val (.c (.v (.bool (V8 w))))]:=by
 refine CM call111 func111 ntmps111 results111 fun hw=>?_
 have hb:=v_ hf
 have hd:=lenD hf
 have hx:=AHv hf
 have htl:=V9 hf
 unfold V8
 simp only[go_sem]
 refine ABK 1 (A:=Nat) (fun x=>[(15,.c (.v (.int .i64 (x))))]) (fun _=>[⟨44,14,[w.c],true,true⟩]) (vk w.b (QC w)) (fun x=>w.b.length-x) 0 ⟨⟨rfl,rfl⟩,rfl,pO⟩ ?_
 intro k hk
 refine AOJ (fun h=>?_) fun h=>?_
 ·have hk':k<w.b.length:=by simpa using h
  simp only[go_sem,AA _ hk',hk']
  refine ABK 2 (A:=Nat) (fun x=>[(24,.c (.v (.int .i64 (x)))),(5,.c (.v (.int .i64 ((QB (w.d.l.take x) k:Nat):Int))))]) (fun _=>[⟨44,14,[w.c],true,true⟩,⟨142,5,[w.b[k].c],true,true⟩]) (fun x=>x≤w.d.l.length) (fun x=>w.d.l.length-x) 0 ⟨⟨rfl,rfl⟩,rfl,aA _⟩ ?_
  intro i1 hi1
  refine AOJ (fun h=>?_) fun h=>?_
  ·have hi':i1<w.d.l.length:=by simpa using h
   have hn:=UW (fun r:DRef=>r.buf==(k:Int)) w.d.l hi'
   have hle:=cnt_le (fun r:DRef=>r.buf==(k:Int)) w.d.l i1 hd
   change QB (w.d.l.take (i1+1)) k=QB (w.d.l.take i1) k+_ at hn
   change QB (w.d.l.take i1) k≤_ at hle
   rcases h1:w.d.l[i1].buf==(k:Int) with _ | _
   ·rw[h1] at hn
    simp only[go_sem,AA _ hi',hi',h1,wrap_i64 (n:=(i1:Int)+1) AOQ AOQ]
    exact⟨i1+1,⟨rfl,rfl⟩,by rw[hn]; rfl,hi',AOQ⟩
   ·rw[h1] at hn
    simp only[go_sem,AA _ hi',hi',h1,wrap_i64 (n:=(i1:Int)+1) AOQ AOQ,wrap_i64 (n:=((QB (w.d.l.take i1) k:Nat):Int)+1) AOQ AOQ]
    exact⟨i1+1,⟨rfl,rfl⟩,by rw[hn]; rfl,hi',AOQ⟩
  have hi':i1=w.d.l.length:=AOc
  subst hi'
  simp only[go_sem,bM]
  have hcd:QB w.d.l k≤1048576:=by have:=cnt_le (fun r:DRef=>r.buf==(k:Int)) w.d.l w.d.l.length hd; rw[bM] at this; exact this
  refine ABK 2 (A:=Nat) (fun x=>[(38,.c (.v (.int .i64 (x)))),(5,.c (.v (.int .i64 ((QB w.d.l k+(w.x.take x).countP (fun d:DDead=>d.buf==(k:Int)):Nat):Int))))]) (fun _=>[⟨44,14,[w.c],true,true⟩,⟨142,5,[w.b[k].c],true,true⟩]) (fun x=>x≤w.x.length) (fun x=>w.x.length-x) 0 ⟨⟨rfl,rfl⟩,rfl,aA _⟩ ?_
  intro i2 hi2
  refine AOJ (fun h=>?_) fun h=>?_
  ·have hi':i2<w.x.length:=by simpa using h
   have hn:=UW (fun d:DDead=>d.buf==(k:Int)) w.x hi'
   have hle:=cnt_le (fun d:DDead=>d.buf==(k:Int)) w.x i2 hx
   rcases h1:w.x[i2].buf==(k:Int) with _ | _
   ·rw[h1] at hn
    simp only[go_sem,AA _ hi',hi',h1,wrap_i64 (n:=(i2:Int)+1) AOQ AOQ]
    exact ALY
   ·rw[h1] at hn
    simp only[go_sem,AA _ hi',hi',h1,wrap_i64 (n:=(i2:Int)+1) AOQ AOQ,wrap_i64 (n:=((QB w.d.l k+(w.x.take i2).countP (fun d:DDead=>d.buf==(k:Int)):Nat):Int)+1) AOQ AOQ]
    exact ALY
  have hi':i2=w.x.length:=AOc
  subst hi'
  simp only[go_sem,bM]
  have hcx:w.x.countP (fun d:DDead=>d.buf==(k:Int))≤1048576:=by have:=cnt_le (fun d:DDead=>d.buf==(k:Int)) w.x w.x.length hx; rw[bM] at this; exact this
  have hk1:IntKind.i64.wrap ((k:Int)+1)=(k:Int)+1:=wrap_i64 AOQ AOQ
  refine ABK 2 (A:=Nat) (fun x=>[(52,.c (.v (.int .i64 (x)))),(5,.c (.v (.int .i64 ((QB w.d.l k+w.x.countP (fun d:DDead=>d.buf==(k:Int))+(w.tasks.take x).countP (fun t:DTask=>t.own==(k:Int)+1):Nat):Int))))]) (fun _=>[⟨44,14,[w.c],true,true⟩,⟨142,5,[w.b[k].c],true,true⟩]) (fun x=>x≤w.tasks.length) (fun x=>w.tasks.length-x) 0 ⟨⟨rfl,rfl⟩,rfl,aA _⟩ ?_
  intro i3 hi3
  refine AOJ (fun h=>?_) fun h=>?_
  ·have hi':i3<w.tasks.length:=by simpa using h
   have hn:=UW (fun t:DTask=>t.own==(k:Int)+1) w.tasks hi'
   have hle:=cnt_le (fun t:DTask=>t.own==(k:Int)+1) w.tasks i3 htl
   rcases h1:w.tasks[i3].own==(k:Int)+1 with _ | _
   ·rw[h1] at hn
    simp only[go_sem,AA _ hi',hi',hk1,h1,wrap_i64 (n:=(i3:Int)+1) AOQ AOQ]
    exact ALZ
   ·rw[h1] at hn
    simp only[go_sem,AA _ hi',hi',hk1,h1,wrap_i64 (n:=(i3:Int)+1) AOQ AOQ,wrap_i64 (n:=((QB w.d.l k+w.x.countP (fun d:DDead=>d.buf==(k:Int))+(w.tasks.take i3).countP (fun t:DTask=>t.own==(k:Int)+1):Nat):Int)+1) AOQ AOQ]
    exact ALZ
  have hi':i3=w.tasks.length:=AOc
  subst hi'
  simp only[go_sem,bM]
  have hp:QC w k w.b[k]=QA (((QB w.d.l k+w.x.countP (fun d:DDead=>d.buf==(k:Int)))+w.tasks.countP (fun t:DTask=>t.own==(k:Int)+1):Nat):Int) w.b[k]:=by unfold QC pK; rw[Nat.add_assoc]
  revert hp
  generalize (((QB w.d.l k+w.x.countP (fun d:DDead=>d.buf==(k:Int)))+w.tasks.countP (fun t:DTask=>t.own==(k:Int)+1):Nat):Int)=n
  intro hp
  unfold QA at hp
  rcases h1:w.b[k].kind==0 with _ | _
  ·have g1:(w.b[k].kind != 0)=true:=by simp[bne,h1]
   rcases h2:n != 1 with _ | _
   ·exact AME
   ·simp only[go_sem,h1,g1,h2,JJ (p:=QC w) hk' (by rw[hp,h1,g1,h2]; rfl)]
  ·have g1:(w.b[k].kind != 0)=false:=by simp[bne,h1]
   rcases h2:decide (n>0) with _ | _
   ·exact AME
   ·simp only[go_sem,h1,g1,h2,JJ (p:=QC w) hk' (by rw[hp,h1,g1,h2]; rfl)]
 ·have hk':k=w.b.length:=by have:=hk.1; simp at h; omega
  subst hk'
  simp only[go_sem,TE hk]
noncomputable def QR (w:DWorld) (i:Nat) (b:DBuf):Bool:=O9 w b&&UX w i b
noncomputable def kR (w:DWorld):Bool:=((w.b.length:Int)==w.c0.bufs)&&(Rf w.b (QR w)&&gX w)
theorem gK (w:DWorld) (hf:Aa w):Ctr prog 86 [.agg w.c] [.val (.c (.v (.bool (kR w))))]:=by
 refine CM call86 func86 ntmps86 results86 fun hw=>?_
 have hb:=v_ hf
 have hd:=lenD hf
 have hx:=AHv hf
 have htl:=V9 hf
 unfold kR
 rcases h0:((w.b.length:Int)==w.c0.bufs) with _ | _
 ·exact ANG
 have g0:((w.b.length:Int) != w.c0.bufs)=false:=by simp only[bne,h0,aP]
 simp only[go_sem,g0,aj]
 refine ABK 1 (A:=Nat) (fun x=>[(3,.c (.v (.int .i64 (x))))]) (fun _=>[⟨44,14,[w.c],true,true⟩]) (vk w.b (QR w)) (fun x=>w.b.length-x) 0 ⟨⟨rfl,rfl⟩,rfl,pO⟩ ?_
 intro k hk
 refine AOJ (fun h=>?_) fun h=>?_
 ·have hk':k<w.b.length:=by simpa using h
  simp only[go_sem,AA _ hk',hk']
  try refine AAm ?_
  try simp only[go_sem,AA _ hk',hk']
  first | refine CY (YG w.c0.cols w.b[k] (PD hf hk') (Vd hw.1 hk')) ?_ | refine CW (YG w.c0.cols w.b[k] (PD hf hk') (Vd hw.1 hk')) fun _=>?_
  rcases h1:gI w.c0.cols w.b[k] with _ | _
  ·simp only[go_sem,h1,JJ (p:=QR w) hk' (by simp only[QR,O9,h1,ag]),ag]
  simp only[go_sem,AA _ hk',hk',h1]
  have hs:=AJs hf hk'
  refine ABK 1 (A:=Nat) (fun x=>[(4,.c (.v (.int .i64 (x))))]) (fun _=>[⟨44,14,[w.c],true,true⟩]) (FC w.b[k].c0.l fun s=>!decide (s.ins>w.t)) (fun x=>w.b[k].c0.l.length-x) 0 ⟨⟨rfl,rfl⟩,rfl,DZ⟩ ?_
  intro j hj
  simp only[go_sem,AA _ hk',hk']
  try refine AAm ?_
  try simp only[go_sem,AA _ hk',hk']
  refine ABG (fun h=>?_) (fun h=>?_)
  ·have hj':j<w.b[k].c0.l.length:=by simpa using h
   simp only[go_sem,AA _ hk',hk',AA _ hj',hj']
   try refine AAm ?_
   try simp only[go_sem,AA _ hk',hk',AA _ hj',hj']
   rcases h2:decide (w.b[k].c0.l[j].ins>w.t) with _ | _
   ·simp only[go_sem,AA _ hk',hk',AA _ hj',hj',h2,wrap_i64 (n:=(j:Int)+1) AOQ AOQ]
    exact⟨j+1,⟨rfl,rfl⟩,rfl,BH hj' hj (by simp only[h2,aS]),AOQ⟩
   ·have hno:=BU (p:=fun s:DSlot=>!decide (s.ins>w.t)) hj' (by simp only[h2,aP])
    simp only[go_sem,AA _ hk',hk',AA _ hj',hj',h2,JJ (p:=QR w) hk' (by simp only[QR,O9,hno,aK,ag]),ag]
  have hj':j=w.b[k].c0.l.length:=AOw
  subst hj'
  have hp1:O9 w w.b[k]=true:=by simp only[O9,h1,DN hj,aN]
  simp only[go_sem]
  try refine AAm ?_
  try simp only[go_sem]
  first | refine CY (Vz w.d k hd) ?_ | refine CW (Vz w.d k hd) fun _=>?_
  obtain⟨c0,hc0,hcl⟩:∃ c0:Nat,c0=(if E5 w.d.l k=true then 1 else 0)∧c0≤1:=⟨_,rfl,by split<;>omega⟩
  have hpl:UX w k w.b[k]=QA ((c0+w.x.countP (fun d:DDead=>d.buf==(k:Int))+w.tasks.countP (fun t:DTask=>t.own==(k:Int)+1):Nat):Int) w.b[k]:=by unfold UX pK; rw[hc0,Nat.add_assoc]
  have hcx:w.x.countP (fun d:DDead=>d.buf==(k:Int))≤1048576:=by have:=cnt_le (fun d:DDead=>d.buf==(k:Int)) w.x w.x.length hx; rw[bM] at this; exact this
  have hk1:IntKind.i64.wrap ((k:Int)+1)=(k:Int)+1:=wrap_i64 AOQ AOQ
  rcases h2:E5 w.d.l k with _ | _
  ·simp only[go_sem,h2]
   simp only[h2,aB,aX,bf] at hc0
   subst hc0
   refine ABK 1 (A:=Nat) (fun x=>[(6,.c (.v (.int .i64 (x)))),(5,.c (.v (.int .i64 (((w.x.take x).countP (fun d:DDead=>d.buf==(k:Int)):Nat):Int))))]) (fun _=>[⟨44,14,[w.c],true,true⟩]) (fun x=>x≤w.x.length) (fun x=>w.x.length-x) 0 ⟨⟨rfl,rfl⟩,rfl,aA _⟩ ?_
   intro i2 hi2
   refine AOJ (fun h=>?_) fun h=>?_
   ·have hi':i2<w.x.length:=by simpa using h
    have hn:=UW (fun d:DDead=>d.buf==(k:Int)) w.x hi'
    have hle:=cnt_le (fun d:DDead=>d.buf==(k:Int)) w.x i2 hx
    rcases h3:w.x[i2].buf==(k:Int) with _ | _
    ·exact ALU
    ·rw[h3] at hn
     simp only[go_sem,AA _ hi',hi',h3]
     try refine AAm ?_
     try simp only[go_sem,AA _ hi',hi',h3]
     simp only[go_sem,wrap_i64 (n:=(i2:Int)+1) AOQ AOQ,wrap_i64 (n:=(((w.x.take i2).countP (fun d:DDead=>d.buf==(k:Int)):Nat):Int)+1) AOQ AOQ]
     exact ALY
   have hi':i2=w.x.length:=AOc
   subst hi'
   simp only[go_sem,bM]
   refine ABK 1 (A:=Nat) (fun x=>[(7,.c (.v (.int .i64 (x)))),(5,.c (.v (.int .i64 ((w.x.countP (fun d:DDead=>d.buf==(k:Int))+(w.tasks.take x).countP (fun t:DTask=>t.own==(k:Int)+1):Nat):Int))))]) (fun _=>[⟨44,14,[w.c],true,true⟩]) (fun x=>x≤w.tasks.length) (fun x=>w.tasks.length-x) 0 ⟨⟨rfl,rfl⟩,rfl,aA _⟩ ?_
   intro i3 hi3
   refine AOJ (fun h=>?_) fun h=>?_
   ·have hi':i3<w.tasks.length:=by simpa using h
    have hn:=UW (fun t:DTask=>t.own==(k:Int)+1) w.tasks hi'
    have hle:=cnt_le (fun t:DTask=>t.own==(k:Int)+1) w.tasks i3 htl
    rcases h3:w.tasks[i3].own==(k:Int)+1 with _ | _
    ·exact ALP
    ·rw[h3] at hn
     simp only[go_sem,AA _ hi',hi',hk1,h3]
     try refine AAm ?_
     try simp only[go_sem,AA _ hi',hi',hk1,h3]
     simp only[go_sem,wrap_i64 (n:=(i3:Int)+1) AOQ AOQ,wrap_i64 (n:=((w.x.countP (fun d:DDead=>d.buf==(k:Int))+(w.tasks.take i3).countP (fun t:DTask=>t.own==(k:Int)+1):Nat):Int)+1) AOQ AOQ]
     exact ALZ
   have hi':i3=w.tasks.length:=AOc
   subst hi'
   simp only[go_sem,bM]
   rw[sF] at hpl
   have hn0:=Int.natCast_nonneg (w.x.countP (fun d:DDead=>d.buf==(k:Int))+w.tasks.countP (fun t:DTask=>t.own==(k:Int)+1))
   revert hpl hn0
   generalize ((w.x.countP (fun d:DDead=>d.buf==(k:Int))+w.tasks.countP (fun t:DTask=>t.own==(k:Int)+1):Nat):Int)=n
   exact AG3
  ·simp only[go_sem,h2]
   simp only[h2,aB,aX,bf] at hc0
   subst hc0
   refine ABK 1 (A:=Nat) (fun x=>[(6,.c (.v (.int .i64 (x)))),(5,.c (.v (.int .i64 ((1+(w.x.take x).countP (fun d:DDead=>d.buf==(k:Int)):Nat):Int))))]) (fun _=>[⟨44,14,[w.c],true,true⟩]) (fun x=>x≤w.x.length) (fun x=>w.x.length-x) 0 ⟨⟨rfl,rfl⟩,rfl,aA _⟩ ?_
   intro i2 hi2
   refine AOJ (fun h=>?_) fun h=>?_
   ·have hi':i2<w.x.length:=by simpa using h
    have hn:=UW (fun d:DDead=>d.buf==(k:Int)) w.x hi'
    have hle:=cnt_le (fun d:DDead=>d.buf==(k:Int)) w.x i2 hx
    rcases h3:w.x[i2].buf==(k:Int) with _ | _
    ·exact ALU
    ·rw[h3] at hn
     simp only[go_sem,AA _ hi',hi',h3]
     try refine AAm ?_
     try simp only[go_sem,AA _ hi',hi',h3]
     simp only[go_sem,wrap_i64 (n:=(i2:Int)+1) AOQ AOQ,wrap_i64 (n:=((1+(w.x.take i2).countP (fun d:DDead=>d.buf==(k:Int)):Nat):Int)+1) AOQ AOQ]
     exact ALY
   have hi':i2=w.x.length:=AOc
   subst hi'
   simp only[go_sem,bM]
   refine ABK 1 (A:=Nat) (fun x=>[(7,.c (.v (.int .i64 (x)))),(5,.c (.v (.int .i64 ((1+w.x.countP (fun d:DDead=>d.buf==(k:Int))+(w.tasks.take x).countP (fun t:DTask=>t.own==(k:Int)+1):Nat):Int))))]) (fun _=>[⟨44,14,[w.c],true,true⟩]) (fun x=>x≤w.tasks.length) (fun x=>w.tasks.length-x) 0 ⟨⟨rfl,rfl⟩,rfl,aA _⟩ ?_
   intro i3 hi3
   refine AOJ (fun h=>?_) fun h=>?_
   ·have hi':i3<w.tasks.length:=by simpa using h
    have hn:=UW (fun t:DTask=>t.own==(k:Int)+1) w.tasks hi'
    have hle:=cnt_le (fun t:DTask=>t.own==(k:Int)+1) w.tasks i3 htl
    rcases h3:w.tasks[i3].own==(k:Int)+1 with _ | _
    ·exact ALP
    ·rw[h3] at hn
     simp only[go_sem,AA _ hi',hi',hk1,h3]
     try refine AAm ?_
     try simp only[go_sem,AA _ hi',hi',hk1,h3]
     simp only[go_sem,wrap_i64 (n:=(i3:Int)+1) AOQ AOQ,wrap_i64 (n:=((1+w.x.countP (fun d:DDead=>d.buf==(k:Int))+(w.tasks.take i3).countP (fun t:DTask=>t.own==(k:Int)+1):Nat):Int)+1) AOQ AOQ]
     exact ALZ
   have hi':i3=w.tasks.length:=AOc
   subst hi'
   simp only[go_sem,bM]
   have:=hcl
   have hn0:=Int.natCast_nonneg (1+w.x.countP (fun d:DDead=>d.buf==(k:Int))+w.tasks.countP (fun t:DTask=>t.own==(k:Int)+1))
   revert hpl hn0
   generalize ((1+w.x.countP (fun d:DDead=>d.buf==(k:Int))+w.tasks.countP (fun t:DTask=>t.own==(k:Int)+1):Nat):Int)=n
   exact AG3
 ·have hk':k=w.b.length:=by have:=hk.1; simp at h; omega
  subst hk'
  simp only[go_sem,TE hk,aj]
  refine ABK 1 (A:=Nat) (fun x=>[(8,.c (.v (.int .i64 (x))))]) (fun _=>[⟨44,14,[w.c],true,true⟩]) (FC w.x (Lj w)) (fun x=>w.x.length-x) 0 ⟨⟨rfl,rfl⟩,rfl,DZ⟩ ?_
  intro j hj
  unfold gX
  refine AOJ (fun h=>?_) fun h=>?_
  ·have hj':j<w.x.length:=by simpa using h
   simp only[go_sem,AA _ hj',hj']
   refine AAm ?_
   have hwb:IntKind.i64.wrap ((w.b.length:Int)-1)=(w.b.length:Int)-1:=wrap_i64 AOQ AOQ
   simp only[go_sem,AA _ hj',hj',hwb]
   refine ABL _ (AO w.x[j].buf 0 _) ?_
   rcases FB w w.x[j].buf with ⟨m,hm,hbm,hat⟩ | ⟨hbm,hat⟩
   ·have e1:Ad (m:Int) 0 ((w.b.length:Int)-1)=true:=by simp[Ad]; omega
    rcases h1:w.b[m].gen==w.x[j].gen with _ | _
    ·have g1:(w.b[m].gen != w.x[j].gen)=true:=by simp[bne,h1]
     simp only[go_sem,AA _ hj',hj',e1,hbm,AA _ hm,hm,g1,BU (p:=Lj w) hj' (by simp only[Lj,hat,h1,ag])]
    have g1:(w.b[m].gen != w.x[j].gen)=false:=AP2
    simp only[go_sem,AA _ hj',hj',e1,hbm,AA _ hm,hm,g1]
    refine ABL _ (AO w.x[j].at0 0 w.e) ?_
    rcases h2:Ad w.x[j].at0 0 w.e with _ | _
    ·simp only[go_sem,h2,BU (p:=Lj w) hj' (by simp only[Lj,hat,h1,h2,aK])]
    ·simp only[go_sem,h2,wrap_i64 (n:=(j:Int)+1) AOQ AOQ]
     exact⟨j+1,⟨rfl,rfl⟩,rfl,BH hj' hj (by simp only[Lj,hat,h1,h2,aN]),AOQ⟩
   ·have e1:Ad w.x[j].buf 0 ((w.b.length:Int)-1)=false:=by
     unfold Ad
     rw[Bool.and_eq_false_iff]
     by_cases h0:0≤w.x[j].buf
     ·right; simp; omega
     ·left; simp; omega
    simp only[go_sem,AA _ hj',hj',e1,BU (p:=Lj w) hj' (by simp only[Lj,hat])]
  ·have hj':j=w.x.length:=by have:=hj.1; simp at h; omega
   subst hj'
   simp only[go_sem,DN hj]
noncomputable def V5 (w:DWorld) (r:DRef):Bool:=there w r&&(if(r.kind==1)=true then r.many==w.c0.slots else(Ej w r).all fun x=>Ad x.id r.first (IntKind.i64.wrap (IntKind.i64.wrap (r.first+r.many)-1)))
theorem kS (w:DWorld) (hf:Aa w):Ctr prog 87 [.agg w.c] [.val (.c (.v (.bool (w.d.l.all (V5 w)))))]:=by
 refine CM call87 func87 ntmps87 results87 fun hw=>?_
 have hd:=lenD hf
 simp only[go_sem]
 refine ABK 1 (A:=Nat) (fun x=>[(3,.c (.v (.int .i64 (x))))]) (fun _=>[⟨44,14,[w.c],true,true⟩]) (FC w.d.l (V5 w)) (fun x=>w.d.l.length-x) 0 ⟨⟨rfl,rfl⟩,rfl,DZ⟩ ?_
 intro k hk
 refine AOJ (fun h=>?_) fun h=>?_
 ·have hk':k<w.d.l.length:=by simpa using h
  simp only[go_sem,AA _ hk',hk']
  try refine AAm ?_
  try simp only[go_sem,AA _ hk',hk']
  first | refine CY (GR w w.d.l[k]) ?_ | refine CW (GR w w.d.l[k]) fun _=>?_
  rcases h1:there w w.d.l[k] with _ | _
  ·simp only[go_sem,h1,BU (p:=V5 w) hk' (by simp only[V5,h1,ag])]
  rcases k1:w.d.l[k].kind==1 with _ | _
  rotate_left
  ·rcases k2:w.d.l[k].many==w.c0.slots with _ | _
   ·have g2:(w.d.l[k].many != w.c0.slots)=true:=by simp[bne,k2]
    simp only[go_sem,h1,k1,k2,g2,BU (p:=V5 w) hk' (by simp only[V5,h1,k1,k2,bf,aK])]
   ·have g2:(w.d.l[k].many != w.c0.slots)=false:=by simp[bne,k2]
    simp only[go_sem,h1,k1,k2,g2,wrap_i64 (n:=(k:Int)+1) AOQ AOQ]
    exact⟨k+1,⟨rfl,rfl⟩,rfl,BH hk' hk (by simp only[V5,h1,k1,k2,bf,aN]),AOQ⟩
  obtain⟨m,hm,hbm,hat⟩ | ⟨hbm,hat⟩:=FB w w.d.l[k].buf
  rotate_left
  ·simp only[there,hat] at h1
   cases h1
  have hgl:=Yw w w.d.l[k]
  have hd1:V5 w w.d.l[k]=(Ej w w.d.l[k]).all fun x=>Ad x.id w.d.l[k].first (IntKind.i64.wrap (IntKind.i64.wrap (w.d.l[k].first+w.d.l[k].many)-1)):=by simp only[V5,h1,k1,aB,aX,aj]
  simp only[go_sem,h1,k1]
  try refine AAm ?_
  try simp only[go_sem,h1,k1]
  first | refine CY (Me w w.d.l[k] hf hm hbm) ?_ | refine CW (Me w w.d.l[k] hf hm hbm) fun _=>?_
  simp only[go_sem]
  refine ABK 2 (A:=Nat) (fun x=>[(6,.c (.v (.int .i64 (x))))]) (fun _=>[⟨44,14,[w.c],true,true⟩,⟨133,5,[w.d.l[k].c],true,true⟩]) (FC (Ej w w.d.l[k]) fun x=>Ad x.id w.d.l[k].first (IntKind.i64.wrap (IntKind.i64.wrap (w.d.l[k].first+w.d.l[k].many)-1))) (fun x=>(Ej w w.d.l[k]).length-x) 0 ⟨⟨rfl,rfl⟩,rfl,DZ⟩ ?_
  intro j hj
  refine AOJ (fun h=>?_) fun h=>?_
  ·have hj':j<(Ej w w.d.l[k]).length:=by simpa using h
   simp only[go_sem,AA _ hj',hj']
   try refine AAm ?_
   try simp only[go_sem,AA _ hj',hj']
   first | refine ABL _ (AO (Ej w w.d.l[k])[j].id w.d.l[k].first _) ?_ | refine AAM _ (AO (Ej w w.d.l[k])[j].id w.d.l[k].first _) fun _=>?_
   rcases h3:Ad (Ej w w.d.l[k])[j].id w.d.l[k].first (IntKind.i64.wrap (IntKind.i64.wrap (w.d.l[k].first+w.d.l[k].many)-1)) with _ | _
   ·simp only[go_sem,h3,BU (p:=V5 w) hk' (by rw[hd1]; exact BU (p:=fun x:DRow=>Ad x.id w.d.l[k].first (IntKind.i64.wrap (IntKind.i64.wrap (w.d.l[k].first+w.d.l[k].many)-1))) hj' h3)]
   ·simp only[go_sem,h3,wrap_i64 (n:=(j:Int)+1) AOQ AOQ]
    exact⟨j+1,⟨rfl,rfl⟩,rfl,BH hj' hj h3,AOQ⟩
  ·have hj':j=(Ej w w.d.l[k]).length:=by have:=hj.1; simp at h; omega
   subst hj'
   simp only[go_sem,wrap_i64 (n:=(k:Int)+1) AOQ AOQ]
   exact⟨k+1,⟨rfl,rfl⟩,rfl,BH hk' hk (by rw[hd1]; exact DN hj),AOQ⟩
 ·exact ANQ
end Go.Proofs.YtnoldekcdlaahaaGreat
