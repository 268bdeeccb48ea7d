/- A part. -/
import Derived.Test.YtnfbaclikokapaaGreatZh
import Derived.Test.YtnfbaclikokapaaGreatZr
set_option linter.unusedSimpArgs false
set_option linter.unusedVariables false
set_option maxHeartbeats 8000000
set_option maxRecDepth 10000
open Go.Proofs.Tryz
namespace Go.Proofs.YtnfbaclikokapaaGreat
open Go.Vm
theorem ADT (w:DWorld) (r:DRef):(fK w r).length≤12:=by
 unfold fK
 split
 ·exact XT w r
 ·exact ax _
theorem WW (w:DWorld) (hf:Aa w):Ctr prog 110 [.agg w.c] [.val (.c (.v (.bool (ZF w))))]:=by
 refine CM call110 func110 ntmps110 results110 fun hw=>?_
 have hb:=lenD hf
 unfold ZF
 simp only[go_sem]
 refine LoopU.mk 1 (A:=Nat) (fun x=>[(11,.c (.v (.int .i64 (x))))]) (fun _=>[⟨44,14,[w.c],true,true⟩]) (FO w.d.l (QG w)) (fun x=>w.d.l.length-x) 0 ⟨⟨rfl,rfl⟩,rfl,DW⟩ ?_
 intro k hk
 simp only[go_sem]
 refine cndC.mk (fun h=>?_) (fun h=>?_)
 ·have hk':k<w.d.l.length:=by simpa using h
  simp only[go_sem,AA _ hk',hk']
  try refine DrawK.mk ?_
  try simp only[go_sem,AA _ hk',hk']
  first | refine CY (Fz w w.d.l[k]) ?_ | refine CW (Fz w w.d.l[k]) fun _=>?_
  rcases h1:there w w.d.l[k] with _ | _
  ·simp only[go_sem,h1,BF (p:=QG w) hk' (by simp only[QG,h1,ag])]
  rcases h2:((w.d.l[k].kind==1)&&(w.d.l[k].many != w.c0.slots)) with _ | _
  rotate_left
  ·have hno:=BF (p:=QG w) hk' (by simp only[QG,h1,h2]; rfl)
   simp only[ak] at h2
   simp only[go_sem,h1,h2.1,h2.2,hno]
  have hgl:=ADT w w.d.l[k]
  have hp1:QG w w.d.l[k]=(fK w w.d.l[k]).all fun x=>CQ w.d.l[k] x.id:=by simp only[QG,h1,h2,aO,ai]
  have hgr:Ctr prog 183 [.agg w.c,.agg w.d.l[k].c] [.val (.c (.sl ((fK w w.d.l[k]).map DRow.c)))]:=KA w w.d.l[k] hf
  have k2:(w.d.l[k].kind==1)=true→(w.d.l[k].many != w.c0.slots)=false:=fun k1=>by rw[k1,ai] at h2; exact h2
  rcases k1:w.d.l[k].kind==1 with _ | _
  rotate_left
  ·have k2:=k2 k1
   simp only[go_sem,h1,k1,k2]
   refine CW (hgr) fun _=>?_
   simp only[go_sem]
   refine LoopU.mk 2 (A:=Nat) (fun x=>[(36,.c (.v (.int .i64 (x))))]) (fun _=>[⟨44,14,[w.c],true,true⟩,⟨196,5,[w.d.l[k].c],true,true⟩]) (FO (fK w w.d.l[k]) fun x=>CQ w.d.l[k] x.id) (fun x=>(fK w w.d.l[k]).length-x) 0 ⟨⟨rfl,rfl⟩,rfl,DW⟩ ?_
   intro j hj
   simp only[go_sem]
   refine cndC.mk (fun h=>?_) (fun h=>?_)
   ·have hj':j<(fK w w.d.l[k]).length:=by simpa using h
    simp only[go_sem,AA _ hj',hj']
    try refine DrawK.mk ?_
    try simp only[go_sem,AA _ hj',hj']
    first | refine CY (Fv w.d.l[k] (fK w w.d.l[k])[j].id) ?_ | refine CW (Fv w.d.l[k] (fK w w.d.l[k])[j].id) fun _=>?_
    rcases h3:CQ w.d.l[k] (fK w w.d.l[k])[j].id with _ | _
    ·simp only[go_sem,h3,BF (p:=QG w) hk' (by rw[hp1]; exact BF (p:=fun x:DRow=>CQ w.d.l[k] x.id) hj' h3)]
    ·simp only[go_sem,h3,wrap_i64 (n:=(j:Int)+1) (by omega) (by omega)]
     exact⟨j+1,⟨rfl,rfl⟩,rfl,Bc hj' hj h3,by omega⟩
   ·have hj':j=(fK w w.d.l[k]).length:=by have:=hj.1; simp at h; omega
    subst hj'
    simp only[go_sem,wrap_i64 (n:=(k:Int)+1) (by omega) (by omega)]
    exact⟨k+1,⟨rfl,rfl⟩,rfl,Bc hk' hk (by rw[hp1]; exact CP hj),by omega⟩
  ·simp only[go_sem,h1,k1]
   refine CW (hgr) fun _=>?_
   simp only[go_sem]
   refine LoopU.mk 2 (A:=Nat) (fun x=>[(36,.c (.v (.int .i64 (x))))]) (fun _=>[⟨44,14,[w.c],true,true⟩,⟨196,5,[w.d.l[k].c],true,true⟩]) (FO (fK w w.d.l[k]) fun x=>CQ w.d.l[k] x.id) (fun x=>(fK w w.d.l[k]).length-x) 0 ⟨⟨rfl,rfl⟩,rfl,DW⟩ ?_
   intro j hj
   simp only[go_sem]
   refine cndC.mk (fun h=>?_) (fun h=>?_)
   ·have hj':j<(fK w w.d.l[k]).length:=by simpa using h
    simp only[go_sem,AA _ hj',hj']
    try refine DrawK.mk ?_
    try simp only[go_sem,AA _ hj',hj']
    first | refine CY (Fv w.d.l[k] (fK w w.d.l[k])[j].id) ?_ | refine CW (Fv w.d.l[k] (fK w w.d.l[k])[j].id) fun _=>?_
    rcases h3:CQ w.d.l[k] (fK w w.d.l[k])[j].id with _ | _
    ·simp only[go_sem,h3,BF (p:=QG w) hk' (by rw[hp1]; exact BF (p:=fun x:DRow=>CQ w.d.l[k] x.id) hj' h3)]
    ·simp only[go_sem,h3,wrap_i64 (n:=(j:Int)+1) (by omega) (by omega)]
     exact⟨j+1,⟨rfl,rfl⟩,rfl,Bc hj' hj h3,by omega⟩
   ·have hj':j=(fK w w.d.l[k]).length:=by have:=hj.1; simp at h; omega
    subst hj'
    simp only[go_sem,wrap_i64 (n:=(k:Int)+1) (by omega) (by omega)]
    exact⟨k+1,⟨rfl,rfl⟩,rfl,Bc hk' hk (by rw[hp1]; exact CP hj),by omega⟩
 ·have hk':k=w.d.l.length:=by have:=hk.1; simp at h; omega
  subst hk'
  simp only[go_sem,CP hk]
theorem SQ {α:Type} (p:α→Bool) (l:List α) {k:Nat} (h:k<l.length):(l.take (k+1)).countP p=(l.take k).countP p+if p l[k]=true then 1 else 0:=by
 rw[List.take_add_one,aA h,List.countP_append]
 simp[List.countP_cons]
theorem cnt_le {α:Type} (p:α→Bool) (l:List α) (k:Nat) (h:l.length≤1048576):(l.take k).countP p≤1048576:=by
 have h1:=List.countP_le_length (p:=p) (l:=l.take k)
 have h2:=List.length_take_le k l
 have h3:(l.take k).length≤l.length:=by simp; omega
 omega
theorem QP (w:DWorld) (hf:Aa w):Ctr prog 115 [.agg w.c] [.val (.c (.v (.bool (Uc w))))]:=by
 refine CM call115 func115 ntmps115 results115 fun hw=>?_
 have hb:=qi hf
 have hd:=lenD hf
 have hx:=AFA hf
 have htl:=Ud hf
 unfold Uc
 simp only[go_sem]
 refine LoopU.mk 1 (A:=Nat) (fun x=>[(15,.c (.v (.int .i64 (x))))]) (fun _=>[⟨44,14,[w.c],true,true⟩]) (qg w.b (Oo w)) (fun x=>w.b.length-x) 0 ⟨⟨rfl,rfl⟩,rfl,kT⟩ ?_
 intro k hk
 simp only[go_sem]
 refine cndC.mk (fun h=>?_) (fun h=>?_)
 ·have hk':k<w.b.length:=by simpa using h
  simp only[go_sem,AA _ hk',hk']
  refine LoopU.mk 2 (A:=Nat) (fun x=>[(24,.c (.v (.int .i64 (x)))),(5,.c (.v (.int .i64 ((Ny (w.d.l.take x) k:Nat):Int))))]) (fun _=>[⟨44,14,[w.c],true,true⟩,⟨160,5,[w.b[k].c],true,true⟩]) (fun x=>x≤w.d.l.length) (fun x=>w.d.l.length-x) 0 ⟨⟨rfl,rfl⟩,rfl,ax _⟩ ?_
  intro i1 hi1
  simp only[go_sem]
  refine cndC.mk (fun h=>?_) (fun h=>?_)
  ·have hi':i1<w.d.l.length:=by simpa using h
   have hn:=SQ (fun r:DRef=>r.buf==(k:Int)) w.d.l hi'
   have hle:=cnt_le (fun r:DRef=>r.buf==(k:Int)) w.d.l i1 hd
   change Ny (w.d.l.take (i1+1)) k=Ny (w.d.l.take i1) k+_ at hn
   change Ny (w.d.l.take i1) k≤_ at hle
   rcases h1:w.d.l[i1].buf==(k:Int) with _ | _
   ·rw[h1] at hn
    simp only[go_sem,AA _ hi',hi',h1,wrap_i64 (n:=(i1:Int)+1) (by omega) (by omega)]
    exact⟨i1+1,⟨rfl,rfl⟩,by rw[hn]; rfl,hi',by omega⟩
   ·rw[h1] at hn
    simp only[go_sem,AA _ hi',hi',h1,wrap_i64 (n:=(i1:Int)+1) (by omega) (by omega),wrap_i64 (n:=((Ny (w.d.l.take i1) k:Nat):Int)+1) (by omega) (by omega)]
    exact⟨i1+1,⟨rfl,rfl⟩,by rw[hn]; rfl,hi',by omega⟩
  have hi':i1=w.d.l.length:=by simp at h; omega
  subst hi'
  simp only[go_sem,bG]
  have hcd:Ny w.d.l k≤1048576:=by have:=cnt_le (fun r:DRef=>r.buf==(k:Int)) w.d.l w.d.l.length hd; rw[bG] at this; exact this
  refine LoopU.mk 2 (A:=Nat) (fun x=>[(38,.c (.v (.int .i64 (x)))),(5,.c (.v (.int .i64 ((Ny w.d.l k+(w.x.take x).countP (fun d:DDead=>d.buf==(k:Int)):Nat):Int))))]) (fun _=>[⟨44,14,[w.c],true,true⟩,⟨160,5,[w.b[k].c],true,true⟩]) (fun x=>x≤w.x.length) (fun x=>w.x.length-x) 0 ⟨⟨rfl,rfl⟩,rfl,ax _⟩ ?_
  intro i2 hi2
  simp only[go_sem]
  refine cndC.mk (fun h=>?_) (fun h=>?_)
  ·have hi':i2<w.x.length:=by simpa using h
   have hn:=SQ (fun d:DDead=>d.buf==(k:Int)) w.x hi'
   have hle:=cnt_le (fun d:DDead=>d.buf==(k:Int)) w.x i2 hx
   rcases h1:w.x[i2].buf==(k:Int) with _ | _
   ·rw[h1] at hn
    simp only[go_sem,AA _ hi',hi',h1,wrap_i64 (n:=(i2:Int)+1) (by omega) (by omega)]
    exact⟨i2+1,⟨rfl,rfl⟩,by rw[hn]; rfl,hi',by omega⟩
   ·rw[h1] at hn
    simp only[go_sem,AA _ hi',hi',h1,wrap_i64 (n:=(i2:Int)+1) (by omega) (by omega),wrap_i64 (n:=((Ny w.d.l k+(w.x.take i2).countP (fun d:DDead=>d.buf==(k:Int)):Nat):Int)+1) (by omega) (by omega)]
    exact⟨i2+1,⟨rfl,rfl⟩,by rw[hn]; rfl,hi',by omega⟩
  have hi':i2=w.x.length:=by simp at h; omega
  subst hi'
  simp only[go_sem,bG]
  have hcx:w.x.countP (fun d:DDead=>d.buf==(k:Int))≤1048576:=by have:=cnt_le (fun d:DDead=>d.buf==(k:Int)) w.x w.x.length hx; rw[bG] at this; exact this
  have hk1:IntKind.i64.wrap ((k:Int)+1)=(k:Int)+1:=wrap_i64 (by omega) (by omega)
  refine LoopU.mk 2 (A:=Nat) (fun x=>[(52,.c (.v (.int .i64 (x)))),(5,.c (.v (.int .i64 ((Ny w.d.l k+w.x.countP (fun d:DDead=>d.buf==(k:Int))+(w.tasks.take x).countP (fun t:DTask=>t.own==(k:Int)+1):Nat):Int))))]) (fun _=>[⟨44,14,[w.c],true,true⟩,⟨160,5,[w.b[k].c],true,true⟩]) (fun x=>x≤w.tasks.length) (fun x=>w.tasks.length-x) 0 ⟨⟨rfl,rfl⟩,rfl,ax _⟩ ?_
  intro i3 hi3
  simp only[go_sem]
  refine cndC.mk (fun h=>?_) (fun h=>?_)
  ·have hi':i3<w.tasks.length:=by simpa using h
   have hn:=SQ (fun t:DTask=>t.own==(k:Int)+1) w.tasks hi'
   have hle:=cnt_le (fun t:DTask=>t.own==(k:Int)+1) w.tasks i3 htl
   rcases h1:w.tasks[i3].own==(k:Int)+1 with _ | _
   ·rw[h1] at hn
    simp only[go_sem,AA _ hi',hi',hk1,h1,wrap_i64 (n:=(i3:Int)+1) (by omega) (by omega)]
    exact⟨i3+1,⟨rfl,rfl⟩,by rw[hn]; rfl,hi',by omega⟩
   ·rw[h1] at hn
    simp only[go_sem,AA _ hi',hi',hk1,h1,wrap_i64 (n:=(i3:Int)+1) (by omega) (by omega),wrap_i64 (n:=((Ny w.d.l k+w.x.countP (fun d:DDead=>d.buf==(k:Int))+(w.tasks.take i3).countP (fun t:DTask=>t.own==(k:Int)+1):Nat):Int)+1) (by omega) (by omega)]
    exact⟨i3+1,⟨rfl,rfl⟩,by rw[hn]; rfl,hi',by omega⟩
  have hi':i3=w.tasks.length:=by simp at h; omega
  subst hi'
  simp only[go_sem,bG]
  have hp:Oo w k w.b[k]=Om (((Ny w.d.l k+w.x.countP (fun d:DDead=>d.buf==(k:Int)))+w.tasks.countP (fun t:DTask=>t.own==(k:Int)+1):Nat):Int) w.b[k]:=by unfold Oo kR; rw[Nat.add_assoc]
  revert hp
  generalize (((Ny w.d.l k+w.x.countP (fun d:DDead=>d.buf==(k:Int)))+w.tasks.countP (fun t:DTask=>t.own==(k:Int)+1):Nat):Int)=n
  intro hp
  unfold Om at hp
  rcases h1:w.b[k].kind==0 with _ | _
  ·have g1:(w.b[k].kind != 0)=true:=by simp[bne,h1]
   rcases h2:n != 1 with _ | _
   ·simp only[go_sem,h1,g1,h2,wrap_i64 (n:=(k:Int)+1) (by omega) (by omega)]
    exact⟨k+1,⟨rfl,rfl⟩,rfl,M_ hk' hk (by rw[hp,h1,g1,h2]; rfl),by omega⟩
   ·simp only[go_sem,h1,g1,h2,IL (p:=Oo w) hk' (by rw[hp,h1,g1,h2]; rfl)]
  ·have g1:(w.b[k].kind != 0)=false:=by simp[bne,h1]
   rcases h2:decide (n>0) with _ | _
   ·simp only[go_sem,h1,g1,h2,wrap_i64 (n:=(k:Int)+1) (by omega) (by omega)]
    exact⟨k+1,⟨rfl,rfl⟩,rfl,M_ hk' hk (by rw[hp,h1,g1,h2]; rfl),by omega⟩
   ·simp only[go_sem,h1,g1,h2,IL (p:=Oo w) hk' (by rw[hp,h1,g1,h2]; rfl)]
 ·have hk':k=w.b.length:=by have:=hk.1; simp at h; omega
  subst hk'
  simp only[go_sem,Qw hk]
noncomputable def O7 (w:DWorld) (i:Nat) (b:DBuf):Bool:=Nv w b&&SL w i b
noncomputable def fZ (w:DWorld):Bool:=((w.b.length:Int)==w.c0.bufs)&&(QI w.b (O7 w)&&ZG w)
theorem ZX (w:DWorld) (hf:Aa w):Ctr prog 93 [.agg w.c] [.val (.c (.v (.bool (fZ w))))]:=by
 refine CM call93 func93 ntmps93 results93 fun hw=>?_
 have hb:=qi hf
 have hd:=lenD hf
 have hx:=AFA hf
 have htl:=Ud hf
 unfold fZ
 rcases h0:((w.b.length:Int)==w.c0.bufs) with _ | _
 ·have g0:((w.b.length:Int) != w.c0.bufs)=true:=by simp only[bne,h0,aO]
  simp only[go_sem,g0,ag]
 have g0:((w.b.length:Int) != w.c0.bufs)=false:=by simp only[bne,h0,aQ]
 simp only[go_sem,g0,ai]
 refine LoopU.mk 1 (A:=Nat) (fun x=>[(3,.c (.v (.int .i64 (x))))]) (fun _=>[⟨44,14,[w.c],true,true⟩]) (qg w.b (O7 w)) (fun x=>w.b.length-x) 0 ⟨⟨rfl,rfl⟩,rfl,kT⟩ ?_
 intro k hk
 simp only[go_sem]
 refine cndC.mk (fun h=>?_) (fun h=>?_)
 ·have hk':k<w.b.length:=by simpa using h
  simp only[go_sem,AA _ hk',hk']
  try refine DrawK.mk ?_
  try simp only[go_sem,AA _ hk',hk']
  first | refine CY (WO w.c0.cols w.b[k] (Nz hf hk') (SS hw.1 hk')) ?_ | refine CW (WO w.c0.cols w.b[k] (Nz hf hk') (SS hw.1 hk')) fun _=>?_
  rcases h1:ZA w.c0.cols w.b[k] with _ | _
  ·simp only[go_sem,h1,IL (p:=O7 w) hk' (by simp only[O7,Nv,h1,ag]),ag]
  simp only[go_sem,AA _ hk',hk',h1]
  have hs:=AG3 hf hk'
  refine LoopU.mk 1 (A:=Nat) (fun x=>[(4,.c (.v (.int .i64 (x))))]) (fun _=>[⟨44,14,[w.c],true,true⟩]) (FO w.b[k].c0.l fun s=>!decide (s.ins>w.t)) (fun x=>w.b[k].c0.l.length-x) 0 ⟨⟨rfl,rfl⟩,rfl,DW⟩ ?_
  intro j hj
  simp only[go_sem,AA _ hk',hk']
  try refine DrawK.mk ?_
  try simp only[go_sem,AA _ hk',hk']
  refine cndC.mk (fun h=>?_) (fun h=>?_)
  ·have hj':j<w.b[k].c0.l.length:=by simpa using h
   simp only[go_sem,AA _ hk',hk',AA _ hj',hj']
   try refine DrawK.mk ?_
   try simp only[go_sem,AA _ hk',hk',AA _ hj',hj']
   rcases h2:decide (w.b[k].c0.l[j].ins>w.t) with _ | _
   ·simp only[go_sem,AA _ hk',hk',AA _ hj',hj',h2,wrap_i64 (n:=(j:Int)+1) (by omega) (by omega)]
    exact⟨j+1,⟨rfl,rfl⟩,rfl,Bc hj' hj (by simp only[h2,aO]),by omega⟩
   ·have hno:=BF (p:=fun s:DSlot=>!decide (s.ins>w.t)) hj' (by simp only[h2,aQ])
    simp only[go_sem,AA _ hk',hk',AA _ hj',hj',h2,IL (p:=O7 w) hk' (by simp only[O7,Nv,hno,aH,ag]),ag]
  have hj':j=w.b[k].c0.l.length:=by have:=hj.1; simp at h; omega
  subst hj'
  have hp1:Nv w w.b[k]=true:=by simp only[Nv,h1,CP hj,aS]
  simp only[go_sem]
  try refine DrawK.mk ?_
  try simp only[go_sem]
  first | refine CY (UY w.d k hd) ?_ | refine CW (UY w.d k hd) fun _=>?_
  obtain⟨c0,hc0,hcl⟩:∃ c0:Nat,c0=(if D_ w.d.l k=true then 1 else 0)∧c0≤1:=⟨_,rfl,by split<;>omega⟩
  have hpl:SL w k w.b[k]=Om ((c0+w.x.countP (fun d:DDead=>d.buf==(k:Int))+w.tasks.countP (fun t:DTask=>t.own==(k:Int)+1):Nat):Int) w.b[k]:=by unfold SL kR; rw[hc0,Nat.add_assoc]
  have hcx:w.x.countP (fun d:DDead=>d.buf==(k:Int))≤1048576:=by have:=cnt_le (fun d:DDead=>d.buf==(k:Int)) w.x w.x.length hx; rw[bG] at this; exact this
  have hk1:IntKind.i64.wrap ((k:Int)+1)=(k:Int)+1:=wrap_i64 (by omega) (by omega)
  rcases h2:D_ w.d.l k with _ | _
  ·simp only[go_sem,h2]
   simp only[h2,aC,aT,bD] at hc0
   subst hc0
   refine LoopU.mk 1 (A:=Nat) (fun x=>[(6,.c (.v (.int .i64 (x)))),(5,.c (.v (.int .i64 (((w.x.take x).countP (fun d:DDead=>d.buf==(k:Int)):Nat):Int))))]) (fun _=>[⟨44,14,[w.c],true,true⟩]) (fun x=>x≤w.x.length) (fun x=>w.x.length-x) 0 ⟨⟨rfl,rfl⟩,rfl,ax _⟩ ?_
   intro i2 hi2
   simp only[go_sem]
   refine cndC.mk (fun h=>?_) (fun h=>?_)
   ·have hi':i2<w.x.length:=by simpa using h
    have hn:=SQ (fun d:DDead=>d.buf==(k:Int)) w.x hi'
    have hle:=cnt_le (fun d:DDead=>d.buf==(k:Int)) w.x i2 hx
    rcases h3:w.x[i2].buf==(k:Int) with _ | _
    ·rw[h3] at hn
     simp only[go_sem,AA _ hi',hi',h3]
     try refine DrawK.mk ?_
     try simp only[go_sem,AA _ hi',hi',h3]
     simp only[go_sem,wrap_i64 (n:=(i2:Int)+1) (by omega) (by omega)]
     exact⟨i2+1,⟨rfl,rfl⟩,by rw[hn]; rfl,hi',by omega⟩
    ·rw[h3] at hn
     simp only[go_sem,AA _ hi',hi',h3]
     try refine DrawK.mk ?_
     try simp only[go_sem,AA _ hi',hi',h3]
     simp only[go_sem,wrap_i64 (n:=(i2:Int)+1) (by omega) (by omega),wrap_i64 (n:=(((w.x.take i2).countP (fun d:DDead=>d.buf==(k:Int)):Nat):Int)+1) (by omega) (by omega)]
     exact⟨i2+1,⟨rfl,rfl⟩,by rw[hn]; rfl,hi',by omega⟩
   have hi':i2=w.x.length:=by simp at h; omega
   subst hi'
   simp only[go_sem,bG]
   refine LoopU.mk 1 (A:=Nat) (fun x=>[(7,.c (.v (.int .i64 (x)))),(5,.c (.v (.int .i64 ((w.x.countP (fun d:DDead=>d.buf==(k:Int))+(w.tasks.take x).countP (fun t:DTask=>t.own==(k:Int)+1):Nat):Int))))]) (fun _=>[⟨44,14,[w.c],true,true⟩]) (fun x=>x≤w.tasks.length) (fun x=>w.tasks.length-x) 0 ⟨⟨rfl,rfl⟩,rfl,ax _⟩ ?_
   intro i3 hi3
   simp only[go_sem]
   refine cndC.mk (fun h=>?_) (fun h=>?_)
   ·have hi':i3<w.tasks.length:=by simpa using h
    have hn:=SQ (fun t:DTask=>t.own==(k:Int)+1) w.tasks hi'
    have hle:=cnt_le (fun t:DTask=>t.own==(k:Int)+1) w.tasks i3 htl
    rcases h3:w.tasks[i3].own==(k:Int)+1 with _ | _
    ·rw[h3] at hn
     simp only[go_sem,AA _ hi',hi',hk1,h3]
     try refine DrawK.mk ?_
     try simp only[go_sem,AA _ hi',hi',hk1,h3]
     simp only[go_sem,wrap_i64 (n:=(i3:Int)+1) (by omega) (by omega)]
     exact⟨i3+1,⟨rfl,rfl⟩,by rw[hn]; rfl,hi',by omega⟩
    ·rw[h3] at hn
     simp only[go_sem,AA _ hi',hi',hk1,h3]
     try refine DrawK.mk ?_
     try simp only[go_sem,AA _ hi',hi',hk1,h3]
     simp only[go_sem,wrap_i64 (n:=(i3:Int)+1) (by omega) (by omega),wrap_i64 (n:=((w.x.countP (fun d:DDead=>d.buf==(k:Int))+(w.tasks.take i3).countP (fun t:DTask=>t.own==(k:Int)+1):Nat):Int)+1) (by omega) (by omega)]
     exact⟨i3+1,⟨rfl,rfl⟩,by rw[hn]; rfl,hi',by omega⟩
   have hi':i3=w.tasks.length:=by simp at h; omega
   subst hi'
   simp only[go_sem,bG]
   rw[Zj] at hpl
   have hn0:=Int.natCast_nonneg (w.x.countP (fun d:DDead=>d.buf==(k:Int))+w.tasks.countP (fun t:DTask=>t.own==(k:Int)+1))
   revert hpl hn0
   generalize ((w.x.countP (fun d:DDead=>d.buf==(k:Int))+w.tasks.countP (fun t:DTask=>t.own==(k:Int)+1):Nat):Int)=n
   intro hpl hn0
   unfold Om at hpl
   have hbs:O7 w k w.b[k]=SL w k w.b[k]:=by simp only[O7,hp1,ai]
   rcases h4:w.b[k].kind==0 with _ | _
   ·have g4:(w.b[k].kind != 0)=true:=by simp[bne,h4]
    rcases h5:n != 1 with _ | _
    ·simp only[go_sem,AA _ hk',hk',h4,g4,h5,wrap_i64 (n:=(k:Int)+1) (by omega) (by omega)]
     exact⟨k+1,⟨rfl,rfl⟩,rfl,M_ hk' hk (by rw[hbs,hpl,h4,g4,h5]; rfl),by omega⟩
    ·simp only[go_sem,AA _ hk',hk',h4,g4,h5,IL (p:=O7 w) hk' (by rw[hbs,hpl,h4,g4,h5]; rfl),ag]
   ·have g4:(w.b[k].kind != 0)=false:=by simp[bne,h4]
    rcases h5:n != 0 with _ | _
    ·have g5:decide (n>0)=false:=by have:n=0:=(by simpa using h5); rw[this]; rfl
     simp only[go_sem,AA _ hk',hk',h4,g4,h5,wrap_i64 (n:=(k:Int)+1) (by omega) (by omega)]
     exact⟨k+1,⟨rfl,rfl⟩,rfl,M_ hk' hk (by rw[hbs,hpl,h4,g4,g5]; rfl),by omega⟩
    ·have g5:decide (n>0)=true:=by have:n≠0:=(by simpa using h5); simp; omega
     simp only[go_sem,AA _ hk',hk',h4,g4,h5,IL (p:=O7 w) hk' (by rw[hbs,hpl,h4,g4,g5]; rfl),ag]
  ·simp only[go_sem,h2]
   simp only[h2,aC,aT,bD] at hc0
   subst hc0
   refine LoopU.mk 1 (A:=Nat) (fun x=>[(6,.c (.v (.int .i64 (x)))),(5,.c (.v (.int .i64 ((1+(w.x.take x).countP (fun d:DDead=>d.buf==(k:Int)):Nat):Int))))]) (fun _=>[⟨44,14,[w.c],true,true⟩]) (fun x=>x≤w.x.length) (fun x=>w.x.length-x) 0 ⟨⟨rfl,rfl⟩,rfl,ax _⟩ ?_
   intro i2 hi2
   simp only[go_sem]
   refine cndC.mk (fun h=>?_) (fun h=>?_)
   ·have hi':i2<w.x.length:=by simpa using h
    have hn:=SQ (fun d:DDead=>d.buf==(k:Int)) w.x hi'
    have hle:=cnt_le (fun d:DDead=>d.buf==(k:Int)) w.x i2 hx
    rcases h3:w.x[i2].buf==(k:Int) with _ | _
    ·rw[h3] at hn
     simp only[go_sem,AA _ hi',hi',h3]
     try refine DrawK.mk ?_
     try simp only[go_sem,AA _ hi',hi',h3]
     simp only[go_sem,wrap_i64 (n:=(i2:Int)+1) (by omega) (by omega)]
     exact⟨i2+1,⟨rfl,rfl⟩,by rw[hn]; rfl,hi',by omega⟩
    ·rw[h3] at hn
     simp only[go_sem,AA _ hi',hi',h3]
     try refine DrawK.mk ?_
     try simp only[go_sem,AA _ hi',hi',h3]
     simp only[go_sem,wrap_i64 (n:=(i2:Int)+1) (by omega) (by omega),wrap_i64 (n:=((1+(w.x.take i2).countP (fun d:DDead=>d.buf==(k:Int)):Nat):Int)+1) (by omega) (by omega)]
     exact⟨i2+1,⟨rfl,rfl⟩,by rw[hn]; rfl,hi',by omega⟩
   have hi':i2=w.x.length:=by simp at h; omega
   subst hi'
   simp only[go_sem,bG]
   refine LoopU.mk 1 (A:=Nat) (fun x=>[(7,.c (.v (.int .i64 (x)))),(5,.c (.v (.int .i64 ((1+w.x.countP (fun d:DDead=>d.buf==(k:Int))+(w.tasks.take x).countP (fun t:DTask=>t.own==(k:Int)+1):Nat):Int))))]) (fun _=>[⟨44,14,[w.c],true,true⟩]) (fun x=>x≤w.tasks.length) (fun x=>w.tasks.length-x) 0 ⟨⟨rfl,rfl⟩,rfl,ax _⟩ ?_
   intro i3 hi3
   simp only[go_sem]
   refine cndC.mk (fun h=>?_) (fun h=>?_)
   ·have hi':i3<w.tasks.length:=by simpa using h
    have hn:=SQ (fun t:DTask=>t.own==(k:Int)+1) w.tasks hi'
    have hle:=cnt_le (fun t:DTask=>t.own==(k:Int)+1) w.tasks i3 htl
    rcases h3:w.tasks[i3].own==(k:Int)+1 with _ | _
    ·rw[h3] at hn
     simp only[go_sem,AA _ hi',hi',hk1,h3]
     try refine DrawK.mk ?_
     try simp only[go_sem,AA _ hi',hi',hk1,h3]
     simp only[go_sem,wrap_i64 (n:=(i3:Int)+1) (by omega) (by omega)]
     exact⟨i3+1,⟨rfl,rfl⟩,by rw[hn]; rfl,hi',by omega⟩
    ·rw[h3] at hn
     simp only[go_sem,AA _ hi',hi',hk1,h3]
     try refine DrawK.mk ?_
     try simp only[go_sem,AA _ hi',hi',hk1,h3]
     simp only[go_sem,wrap_i64 (n:=(i3:Int)+1) (by omega) (by omega),wrap_i64 (n:=((1+w.x.countP (fun d:DDead=>d.buf==(k:Int))+(w.tasks.take i3).countP (fun t:DTask=>t.own==(k:Int)+1):Nat):Int)+1) (by omega) (by omega)]
     exact⟨i3+1,⟨rfl,rfl⟩,by rw[hn]; rfl,hi',by omega⟩
   have hi':i3=w.tasks.length:=by simp at h; omega
   subst hi'
   simp only[go_sem,bG]
   have:=hcl
   have hn0:=Int.natCast_nonneg (1+w.x.countP (fun d:DDead=>d.buf==(k:Int))+w.tasks.countP (fun t:DTask=>t.own==(k:Int)+1))
   revert hpl hn0
   generalize ((1+w.x.countP (fun d:DDead=>d.buf==(k:Int))+w.tasks.countP (fun t:DTask=>t.own==(k:Int)+1):Nat):Int)=n
   intro hpl hn0
   unfold Om at hpl
   have hbs:O7 w k w.b[k]=SL w k w.b[k]:=by simp only[O7,hp1,ai]
   rcases h4:w.b[k].kind==0 with _ | _
   ·have g4:(w.b[k].kind != 0)=true:=by simp[bne,h4]
    rcases h5:n != 1 with _ | _
    ·simp only[go_sem,AA _ hk',hk',h4,g4,h5,wrap_i64 (n:=(k:Int)+1) (by omega) (by omega)]
     exact⟨k+1,⟨rfl,rfl⟩,rfl,M_ hk' hk (by rw[hbs,hpl,h4,g4,h5]; rfl),by omega⟩
    ·simp only[go_sem,AA _ hk',hk',h4,g4,h5,IL (p:=O7 w) hk' (by rw[hbs,hpl,h4,g4,h5]; rfl),ag]
   ·have g4:(w.b[k].kind != 0)=false:=by simp[bne,h4]
    rcases h5:n != 0 with _ | _
    ·have g5:decide (n>0)=false:=by have:n=0:=(by simpa using h5); rw[this]; rfl
     simp only[go_sem,AA _ hk',hk',h4,g4,h5,wrap_i64 (n:=(k:Int)+1) (by omega) (by omega)]
     exact⟨k+1,⟨rfl,rfl⟩,rfl,M_ hk' hk (by rw[hbs,hpl,h4,g4,g5]; rfl),by omega⟩
    ·have g5:decide (n>0)=true:=by have:n≠0:=(by simpa using h5); simp; omega
     simp only[go_sem,AA _ hk',hk',h4,g4,h5,IL (p:=O7 w) hk' (by rw[hbs,hpl,h4,g4,g5]; rfl),ag]
 ·have hk':k=w.b.length:=by have:=hk.1; simp at h; omega
  subst hk'
  simp only[go_sem,Qw hk,ai]
  refine LoopU.mk 1 (A:=Nat) (fun x=>[(8,.c (.v (.int .i64 (x))))]) (fun _=>[⟨44,14,[w.c],true,true⟩]) (FO w.x (J7 w)) (fun x=>w.x.length-x) 0 ⟨⟨rfl,rfl⟩,rfl,DW⟩ ?_
  intro j hj
  unfold ZG
  simp only[go_sem]
  refine cndC.mk (fun h=>?_) (fun h=>?_)
  ·have hj':j<w.x.length:=by simpa using h
   simp only[go_sem,AA _ hj',hj']
   refine DrawK.mk ?_
   have hwb:IntKind.i64.wrap ((w.b.length:Int)-1)=(w.b.length:Int)-1:=wrap_i64 (by omega) (by omega)
   simp only[go_sem,AA _ hj',hj',hwb]
   refine CallF.mk _ (AL w.x[j].buf 0 _) ?_
   rcases Eu w w.x[j].buf with ⟨m,hm,hbm,hat⟩ | ⟨hbm,hat⟩
   ·have e1:Ac (m:Int) 0 ((w.b.length:Int)-1)=true:=by simp[Ac]; omega
    rcases h1:w.b[m].gen==w.x[j].gen with _ | _
    ·have g1:(w.b[m].gen != w.x[j].gen)=true:=by simp[bne,h1]
     simp only[go_sem,AA _ hj',hj',e1,hbm,AA _ hm,hm,g1,BF (p:=J7 w) hj' (by simp only[J7,hat,h1,ag])]
    have g1:(w.b[m].gen != w.x[j].gen)=false:=by simp[bne,h1]
    simp only[go_sem,AA _ hj',hj',e1,hbm,AA _ hm,hm,g1]
    refine CallF.mk _ (AL w.x[j].at0 0 w.e) ?_
    rcases h2:Ac w.x[j].at0 0 w.e with _ | _
    ·simp only[go_sem,h2,BF (p:=J7 w) hj' (by simp only[J7,hat,h1,h2,aH])]
    ·simp only[go_sem,h2,wrap_i64 (n:=(j:Int)+1) (by omega) (by omega)]
     exact⟨j+1,⟨rfl,rfl⟩,rfl,Bc hj' hj (by simp only[J7,hat,h1,h2,aS]),by omega⟩
   ·have e1:Ac w.x[j].buf 0 ((w.b.length:Int)-1)=false:=by
     unfold Ac
     rw[Bool.and_eq_false_iff]
     by_cases h0:0≤w.x[j].buf
     ·right; simp; omega
     ·left; simp; omega
    simp only[go_sem,AA _ hj',hj',e1,BF (p:=J7 w) hj' (by simp only[J7,hat])]
  ·have hj':j=w.x.length:=by have:=hj.1; simp at h; omega
   subst hj'
   simp only[go_sem,CP hj]
noncomputable def Uh (w:DWorld) (r:DRef):Bool:=there w r&&(if(r.kind==1)=true then r.many==w.c0.slots else(Eh w r).all fun x=>Ac x.id r.first (IntKind.i64.wrap (IntKind.i64.wrap (r.first+r.many)-1)))
theorem f_ (w:DWorld) (hf:Aa w):Ctr prog 94 [.agg w.c] [.val (.c (.v (.bool (w.d.l.all (Uh w)))))]:=by
 refine CM call94 func94 ntmps94 results94 fun hw=>?_
 have hd:=lenD hf
 simp only[go_sem]
 refine LoopU.mk 1 (A:=Nat) (fun x=>[(3,.c (.v (.int .i64 (x))))]) (fun _=>[⟨44,14,[w.c],true,true⟩]) (FO w.d.l (Uh w)) (fun x=>w.d.l.length-x) 0 ⟨⟨rfl,rfl⟩,rfl,DW⟩ ?_
 intro k hk
 simp only[go_sem]
 refine cndC.mk (fun h=>?_) (fun h=>?_)
 ·have hk':k<w.d.l.length:=by simpa using h
  simp only[go_sem,AA _ hk',hk']
  try refine DrawK.mk ?_
  try simp only[go_sem,AA _ hk',hk']
  first | refine CY (L9 w w.d.l[k]) ?_ | refine CW (L9 w w.d.l[k]) fun _=>?_
  rcases h1:there w w.d.l[k] with _ | _
  ·simp only[go_sem,h1,BF (p:=Uh w) hk' (by simp only[Uh,h1,ag])]
  rcases k1:w.d.l[k].kind==1 with _ | _
  rotate_left
  ·rcases k2:w.d.l[k].many==w.c0.slots with _ | _
   ·have g2:(w.d.l[k].many != w.c0.slots)=true:=by simp[bne,k2]
    simp only[go_sem,h1,k1,k2,g2,BF (p:=Uh w) hk' (by simp only[Uh,h1,k1,k2,bD,aH])]
   ·have g2:(w.d.l[k].many != w.c0.slots)=false:=by simp[bne,k2]
    simp only[go_sem,h1,k1,k2,g2,wrap_i64 (n:=(k:Int)+1) (by omega) (by omega)]
    exact⟨k+1,⟨rfl,rfl⟩,rfl,Bc hk' hk (by simp only[Uh,h1,k1,k2,bD,aS]),by omega⟩
  obtain⟨m,hm,hbm,hat⟩ | ⟨hbm,hat⟩:=Eu w w.d.l[k].buf
  rotate_left
  ·simp only[there,hat] at h1
   cases h1
  have hgl:=XT w w.d.l[k]
  have hd1:Uh w w.d.l[k]=(Eh w w.d.l[k]).all fun x=>Ac x.id w.d.l[k].first (IntKind.i64.wrap (IntKind.i64.wrap (w.d.l[k].first+w.d.l[k].many)-1)):=by simp only[Uh,h1,k1,aC,aT,ai]
  simp only[go_sem,h1,k1]
  try refine DrawK.mk ?_
  try simp only[go_sem,h1,k1]
  first | refine CY (QR w w.d.l[k] hf hm hbm) ?_ | refine CW (QR w w.d.l[k] hf hm hbm) fun _=>?_
  simp only[go_sem]
  refine LoopU.mk 2 (A:=Nat) (fun x=>[(6,.c (.v (.int .i64 (x))))]) (fun _=>[⟨44,14,[w.c],true,true⟩,⟨196,5,[w.d.l[k].c],true,true⟩]) (FO (Eh w w.d.l[k]) fun x=>Ac x.id w.d.l[k].first (IntKind.i64.wrap (IntKind.i64.wrap (w.d.l[k].first+w.d.l[k].many)-1))) (fun x=>(Eh w w.d.l[k]).length-x) 0 ⟨⟨rfl,rfl⟩,rfl,DW⟩ ?_
  intro j hj
  simp only[go_sem]
  refine cndC.mk (fun h=>?_) (fun h=>?_)
  ·have hj':j<(Eh w w.d.l[k]).length:=by simpa using h
   simp only[go_sem,AA _ hj',hj']
   try refine DrawK.mk ?_
   try simp only[go_sem,AA _ hj',hj']
   first | refine CallF.mk _ (AL (Eh w w.d.l[k])[j].id w.d.l[k].first _) ?_ | refine CallK.mk _ (AL (Eh w w.d.l[k])[j].id w.d.l[k].first _) fun _=>?_
   rcases h3:Ac (Eh w w.d.l[k])[j].id w.d.l[k].first (IntKind.i64.wrap (IntKind.i64.wrap (w.d.l[k].first+w.d.l[k].many)-1)) with _ | _
   ·simp only[go_sem,h3,BF (p:=Uh w) hk' (by rw[hd1]; exact BF (p:=fun x:DRow=>Ac x.id w.d.l[k].first (IntKind.i64.wrap (IntKind.i64.wrap (w.d.l[k].first+w.d.l[k].many)-1))) hj' h3)]
   ·simp only[go_sem,h3,wrap_i64 (n:=(j:Int)+1) (by omega) (by omega)]
    exact⟨j+1,⟨rfl,rfl⟩,rfl,Bc hj' hj h3,by omega⟩
  ·have hj':j=(Eh w w.d.l[k]).length:=by have:=hj.1; simp at h; omega
   subst hj'
   simp only[go_sem,wrap_i64 (n:=(k:Int)+1) (by omega) (by omega)]
   exact⟨k+1,⟨rfl,rfl⟩,rfl,Bc hk' hk (by rw[hd1]; exact CP hj),by omega⟩
 ·have hk':k=w.d.l.length:=by have:=hk.1; simp at h; omega
  subst hk'
  simp only[go_sem,CP hk]
theorem QQ (w:DWorld) (k:Nat) (hf:Aa w) (hk:k<w.tasks.length) (hp:k<w.p.length):Ctr prog 96 [.agg w.c,.c (.v (.int .i64 ((k:Int))))] [.val (.c (.v (.bool (O3 w k w.tasks[k] w.p[k]))))]:=by
 have hft:=ZV hf hk
 have hft2:=hft
 rw[Di] at hft2
 have hlt:=hft2.2.2.1
 have hld:=xW hf
 have hlb:=qi hf
 refine CM call96 func96 ntmps96 results96 fun hw=>?_
 generalize ht:w.tasks[k]=t at hft hft2 hlt
 unfold O3
 simp only[go_sem,AA _ hk,hk,ht]
 try refine DrawK.mk ?_
 try simp only[go_sem,AA _ hk,hk,ht]
 first | refine CY (UA t k hft) ?_ | refine CW (UA t k hft) fun _=>?_
 rcases h1:H8 t k with _ | _
 ·simp only[go_sem,h1,ag]
 obtain⟨g1,g2,g3,g4,g5⟩:=fU h1
 simp only[go_sem,h1,AA _ hp,hp,ai]
 try refine DrawK.mk ?_
 try simp only[go_sem,h1,AA _ hp,hp]
 first | refine CY (WT t) ?_ | refine CW (WT t) fun _=>?_
 rcases h2:((w.p[k] != -1)==looks t) with _ | _
 ·simp only[go_sem,h2,aO,ag]
 simp only[go_sem,h2,aQ,ai]
 try refine DrawK.mk ?_
 try simp only[go_sem,h2]
 first | refine CY (fV w t hf) ?_ | refine CW (fV w t hf) fun _=>?_
 rcases ho:ownB w t with _ | _
 ·rcases h3:t.op==0 with _ | _
  rotate_left
  ·have:ownB w t=(t.own==0):=by
    have e:t.op=0:=by simpa using h3
    simp[ownB,e]
   rw[this,g5 h3] at ho
   cases ho
  have ht2:qf w k t=false:=by
   unfold qf
   split
   ·rfl
   ·rw[ho,ag,aH,aH]
  simp only[go_sem,ho,ht2,bQ]
 rcases h3:t.op==0 with _ | _
 rotate_left
 ·simp only[go_sem,ho,h3,cO]
  try refine DrawK.mk ?_
  try simp only[go_sem,h3]
 simp only[go_sem,ho,h3,bQ]
 try refine DrawK.mk ?_
 try simp only[go_sem,h3]
 obtain⟨m,hm⟩:=aP g1
 unfold qf
 rw[hm,bY]
 rcases bI m w.deeds.length with hml | hml
 rotate_left
 ·have e1:decide ((m:Int)≥(w.deeds.length:Int))=true:=by simp; omega
  rw[nR hml]
  simp only[go_sem,hm,e1]
  try refine DrawK.mk ?_
  try simp only[go_sem,hm,e1]
 have e1:decide ((m:Int)≥(w.deeds.length:Int))=false:=by simp; omega
 rw[aA hml]
 generalize hd:w.deeds[m]=d
 have hfd:ED d:=hd▸ZW hf hml
 try simp only[go_sem,hm,e1]
 try refine DrawK.mk ?_
 try simp only[go_sem,hm,e1]
 simp only[ho,ai]
 refine LoopU.mk 2 (A:=Nat) (fun x=>[(6,.c (.v (.int .i64 (x))))]) (fun _=>[⟨44,14,[w.c],true,true⟩,⟨142,25,[ZU t (m:Int)],true,true⟩]) (FO t.l (there w)) (fun x=>t.l.length-x) 0 ⟨⟨rfl,rfl⟩,rfl,DW⟩ ?_
 intro j hj
 simp only[go_sem]
 refine cndC.mk (fun h=>?_) (fun h=>?_)
 ·have hj':j<t.l.length:=by simpa using h
  simp only[go_sem,AA _ hj',hj']
  try refine DrawK.mk ?_
  try simp only[go_sem,AA _ hj',hj']
  first | refine CY (L9 w t.l[j]) ?_ | refine CW (L9 w t.l[j]) fun _=>?_
  rcases h5:there w t.l[j] with _ | _
  ·simp only[go_sem,h5,BF (p:=there w) hj' h5,ag,aH]
  ·simp only[go_sem,h5,wrap_i64 (n:=(j:Int)+1) (by omega) (by omega)]
   exact⟨j+1,⟨rfl,rfl⟩,rfl,Bc hj' hj h5,by omega⟩
 have hj':j=t.l.length:=by have:=hj.1; simp at h; omega
 subst hj'
 have hth:=CP hj
 rw[hth,ai]
 have HT:TaskIn w t d m:=⟨hml,hd,hm,hft,hfd,hth,g2,g3,g4⟩
 rcases h4:ZE k t d with _ | _
 ·simp only[ag]
  unfold ZE at h4
  simp only[go_sem,hm,AA _ hml,hml,hd]
  try refine DrawK.mk ?_
  try simp only[go_sem,hm,AA _ hml,hml,hd]
  rcases k1:d.task==(k:Int) with _ | _
  ·have j1:(d.task != (k:Int))=true:=by simp[bne,k1]
   simp only[go_sem,j1]
  have j1:(d.task != (k:Int))=false:=by simp[bne,k1]
  rcases k2:d.op==t.op with _ | _
  ·have j2:(d.op != t.op)=true:=by simp[bne,k2]
   simp only[go_sem,j1,j2]
  have j2:(d.op != t.op)=false:=by simp[bne,k2]
  rw[k1,k2,ai,ai] at h4
  have j3:(d.ret != -1)=true:=by simp[bne,h4]
  simp only[go_sem,j1,j2,j3]
 rw[ai]
 have h4b:=h4
 simp only[ZE,ak] at h4b
 have j1:(d.task != (k:Int))=false:=by simp only[bne,h4b.1,aQ]
 have j2:(d.op != t.op)=false:=by simp only[bne,h4b.2.1,aQ]
 have j3:(d.ret != -1)=false:=by simp only[bne,h4b.2.2,aQ]
 simp only[go_sem,hm,AA _ hml,hml,hd,j1,j2,j3]
 try refine DrawK.mk ?_
 try simp only[go_sem,hm,AA _ hml,hml,hd,j1,j2,j3]
 unfold swB
 rcases o1:t.op==1 with _ | _
 rotate_left
 ·simp only[go_sem,o1,bD]
  try refine DrawK.mk ?_
  try simp only[go_sem,o1]
  first | refine CallF.mk _ (by simpa only[go_sem,hm] using RS w t d hf HT) ?_ | refine CallK.mk _ (by simpa only[go_sem,hm] using RS w t d hf HT) fun _=>?_
  simp only[go_sem]
 rcases o2:t.op==2 with _ | _
 rotate_left
 ·simp only[go_sem,o1,o2,bD,aC,aT]
  try refine DrawK.mk ?_
  try simp only[go_sem,o1,o2]
  first | refine CallF.mk _ (by simpa only[go_sem,hm] using QN w t d hf HT) ?_ | refine CallK.mk _ (by simpa only[go_sem,hm] using QN w t d hf HT) fun _=>?_
  simp only[go_sem]
 rcases o3:t.op==3 with _ | _
 rotate_left
 ·simp only[go_sem,o1,o2,o3,bD,aC,aT]
  try refine DrawK.mk ?_
  try simp only[go_sem,o1,o2,o3]
  first | refine CallF.mk _ (by simpa only[go_sem,hm] using QO w t d hf HT) ?_ | refine CallK.mk _ (by simpa only[go_sem,hm] using QO w t d hf HT) fun _=>?_
  simp only[go_sem]
 simp only[go_sem,o1,o2,o3,aC,aT]
 unfold xU
 try refine DrawK.mk ?_
 try simp only[go_sem,o1,o2,o3]
 first | refine CallF.mk _ (AL t.pc 2 5) ?_ | refine CallK.mk _ (AL t.pc 2 5) fun _=>?_
 rcases r1:Ac t.pc 2 5 with _ | _
 ·simp only[go_sem,r1,aO,cO]
 simp only[go_sem,r1,aQ,bQ]
 try refine DrawK.mk ?_
 try simp only[go_sem,r1]
 first | refine CallF.mk _ (AL (t.l.length:Int) 1 2) ?_ | refine CallK.mk _ (AL (t.l.length:Int) 1 2) fun _=>?_
 simp only[go_sem]
end Go.Proofs.YtnfbaclikokapaaGreat
