/- A part. -/
import Derived.Test.YtnchiiikacemmaaGreatZg
set_option linter.unusedSimpArgs false
set_option linter.unusedVariables false
set_option maxHeartbeats 8000000
set_option maxRecDepth 10000
open Go.Proofs.Tryz
namespace Go.Proofs.YtnchiiikacemmaaGreat
open Go.Vm
noncomputable def Ol (w:DWorld) (i:Nat) (b:DBuf):Bool:=NS w b&&SB w i b
noncomputable def gQ (w:DWorld):Bool:=((w.b.length:Int)==w.c0.bufs)&&(Pv w.b (Ol w)&&ZJ w)
theorem Zf (w:DWorld) (hf:AU w):Ctr prog 78 [.agg w.c] [.val (.c (.v (.bool (gQ w))))]:=by
 refine CM call78 func78 ntmps78 results78 fun hw=>?_
 have hb:=rP hf
 have hd:=lenD hf
 have hx:=AFU hf
 have htl:=Ug hf
 unfold gQ
 rcases h0:((w.b.length:Int)==w.c0.bufs) with _ | _
 ·have g0:((w.b.length:Int) != w.c0.bufs)=true:=by simp only[bne,h0,aN]
  simp only[go_sem,g0,ag]
 have g0:((w.b.length:Int) != w.c0.bufs)=false:=by simp only[bne,h0,aQ]
 simp only[go_sem,g0,ai]
 refine LoopU.mk 1 (A:=Nat) (fun x=>[(3,.c (.v (.int .i64 (x))))]) (fun _=>[⟨45,14,[w.c],true,true⟩]) (rF w.b (Ol w)) (fun x=>w.b.length-x) 0 ⟨⟨rfl,rfl⟩,rfl,lC⟩ ?_
 intro k hk
 simp only[go_sem]
 refine cndC.mk (fun h=>?_) (fun h=>?_)
 ·have hk':k<w.b.length:=by simpa using h
  simp only[go_sem]
  try refine DrawK.mk ?_
  try simp only[go_sem,AA _ hk']
  first | refine CY (WV w.c0.cols w.b[k] (NV hf hk') (SI hw.1 hk')) ?_ | refine CW (WV w.c0.cols w.b[k] (NV hf hk') (SI hw.1 hk')) fun _=>?_
  rcases h1:ZE w.c0.cols w.b[k] with _ | _
  ·simp only[go_sem,IL (p:=Ol w) hk' (by simp only[Ol,NS,h1,ag]),ag]
  simp only[go_sem]
  have hs:=AHN hf hk'
  refine LoopU.mk 1 (A:=Nat) (fun x=>[(4,.c (.v (.int .i64 (x))))]) (fun _=>[⟨45,14,[w.c],true,true⟩]) (Eh w.b[k].c0.l fun s=>!decide (s.ins>w.t)) (fun x=>w.b[k].c0.l.length-x) 0 ⟨⟨rfl,rfl⟩,rfl,DJ⟩ ?_
  intro j hj
  simp only[go_sem,AA _ hk']
  try refine DrawK.mk ?_
  try simp only[go_sem,AA _ hk',hk']
  refine cndC.mk (fun h=>?_) (fun h=>?_)
  ·have hj':j<w.b[k].c0.l.length:=by simpa using h
   simp only[go_sem]
   try refine DrawK.mk ?_
   try simp only[go_sem,AA _ hk',AA _ hj']
   rcases h2:decide (w.b[k].c0.l[j].ins>w.t) with _ | _
   ·simp only[go_sem,wrap_i64 (n:=(j:Int)+1) (by omega) (by omega)]
    exact⟨j+1,⟨rfl,rfl⟩,rfl,BI hj' hj (by simp only[h2,aN]),by omega⟩
   ·have hno:=A_ (p:=fun s:DSlot=>!decide (s.ins>w.t)) hj' (by simp only[h2,aQ])
    simp only[go_sem,IL (p:=Ol w) hk' (by simp only[Ol,NS,hno,aJ,ag]),ag]
  have hj':j=w.b[k].c0.l.length:=by have:=hj.1; simp at h; omega
  subst hj'
  have hp1:NS w w.b[k]=true:=by simp only[NS,h1,Bo hj,aU]
  simp only[go_sem]
  try refine DrawK.mk ?_
  try simp only[go_sem]
  first | refine CY (UF w.d k hd) ?_ | refine CW (UF w.d k hd) fun _=>?_
  obtain⟨c0,hc0,hcl⟩:∃ c0:Nat,c0=(if D9 w.d.l k=true then 1 else 0)∧c0≤1:=⟨_,rfl,by split<;>omega⟩
  have hpl:SB w k w.b[k]=OW ((c0+w.x.countP (fun d:DDead=>d.buf==(k:Int))+w.tasks.countP (fun t:DTask=>t.own==(k:Int)+1):Nat):Int) w.b[k]:=by unfold SB kw; rw[hc0,abv]
  have hcx:w.x.countP (fun d:DDead=>d.buf==(k:Int))≤1048576:=by have:=cnt_le (fun d:DDead=>d.buf==(k:Int)) w.x w.x.length hx; rw[bP] at this; exact this
  have hk1:IntKind.i64.wrap ((k:Int)+1)=(k:Int)+1:=wrap_i64 (by omega) (by omega)
  rcases h2:D9 w.d.l k with _ | _
  ·simp only[go_sem]
   simp only[h2,az,aI] at hc0
   subst hc0
   refine LoopU.mk 1 (A:=Nat) (fun x=>[(6,.c (.v (.int .i64 (x)))),(5,.c (.v (.int .i64 (((w.x.take x).countP (fun d:DDead=>d.buf==(k:Int)):Nat):Int))))]) (fun _=>[⟨45,14,[w.c],true,true⟩]) (fun x=>x≤w.x.length) (fun x=>w.x.length-x) 0 ⟨⟨rfl,rfl⟩,rfl,ak _⟩ ?_
   intro i2 hi2
   simp only[go_sem]
   refine cndC.mk (fun h=>?_) (fun h=>?_)
   ·have hi':i2<w.x.length:=by simpa using h
    have hn:=SC (fun d:DDead=>d.buf==(k:Int)) w.x hi'
    have hle:=cnt_le (fun d:DDead=>d.buf==(k:Int)) w.x i2 hx
    rcases h3:w.x[i2].buf==(k:Int) with _ | _
    ·rw[h3] at hn
     simp only[go_sem,AA _ hi',h3]
     try refine DrawK.mk ?_
     try simp only[go_sem,AA _ hi',hi',h3]
     simp only[go_sem,wrap_i64 (n:=(i2:Int)+1) (by omega) (by omega)]
     exact⟨i2+1,⟨rfl,rfl⟩,by rw[hn]; rfl,hi',by omega⟩
    ·rw[h3] at hn
     simp only[go_sem,AA _ hi',h3]
     try refine DrawK.mk ?_
     try simp only[go_sem,AA _ hi',hi',h3]
     simp only[go_sem,wrap_i64 (n:=(i2:Int)+1) (by omega) (by omega),wrap_i64 (n:=(((w.x.take i2).countP (fun d:DDead=>d.buf==(k:Int)):Nat):Int)+1) (by omega) (by omega)]
     exact⟨i2+1,⟨rfl,rfl⟩,by rw[hn]; rfl,hi',by omega⟩
   have hi':i2=w.x.length:=by simp at h; omega
   subst hi'
   simp only[go_sem,bP]
   refine LoopU.mk 1 (A:=Nat) (fun x=>[(7,.c (.v (.int .i64 (x)))),(5,.c (.v (.int .i64 ((w.x.countP (fun d:DDead=>d.buf==(k:Int))+(w.tasks.take x).countP (fun t:DTask=>t.own==(k:Int)+1):Nat):Int))))]) (fun _=>[⟨45,14,[w.c],true,true⟩]) (fun x=>x≤w.tasks.length) (fun x=>w.tasks.length-x) 0 ⟨⟨rfl,rfl⟩,rfl,ak _⟩ ?_
   intro i3 hi3
   simp only[go_sem]
   refine cndC.mk (fun h=>?_) (fun h=>?_)
   ·have hi':i3<w.tasks.length:=by simpa using h
    have hn:=SC (fun t:DTask=>t.own==(k:Int)+1) w.tasks hi'
    have hle:=cnt_le (fun t:DTask=>t.own==(k:Int)+1) w.tasks i3 htl
    rcases h3:w.tasks[i3].own==(k:Int)+1 with _ | _
    ·rw[h3] at hn
     simp only[go_sem,AA _ hi',hk1,h3]
     try refine DrawK.mk ?_
     try simp only[go_sem,AA _ hi',hi',hk1,h3]
     simp only[go_sem,wrap_i64 (n:=(i3:Int)+1) (by omega) (by omega)]
     exact⟨i3+1,⟨rfl,rfl⟩,by rw[hn]; rfl,hi',by omega⟩
    ·rw[h3] at hn
     simp only[go_sem,AA _ hi',hk1,h3]
     try refine DrawK.mk ?_
     try simp only[go_sem,AA _ hi',hi',hk1,h3]
     simp only[go_sem,wrap_i64 (n:=(i3:Int)+1) (by omega) (by omega),wrap_i64 (n:=((w.x.countP (fun d:DDead=>d.buf==(k:Int))+(w.tasks.take i3).countP (fun t:DTask=>t.own==(k:Int)+1):Nat):Int)+1) (by omega) (by omega)]
     exact⟨i3+1,⟨rfl,rfl⟩,by rw[hn]; rfl,hi',by omega⟩
   have hi':i3=w.tasks.length:=by simp at h; omega
   subst hi'
   simp only[go_sem,bP]
   rw[oJ] at hpl
   have hn0:=Int.natCast_nonneg (w.x.countP (fun d:DDead=>d.buf==(k:Int))+w.tasks.countP (fun t:DTask=>t.own==(k:Int)+1))
   revert hpl hn0
   generalize ((w.x.countP (fun d:DDead=>d.buf==(k:Int))+w.tasks.countP (fun t:DTask=>t.own==(k:Int)+1):Nat):Int)=n
   intro hpl hn0
   unfold OW at hpl
   have hbs:Ol w k w.b[k]=SB w k w.b[k]:=by simp only[Ol,hp1,ai]
   rcases h4:w.b[k].kind==0 with _ | _
   ·have g4:(w.b[k].kind != 0)=true:=by simp[bne,h4]
    rcases h5:n != 1 with _ | _
    ·simp only[go_sem,AA _ hk',h4,g4,h5,wrap_i64 (n:=(k:Int)+1) (by omega) (by omega)]
     exact⟨k+1,⟨rfl,rfl⟩,rfl,MG hk' hk (by rw[hbs,hpl,h4,g4,h5]; rfl),by omega⟩
    ·simp only[go_sem,AA _ hk',h4,g4,h5,IL (p:=Ol w) hk' (by rw[hbs,hpl,h4,g4,h5]; rfl),ag]
   ·have g4:(w.b[k].kind != 0)=false:=by simp[bne,h4]
    rcases h5:n != 0 with _ | _
    ·have g5:decide (n>0)=false:=by have:n=0:=(by simpa using h5); rw[this]; rfl
     simp only[go_sem,AA _ hk',h4,g4,h5,wrap_i64 (n:=(k:Int)+1) (by omega) (by omega)]
     exact⟨k+1,⟨rfl,rfl⟩,rfl,MG hk' hk (by rw[hbs,hpl,h4,g4,g5]; rfl),by omega⟩
    ·have g5:decide (n>0)=true:=by have:n≠0:=(by simpa using h5); simp; omega
     simp only[go_sem,AA _ hk',h4,h5,IL (p:=Ol w) hk' (by rw[hbs,hpl,h4,g4,g5]; rfl),ag]
  ·simp only[go_sem]
   simp only[h2,aW] at hc0
   subst hc0
   refine LoopU.mk 1 (A:=Nat) (fun x=>[(6,.c (.v (.int .i64 (x)))),(5,.c (.v (.int .i64 ((1+(w.x.take x).countP (fun d:DDead=>d.buf==(k:Int)):Nat):Int))))]) (fun _=>[⟨45,14,[w.c],true,true⟩]) (fun x=>x≤w.x.length) (fun x=>w.x.length-x) 0 ⟨⟨rfl,rfl⟩,rfl,ak _⟩ ?_
   intro i2 hi2
   simp only[go_sem]
   refine cndC.mk (fun h=>?_) (fun h=>?_)
   ·have hi':i2<w.x.length:=by simpa using h
    have hn:=SC (fun d:DDead=>d.buf==(k:Int)) w.x hi'
    have hle:=cnt_le (fun d:DDead=>d.buf==(k:Int)) w.x i2 hx
    rcases h3:w.x[i2].buf==(k:Int) with _ | _
    ·rw[h3] at hn
     simp only[go_sem,AA _ hi',h3]
     try refine DrawK.mk ?_
     try simp only[go_sem,AA _ hi',hi',h3]
     simp only[go_sem,wrap_i64 (n:=(i2:Int)+1) (by omega) (by omega)]
     exact⟨i2+1,⟨rfl,rfl⟩,by rw[hn]; rfl,hi',by omega⟩
    ·rw[h3] at hn
     simp only[go_sem,AA _ hi',h3]
     try refine DrawK.mk ?_
     try simp only[go_sem,AA _ hi',hi',h3]
     simp only[go_sem,wrap_i64 (n:=(i2:Int)+1) (by omega) (by omega),wrap_i64 (n:=((1+(w.x.take i2).countP (fun d:DDead=>d.buf==(k:Int)):Nat):Int)+1) (by omega) (by omega)]
     exact⟨i2+1,⟨rfl,rfl⟩,by rw[hn]; rfl,hi',by omega⟩
   have hi':i2=w.x.length:=by simp at h; omega
   subst hi'
   simp only[go_sem,bP]
   refine LoopU.mk 1 (A:=Nat) (fun x=>[(7,.c (.v (.int .i64 (x)))),(5,.c (.v (.int .i64 ((1+w.x.countP (fun d:DDead=>d.buf==(k:Int))+(w.tasks.take x).countP (fun t:DTask=>t.own==(k:Int)+1):Nat):Int))))]) (fun _=>[⟨45,14,[w.c],true,true⟩]) (fun x=>x≤w.tasks.length) (fun x=>w.tasks.length-x) 0 ⟨⟨rfl,rfl⟩,rfl,ak _⟩ ?_
   intro i3 hi3
   simp only[go_sem]
   refine cndC.mk (fun h=>?_) (fun h=>?_)
   ·have hi':i3<w.tasks.length:=by simpa using h
    have hn:=SC (fun t:DTask=>t.own==(k:Int)+1) w.tasks hi'
    have hle:=cnt_le (fun t:DTask=>t.own==(k:Int)+1) w.tasks i3 htl
    rcases h3:w.tasks[i3].own==(k:Int)+1 with _ | _
    ·rw[h3] at hn
     simp only[go_sem,AA _ hi',hk1,h3]
     try refine DrawK.mk ?_
     try simp only[go_sem,AA _ hi',hi',hk1,h3]
     simp only[go_sem,wrap_i64 (n:=(i3:Int)+1) (by omega) (by omega)]
     exact⟨i3+1,⟨rfl,rfl⟩,by rw[hn]; rfl,hi',by omega⟩
    ·rw[h3] at hn
     simp only[go_sem,AA _ hi',hk1,h3]
     try refine DrawK.mk ?_
     try simp only[go_sem,AA _ hi',hi',hk1,h3]
     simp only[go_sem,wrap_i64 (n:=(i3:Int)+1) (by omega) (by omega),wrap_i64 (n:=((1+w.x.countP (fun d:DDead=>d.buf==(k:Int))+(w.tasks.take i3).countP (fun t:DTask=>t.own==(k:Int)+1):Nat):Int)+1) (by omega) (by omega)]
     exact⟨i3+1,⟨rfl,rfl⟩,by rw[hn]; rfl,hi',by omega⟩
   have hi':i3=w.tasks.length:=by simp at h; omega
   subst hi'
   simp only[go_sem,bP]
   have:=hcl
   have hn0:=Int.natCast_nonneg (1+w.x.countP (fun d:DDead=>d.buf==(k:Int))+w.tasks.countP (fun t:DTask=>t.own==(k:Int)+1))
   revert hpl hn0
   generalize ((1+w.x.countP (fun d:DDead=>d.buf==(k:Int))+w.tasks.countP (fun t:DTask=>t.own==(k:Int)+1):Nat):Int)=n
   intro hpl hn0
   unfold OW at hpl
   have hbs:Ol w k w.b[k]=SB w k w.b[k]:=by simp only[Ol,hp1,ai]
   rcases h4:w.b[k].kind==0 with _ | _
   ·have g4:(w.b[k].kind != 0)=true:=by simp[bne,h4]
    rcases h5:n != 1 with _ | _
    ·simp only[go_sem,AA _ hk',h4,g4,h5,wrap_i64 (n:=(k:Int)+1) (by omega) (by omega)]
     exact⟨k+1,⟨rfl,rfl⟩,rfl,MG hk' hk (by rw[hbs,hpl,h4,g4,h5]; rfl),by omega⟩
    ·simp only[go_sem,AA _ hk',h4,g4,h5,IL (p:=Ol w) hk' (by rw[hbs,hpl,h4,g4,h5]; rfl),ag]
   ·have g4:(w.b[k].kind != 0)=false:=by simp[bne,h4]
    rcases h5:n != 0 with _ | _
    ·have g5:decide (n>0)=false:=by have:n=0:=(by simpa using h5); rw[this]; rfl
     simp only[go_sem,AA _ hk',h4,g4,h5,wrap_i64 (n:=(k:Int)+1) (by omega) (by omega)]
     exact⟨k+1,⟨rfl,rfl⟩,rfl,MG hk' hk (by rw[hbs,hpl,h4,g4,g5]; rfl),by omega⟩
    ·have g5:decide (n>0)=true:=by have:n≠0:=(by simpa using h5); simp; omega
     simp only[go_sem,AA _ hk',h4,h5,IL (p:=Ol w) hk' (by rw[hbs,hpl,h4,g4,g5]; rfl),ag]
 ·have hk':k=w.b.length:=by have:=hk.1; simp at h; omega
  subst hk'
  simp only[go_sem,Qe hk,ai]
  refine LoopU.mk 1 (A:=Nat) (fun x=>[(8,.c (.v (.int .i64 (x))))]) (fun _=>[⟨45,14,[w.c],true,true⟩]) (Eh w.x (Jz w)) (fun x=>w.x.length-x) 0 ⟨⟨rfl,rfl⟩,rfl,DJ⟩ ?_
  intro j hj
  unfold ZJ
  simp only[go_sem]
  refine cndC.mk (fun h=>?_) (fun h=>?_)
  ·have hj':j<w.x.length:=by simpa using h
   simp only[go_sem,AA _ hj']
   refine DrawK.mk ?_
   have hwb:IntKind.i64.wrap ((w.b.length:Int)-1)=(w.b.length:Int)-1:=wrap_i64 (by omega) (by omega)
   simp only[go_sem,hwb]
   refine CallF.mk _ (AL w.x[j].buf 0 _) ?_
   rcases E5 w w.x[j].buf with ⟨m,hm,hbm,hat⟩ | ⟨hbm,hat⟩
   ·have e1:Ac (m:Int) 0 ((w.b.length:Int)-1)=true:=by simp[Ac]; omega
    rcases h1:w.b[m].gen==w.x[j].gen with _ | _
    ·have g1:(w.b[m].gen != w.x[j].gen)=true:=by simp[bne,h1]
     simp only[go_sem,e1,hbm,AA _ hm,g1,A_ (p:=Jz w) hj' (by simp only[Jz,hat,h1,ag])]
    have g1:(w.b[m].gen != w.x[j].gen)=false:=by simp[bne,h1]
    simp only[go_sem,e1,hbm,AA _ hm,g1]
    refine CallF.mk _ (AL w.x[j].at0 0 w.e) ?_
    rcases h2:Ac w.x[j].at0 0 w.e with _ | _
    ·simp only[go_sem,A_ (p:=Jz w) hj' (by simp only[Jz,hat,h1,h2,aJ])]
    ·simp only[go_sem,wrap_i64 (n:=(j:Int)+1) (by omega) (by omega)]
     exact⟨j+1,⟨rfl,rfl⟩,rfl,BI hj' hj (by simp only[Jz,hat,h1,h2,aU]),by omega⟩
   ·have e1:Ac w.x[j].buf 0 ((w.b.length:Int)-1)=false:=by
     unfold Ac
     rw[Bool.and_eq_false_iff]
     by_cases h0:0≤w.x[j].buf
     ·right; simp; omega
     ·left; simp; omega
    simp only[go_sem,e1,A_ (p:=Jz w) hj' (by simp only[Jz,hat])]
  ·have hj':j=w.x.length:=by have:=hj.1; simp at h; omega
   subst hj'
   simp only[go_sem,Bo hj]
noncomputable def Uh (w:DWorld) (r:DRef):Bool:=there w r&&(if(r.kind==1)=true then r.many==w.c0.slots else(Eo w r).all fun x=>Ac x.id r.first (IntKind.i64.wrap (IntKind.i64.wrap (r.first+r.many)-1)))
theorem gU (w:DWorld) (hf:AU w):Ctr prog 79 [.agg w.c] [.val (.c (.v (.bool (w.d.l.all (Uh w)))))]:=by
 refine CM call79 func79 ntmps79 results79 fun hw=>?_
 have hd:=lenD hf
 simp only[go_sem]
 refine LoopU.mk 1 (A:=Nat) (fun x=>[(3,.c (.v (.int .i64 (x))))]) (fun _=>[⟨45,14,[w.c],true,true⟩]) (Eh w.d.l (Uh w)) (fun x=>w.d.l.length-x) 0 ⟨⟨rfl,rfl⟩,rfl,DJ⟩ ?_
 intro k hk
 simp only[go_sem]
 refine cndC.mk (fun h=>?_) (fun h=>?_)
 ·have hk':k<w.d.l.length:=by simpa using h
  simp only[go_sem,AA _ hk']
  try refine DrawK.mk ?_
  try simp only[go_sem,AA _ hk',hk']
  first | refine CY (LX w w.d.l[k]) ?_ | refine CW (LX w w.d.l[k]) fun _=>?_
  rcases h1:there w w.d.l[k] with _ | _
  ·simp only[go_sem,A_ (p:=Uh w) hk' (by simp only[Uh,h1,ag])]
  rcases k1:w.d.l[k].kind==1 with _ | _
  rotate_left
  ·rcases k2:w.d.l[k].many==w.c0.slots with _ | _
   ·have g2:(w.d.l[k].many != w.c0.slots)=true:=by simp[bne,k2]
    simp only[go_sem,k1,g2,A_ (p:=Uh w) hk' (by simp only[Uh,h1,k1,k2,aW,aJ])]
   ·have g2:(w.d.l[k].many != w.c0.slots)=false:=by simp[bne,k2]
    simp only[go_sem,k1,g2,wrap_i64 (n:=(k:Int)+1) (by omega) (by omega)]
    exact⟨k+1,⟨rfl,rfl⟩,rfl,BI hk' hk (by simp only[Uh,h1,k1,k2,aW,aU]),by omega⟩
  obtain⟨m,hm,hbm,hat⟩ | ⟨hbm,hat⟩:=E5 w w.d.l[k].buf
  rotate_left
  ·simp only[there,hat] at h1
   cases h1
  have hgl:=Xf w w.d.l[k]
  have hd1:Uh w w.d.l[k]=(Eo w w.d.l[k]).all fun x=>Ac x.id w.d.l[k].first (IntKind.i64.wrap (IntKind.i64.wrap (w.d.l[k].first+w.d.l[k].many)-1)):=by simp only[Uh,h1,k1,az,aI,ai]
  simp only[go_sem,k1]
  try refine DrawK.mk ?_
  try simp only[go_sem,h1,k1]
  first | refine CY (QB w w.d.l[k] hf hm hbm) ?_ | refine CW (QB w w.d.l[k] hf hm hbm) fun _=>?_
  simp only[go_sem]
  refine LoopU.mk 2 (A:=Nat) (fun x=>[(6,.c (.v (.int .i64 (x))))]) (fun _=>[⟨45,14,[w.c],true,true⟩,⟨165,5,[w.d.l[k].c],true,true⟩]) (Eh (Eo w w.d.l[k]) fun x=>Ac x.id w.d.l[k].first (IntKind.i64.wrap (IntKind.i64.wrap (w.d.l[k].first+w.d.l[k].many)-1))) (fun x=>(Eo w w.d.l[k]).length-x) 0 ⟨⟨rfl,rfl⟩,rfl,DJ⟩ ?_
  intro j hj
  simp only[go_sem]
  refine cndC.mk (fun h=>?_) (fun h=>?_)
  ·have hj':j<(Eo w w.d.l[k]).length:=by simpa using h
   simp only[go_sem]
   try refine DrawK.mk ?_
   try simp only[go_sem,AA _ hj']
   first | refine CallF.mk _ (AL (Eo w w.d.l[k])[j].id w.d.l[k].first _) ?_ | refine CallK.mk _ (AL (Eo w w.d.l[k])[j].id w.d.l[k].first _) fun _=>?_
   rcases h3:Ac (Eo w w.d.l[k])[j].id w.d.l[k].first (IntKind.i64.wrap (IntKind.i64.wrap (w.d.l[k].first+w.d.l[k].many)-1)) with _ | _
   ·simp only[go_sem,A_ (p:=Uh w) hk' (by rw[hd1]; exact A_ (p:=fun x:DRow=>Ac x.id w.d.l[k].first (IntKind.i64.wrap (IntKind.i64.wrap (w.d.l[k].first+w.d.l[k].many)-1))) hj' h3)]
   ·simp only[go_sem,wrap_i64 (n:=(j:Int)+1) (by omega) (by omega)]
    exact⟨j+1,⟨rfl,rfl⟩,rfl,BI hj' hj h3,by omega⟩
  ·have hj':j=(Eo w w.d.l[k]).length:=by have:=hj.1; simp at h; omega
   subst hj'
   simp only[go_sem,wrap_i64 (n:=(k:Int)+1) (by omega) (by omega)]
   exact⟨k+1,⟨rfl,rfl⟩,rfl,BI hk' hk (by rw[hd1]; exact Bo hj),by omega⟩
 ·have hk':k=w.d.l.length:=by have:=hk.1; simp at h; omega
  subst hk'
  simp only[go_sem,Bo hk]
theorem QA (w:DWorld) (k:Nat) (hf:AU w) (hk:k<w.tasks.length) (hp:k<w.p.length):Ctr prog 81 [.agg w.c,.c (.v (.int .i64 ((k:Int))))] [.val (.c (.v (.bool (Po w k w.tasks[k] w.p[k]))))]:=by
 have hft:=ZN hf hk
 have hft2:=hft
 rw[D6] at hft2
 have hlt:=hft2.2.2.1
 have hld:=yL hf
 have hlb:=rP hf
 refine CM call81 func81 ntmps81 results81 fun hw=>?_
 generalize ht:w.tasks[k]=t at hft hft2 hlt
 unfold Po
 simp only[go_sem,AA _ hk,hk,ht]
 try refine DrawK.mk ?_
 try simp only[go_sem,AA _ hk,hk,ht]
 first | refine CY (Ua t k hft) ?_ | refine CW (Ua t k hft) fun _=>?_
 rcases h1:Ib t k with _ | _
 ·simp only[go_sem,h1,ag]
 obtain⟨g1,g2,g3,g4,g5⟩:=gB h1
 simp only[go_sem,h1,AA _ hp,hp,ai]
 try refine DrawK.mk ?_
 try simp only[go_sem,h1,AA _ hp,hp]
 first | refine CY (Wl t) ?_ | refine CW (Wl t) fun _=>?_
 rcases h2:((w.p[k] != -1)==looks t) with _ | _
 ·simp only[go_sem,h2,aN,ag]
 simp only[go_sem,h2,aQ,ai]
 try refine DrawK.mk ?_
 try simp only[go_sem,h2]
 first | refine CY (gG w t hf) ?_ | refine CW (gG w t hf) fun _=>?_
 rcases ho:ownB w t with _ | _
 ·rcases h3:t.op==0 with _ | _
  rotate_left
  ·have:ownB w t=(t.own==0):=by
    have e:t.op=0:=by simpa using h3
    simp[ownB,e]
   rw[this,g5 h3] at ho
   cases ho
  have ht2:rE w k t=false:=by
   unfold rE
   split
   ·rfl
   ·rw[ho,ag,aJ,aJ]
  simp only[go_sem,ho,ht2,bT]
 rcases h3:t.op==0 with _ | _
 rotate_left
 ·simp only[go_sem,ho,h3,Om]
  try refine DrawK.mk ?_
  try simp only[go_sem,h3]
 simp only[go_sem,ho,h3,bT]
 try refine DrawK.mk ?_
 try simp only[go_sem,h3]
 obtain⟨m,hm⟩:=aP g1
 unfold rE
 rw[hm,bV]
 rcases bf m w.deeds.length with hml | hml
 rotate_left
 ·have e1:decide ((m:Int)≥(w.deeds.length:Int))=true:=by simp; omega
  rw[bF hml]
  simp only[go_sem,hm,e1]
  try refine DrawK.mk ?_
  try simp only[go_sem,hm,e1]
 have e1:decide ((m:Int)≥(w.deeds.length:Int))=false:=by simp; omega
 rw[aA hml]
 generalize hd:w.deeds[m]=d
 have hfd:E8 d:=hd▸ZO hf hml
 try simp only[go_sem,hm,e1]
 try refine DrawK.mk ?_
 try simp only[go_sem,hm,e1]
 simp only[ho,ai]
 refine LoopU.mk 2 (A:=Nat) (fun x=>[(6,.c (.v (.int .i64 (x))))]) (fun _=>[⟨45,14,[w.c],true,true⟩,⟨127,25,[ZM t (m:Int)],true,true⟩]) (Eh t.l (there w)) (fun x=>t.l.length-x) 0 ⟨⟨rfl,rfl⟩,rfl,DJ⟩ ?_
 intro j hj
 simp only[go_sem]
 refine cndC.mk (fun h=>?_) (fun h=>?_)
 ·have hj':j<t.l.length:=by simpa using h
  simp only[go_sem,AA _ hj',hj']
  try refine DrawK.mk ?_
  try simp only[go_sem,AA _ hj',hj']
  first | refine CY (LX w t.l[j]) ?_ | refine CW (LX w t.l[j]) fun _=>?_
  rcases h5:there w t.l[j] with _ | _
  ·simp only[go_sem,h5,A_ (p:=there w) hj' h5,ag,aJ]
  ·simp only[go_sem,h5,wrap_i64 (n:=(j:Int)+1) (by omega) (by omega)]
   exact⟨j+1,⟨rfl,rfl⟩,rfl,BI hj' hj h5,by omega⟩
 have hj':j=t.l.length:=by have:=hj.1; simp at h; omega
 subst hj'
 have hth:=Bo hj
 rw[hth,ai]
 have HT:TaskIn w t d m:=⟨hml,hd,hm,hft,hfd,hth,g2,g3,g4⟩
 rcases h4:ZH k t d with _ | _
 ·simp only[ag]
  unfold ZH at h4
  simp only[go_sem,hm,AA _ hml,hml,hd]
  try refine DrawK.mk ?_
  try simp only[go_sem,hm,AA _ hml,hml,hd]
  rcases k1:d.task==(k:Int) with _ | _
  ·have j1:(d.task != (k:Int))=true:=by simp[bne,k1]
   simp only[go_sem,j1]
  have j1:(d.task != (k:Int))=false:=by simp[bne,k1]
  rcases k2:d.op==t.op with _ | _
  ·have j2:(d.op != t.op)=true:=by simp[bne,k2]
   simp only[go_sem,j1,j2]
  have j2:(d.op != t.op)=false:=by simp[bne,k2]
  rw[k1,k2,ai,ai] at h4
  have j3:(d.ret != -1)=true:=by simp[bne,h4]
  simp only[go_sem,j1,j2,j3]
 rw[ai]
 have h4b:=h4
 simp only[ZH,ax] at h4b
 have j1:(d.task != (k:Int))=false:=by simp only[bne,h4b.1,aQ]
 have j2:(d.op != t.op)=false:=by simp only[bne,h4b.2.1,aQ]
 have j3:(d.ret != -1)=false:=by simp only[bne,h4b.2.2,aQ]
 simp only[go_sem,hm,AA _ hml,hml,hd,j1,j2,j3]
 try refine DrawK.mk ?_
 try simp only[go_sem,hm,AA _ hml,hml,hd,j1,j2,j3]
 unfold swB
 rcases o1:t.op==1 with _ | _
 rotate_left
 ·simp only[go_sem,o1,aW]
  try refine DrawK.mk ?_
  try simp only[go_sem,o1]
  first | refine CallF.mk _ (by simpa only[go_sem,hm] using Q9 w t d hf HT) ?_ | refine CallK.mk _ (by simpa only[go_sem,hm] using Q9 w t d hf HT) fun _=>?_
  simp only[go_sem]
 rcases o2:t.op==2 with _ | _
 rotate_left
 ·simp only[go_sem,o1,o2,aW,az,aI]
  try refine DrawK.mk ?_
  try simp only[go_sem,o1,o2]
  first | refine CallF.mk _ (by simpa only[go_sem,hm] using Py w t d hf HT) ?_ | refine CallK.mk _ (by simpa only[go_sem,hm] using Py w t d hf HT) fun _=>?_
  simp only[go_sem]
 rcases o3:t.op==3 with _ | _
 rotate_left
 ·simp only[go_sem,o1,o2,o3,aW,az,aI]
  try refine DrawK.mk ?_
  try simp only[go_sem,o1,o2,o3]
  first | refine CallF.mk _ (by simpa only[go_sem,hm] using Pz w t d hf HT) ?_ | refine CallK.mk _ (by simpa only[go_sem,hm] using Pz w t d hf HT) fun _=>?_
  simp only[go_sem]
 simp only[go_sem,o1,o2,o3,az,aI]
 unfold yK
 try refine DrawK.mk ?_
 try simp only[go_sem,o1,o2,o3]
 first | refine CallF.mk _ (AL t.pc 2 5) ?_ | refine CallK.mk _ (AL t.pc 2 5) fun _=>?_
 rcases r1:Ac t.pc 2 5 with _ | _
 ·simp only[go_sem,r1,aN,Om]
 simp only[go_sem,r1,aQ,bT]
 try refine DrawK.mk ?_
 try simp only[go_sem,r1]
 first | refine CallF.mk _ (AL (t.l.length:Int) 1 2) ?_ | refine CallK.mk _ (AL (t.l.length:Int) 1 2) fun _=>?_
 simp only[go_sem]
theorem Wn (w:DWorld) (hf:AU w):Ctr prog 77 [.agg w.c] [.val (.c (.v (.bool (VQ w))))]:=by
 refine CM call77 func77 ntmps77 results77 fun hw=>?_
 have hld:=yL hf
 unfold VQ
 simp only[go_sem]
 refine LoopU.mk 1 (A:=Nat) (fun x=>[(3,.c (.v (.int .i64 (x))))]) (fun _=>[⟨45,14,[w.c],true,true⟩]) (Eh w.deeds (deed1 w)) (fun x=>w.deeds.length-x) 0 ⟨⟨rfl,rfl⟩,rfl,DJ⟩ ?_
 intro j hj
 simp only[go_sem]
 refine cndC.mk (fun h=>?_) (fun h=>?_)
 ·have hj':j<w.deeds.length:=by simpa using h
  simp only[go_sem,AA _ hj',hj']
  try refine DrawK.mk ?_
  try simp only[go_sem,AA _ hj',hj']
  first | refine CY (Tz w.deeds[j]) ?_ | refine CW (Tz w.deeds[j]) fun _=>?_
  rcases q1:Eg w.deeds[j] with _ | _
  ·simp only[go_sem,q1,A_ (p:=deed1 w) hj' (by simp only[deed1,q1,ag])]
  rcases q2:decide (w.deeds[j].inv≥w.time) with _ | _
  rotate_left
  ·simp only[go_sem,q1,q2,A_ (p:=deed1 w) hj' (by simp only[deed1,q1,q2]; rfl)]
  rcases q3:decide (w.deeds[j].lin≥w.time) with _ | _
  rotate_left
  ·simp only[go_sem,q1,q2,q3,A_ (p:=deed1 w) hj' (by simp only[deed1,q1,q2,q3]; rfl)]
  rcases q4:decide (w.deeds[j].ret≥w.time) with _ | _
  rotate_left
  ·simp only[go_sem,q1,q2,q3,q4,A_ (p:=deed1 w) hj' (by simp only[deed1,q1,q2,q3,q4]; rfl)]
  simp only[go_sem,q1,q2,q3,q4,wrap_i64 (n:=(j:Int)+1) (by omega) (by omega)]
  exact⟨j+1,⟨rfl,rfl⟩,rfl,BI hj' hj (by simp only[deed1,q1,q2,q3,q4]; rfl),by omega⟩
 have hj':j=w.deeds.length:=by have:=hj.1; simp at h; omega
 subst hj'
 simp only[go_sem,Bo hj]
noncomputable def Ui (w:DWorld):Bool:=headB w&&(KE w.d&&(!decide (w.d.ver>1000000)&&(((w.p.length:Int)==5)&&(MN w.p w.e&&(((w.tasks.length:Int)==5)&&(VQ w&&(gQ w&&(w.d.l.all (Uh w)&&(Pq w&&lD w)))))))))
theorem Zg (w:DWorld) (hf:AU w):Ctr prog 36 [.agg w.c] [.val (.c (.v (.bool (Ui w))))]:=by
 refine CM call36 func36 ntmps36 results36 fun hw=>?_
 have hlt:=Ug hf
 unfold Ui headB
 simp only[go_sem,aa3,bH,bi]
 try refine DrawK.mk ?_
 try simp only[go_sem]
 first | refine CY (UB w.c0) ?_ | refine CW (UB w.c0) fun _=>?_
 rcases h1:LD w.c0 with _ | _
 ·simp only[go_sem,h1,ag,ai,aJ]
 simp only[go_sem,h1,ai]
 try refine DrawK.mk ?_
 try simp only[go_sem]
 first | refine CallF.mk _ (AL w.time 0 1000000) ?_ | refine CallK.mk _ (AL w.time 0 1000000) fun _=>?_
 rcases h2:Ac w.time 0 1000000 with _ | _
 ·simp only[go_sem,h2,ag,ai,aJ]
 simp only[go_sem,h2,ai]
 try refine DrawK.mk ?_
 try simp only[go_sem]
 first | refine CallF.mk _ (AL w.t 1 1000000) ?_ | refine CallK.mk _ (AL w.t 1 1000000) fun _=>?_
 rcases h3:Ac w.t 1 1000000 with _ | _
 ·simp only[go_sem,h3,ag,ai,aJ]
 simp only[go_sem,h3,ai]
 try refine DrawK.mk ?_
 try simp only[go_sem]
 first | refine CallF.mk _ (AL w.e 0 1000000) ?_ | refine CallK.mk _ (AL w.e 0 1000000) fun _=>?_
 rcases h4:Ac w.e 0 1000000 with _ | _
 ·simp only[go_sem,h4,ag,ai,aJ]
 simp only[go_sem,h4,ai]
 try refine DrawK.mk ?_
 try simp only[go_sem]
 first | refine CY (WU w.d (lenD hf)) ?_ | refine CW (WU w.d (lenD hf)) fun _=>?_
 rcases h5:KE w.d with _ | _
 ·simp only[go_sem,h5,ag,ai,aJ]
 simp only[go_sem,h5,ai]
 rcases h6:decide (w.d.ver>1000000) with _ | _
 rotate_left
 ·simp only[go_sem,h6,aQ,ag]
  try refine DrawK.mk ?_
  try simp only[go_sem,h6]
 rcases h12:((w.p.length:Int)==5) with _ | _
 ·have g:((w.p.length:Int) != 5)=true:=by simp only[bne,h12,aN]
  simp only[go_sem,h6,g,aN,ag,ai]
  try refine DrawK.mk ?_
  try simp only[go_sem,h6,g]
 have g12:((w.p.length:Int) != 5)=false:=by simp only[bne,h12,aQ]
 simp only[go_sem,h6,g12,aN,ai]
 try refine DrawK.mk ?_
 try simp only[go_sem,h6,g12]
 first | refine CallF.mk _ (UE w.p w.e (ADi hf)) ?_ | refine CallK.mk _ (UE w.p w.e (ADi hf)) fun _=>?_
 rcases h13:MN w.p w.e with _ | _
 ·simp only[go_sem,h13,ag]
 rcases h11:((w.tasks.length:Int)==5) with _ | _
 ·have g:((w.tasks.length:Int) != 5)=true:=by simp only[bne,h11,aN]
  simp only[go_sem,h13,g,ag,ai]
  try refine DrawK.mk ?_
  try simp only[go_sem,h13,g]
 have g11:((w.tasks.length:Int) != 5)=false:=by simp only[bne,h11,aQ]
 simp only[go_sem,h13,g11,ai]
 try refine DrawK.mk ?_
 try simp only[go_sem,h13,g11]
 try refine DrawK.mk ?_
 try simp only[go_sem]
 first | refine CY (Wn w hf) ?_ | refine CW (Wn w hf) fun _=>?_
 rcases h7:VQ w with _ | _
 ·simp only[go_sem,h7,ag,ai,aJ]
 simp only[go_sem,h7,ai]
 try refine DrawK.mk ?_
 try simp only[go_sem]
 first | refine CY (Zf w hf) ?_ | refine CW (Zf w hf) fun _=>?_
 rcases h8:gQ w with _ | _
 ·simp only[go_sem,h8,ag,ai,aJ]
 simp only[go_sem,h8,ai]
 try refine DrawK.mk ?_
 try simp only[go_sem]
 first | refine CY (gU w hf) ?_ | refine CW (gU w hf) fun _=>?_
 rcases h9:w.d.l.all (Uh w) with _ | _
 ·simp only[go_sem,h9,ag,ai,aJ]
 simp only[go_sem,h9,ai]
 try refine DrawK.mk ?_
 try simp only[go_sem]
 first | refine CY (Wh w hf) ?_ | refine CW (Wh w hf) fun _=>?_
 rcases h10:Pq w with _ | _
 ·simp only[go_sem,h10,ag,ai,aJ]
 simp only[go_sem,h10,ai]
 have hl5:w.tasks.length=w.p.length:=by
  have a1:(w.tasks.length:Int)=5:=Zi.1 h11
  have a2:(w.p.length:Int)=5:=Zi.1 h12
  omega
 unfold lD
 refine LoopU.mk 1 (A:=Nat) (fun x=>[(3,.c (.v (.int .i64 (x))))]) (fun _=>[⟨45,14,[w.c],true,true⟩]) (rF w.tasks fun k t=>Po w k t (w.p[k]?.getD 0)) (fun x=>w.tasks.length-x) 0 ⟨⟨rfl,rfl⟩,rfl,lC⟩ ?_
 intro k hk
 simp only[go_sem]
 refine cndC.mk (fun h=>?_) (fun h=>?_)
 ·have hk':k<w.tasks.length:=by simpa using h
  have hp:k<w.p.length:=by omega
  have e1:(w.p[k]?.getD 0)=w.p[k]:=by rw[aA hp]; rfl
  simp only[go_sem,AA _ hk',hk']
  try refine DrawK.mk ?_
  try simp only[go_sem,AA _ hk',hk']
  first | refine CY (QA w k hf hk' hp) ?_ | refine CW (QA w k hf hk' hp) fun _=>?_
  rcases h14:Po w k w.tasks[k] w.p[k] with _ | _
  ·simp only[go_sem,h14,IL (p:=fun k t=>Po w k t (w.p[k]?.getD 0)) hk' (by rw[e1]; exact h14)]
  ·simp only[go_sem,h14,wrap_i64 (n:=(k:Int)+1) (by omega) (by omega)]
   exact⟨k+1,⟨rfl,rfl⟩,rfl,MG hk' hk (by rw[e1]; exact h14),by omega⟩
 have hk':k=w.tasks.length:=by have:=hk.1; simp at h; omega
 subst hk'
 rw[Qe hk]
 simp only[go_sem]
end Go.Proofs.YtnchiiikacemmaaGreat
