/- A part. -/
import Derived.Test.YtnchiiikacemmaaGreatZe
import Derived.Test.YtnchiiikacemmaaGreatAc
set_option linter.unusedSimpArgs false
set_option linter.unusedVariables false
set_option maxHeartbeats 4000000
set_option maxRecDepth 10000
open Go.Proofs.Tryz
namespace Go.Proofs.YtnchiiikacemmaaGreat
open Go.Vm
theorem Fh (r:DRef) (id:Int):Ctr prog 169 [.agg r.c,.c (.v (.int .i64 (id)))] [.val (.c (.v (.bool (CP r id))))]:=by
 refine CM call169 func169 ntmps169 results169 fun hw=>?_
 rcases h1:decide (r.first≥0) with _ | _
 ·simp only[go_sem,h1,CP,ag]
 rcases h2:decide (id≥r.first) with _ | _
 ·simp only[go_sem,h1,h2,CP,ag,ai]
 simp only[go_sem,h1,h2,CP,ai]
theorem NV {w:DWorld} (hf:AU w) {k:Nat} (hk:k<w.b.length):F6 w.b[k]:=by
 rw[BH] at hf
 exact hf.2.2.1.2 _ (aj hk)
theorem Ug {w:DWorld} (hf:AU w):w.tasks.length≤1048576:=by
 rw[BH] at hf
 exact hf.2.2.2.2.2.2.1.1
theorem rP {w:DWorld} (hf:AU w):w.b.length≤1048576:=by
 rw[BH] at hf
 exact hf.2.2.1.1
theorem AHN {w:DWorld} (hf:AU w) {k:Nat} (hk:k<w.b.length):w.b[k].c0.l.length≤1048576:=by
 have:=NV hf hk
 rw[Gp,Eb] at this
 exact this.1.1
theorem AHO {w:DWorld} (hf:AU w):w.m.length≤1048576:=by
 rw[BH] at hf
 exact hf.2.2.2.1
theorem AFU {w:DWorld} (hf:AU w):w.x.length≤1048576:=by
 rw[BH] at hf
 exact hf.2.2.2.2.1
theorem ADi {w:DWorld} (hf:AU w):w.p.length≤1048576:=by
 rw[BH] at hf
 exact hf.2.2.2.2.2.1
theorem lenD {w:DWorld} (hf:AU w):w.d.l.length≤1048576:=by
 rw[BH,Ht] at hf
 exact hf.2.1
theorem yL {w:DWorld} (hf:AU w):w.deeds.length≤1048576:=by
 rw[BH] at hf
 exact hf.2.2.2.2.2.2.2.1
theorem Zb (w:DWorld) (hf:AU w):Ctr prog 90 [.agg w.c] [.val (.c (.v (.bool (fZ w))))]:=by
 refine CM call90 func90 ntmps90 results90 fun hw=>?_
 have hb:=rP hf
 unfold fZ
 rcases h0:((w.b.length:Int)==w.c0.bufs) with _ | _
 ·have g0:((w.b.length:Int) != w.c0.bufs)=true:=by simp only[bne,h0,aN]
  simp only[go_sem,g0,ag]
 have g0:((w.b.length:Int) != w.c0.bufs)=false:=by simp only[bne,h0,aQ]
 simp only[go_sem,g0,ai]
 refine LoopU.mk 1 (A:=Nat) (fun x=>[(17,.c (.v (.int .i64 (x))))]) (fun _=>[⟨45,14,[w.c],true,true⟩]) (Eh w.b (NS w)) (fun x=>w.b.length-x) 0 ⟨⟨rfl,rfl⟩,rfl,DJ⟩ ?_
 intro k hk
 simp only[go_sem]
 refine cndC.mk (fun h=>?_) (fun h=>?_)
 ·have hk':k<w.b.length:=by simpa using h
  simp only[go_sem,AA _ hk']
  refine CW (qm w.c0.cols w.b[k] (NV hf hk') (SI hw.1 hk')) fun _=>?_
  rcases h1:ZE w.c0.cols w.b[k] with _ | _
  ·simp only[go_sem,A_ (p:=NS w) hk' (by simp only[NS,h1,ag])]
  simp only[go_sem]
  have hs:=AHN hf hk'
  refine LoopU.mk 2 (A:=Nat) (fun x=>[(31,.c (.v (.int .i64 (x))))]) (fun _=>[⟨45,14,[w.c],true,true⟩,⟨112,5,[w.b[k].c],true,true⟩]) (Eh w.b[k].c0.l fun s=>!decide (s.ins>w.t)) (fun x=>w.b[k].c0.l.length-x) 0 ⟨⟨rfl,rfl⟩,rfl,DJ⟩ ?_
  intro j hj
  simp only[go_sem]
  refine cndC.mk (fun h=>?_) (fun h=>?_)
  ·have hj':j<w.b[k].c0.l.length:=by simpa using h
   rcases h2:decide (w.b[k].c0.l[j].ins>w.t) with _ | _
   ·simp only[go_sem,AA _ hj',h2,wrap_i64 (n:=(j:Int)+1) (by omega) (by omega)]
    exact⟨j+1,⟨rfl,rfl⟩,rfl,BI hj' hj (by simp only[h2,aN]),by omega⟩
   ·have hno:=A_ (p:=fun s:DSlot=>!decide (s.ins>w.t)) hj' (by simp only[h2,aQ])
    simp only[go_sem,AA _ hj',h2,A_ (p:=NS w) hk' (by simp only[NS,hno,aJ])]
  ·have hj':j=w.b[k].c0.l.length:=by have:=hj.1; simp at h; omega
   subst hj'
   have hyes:=Bo hj
   simp only[go_sem,wrap_i64 (n:=(k:Int)+1) (by omega) (by omega)]
   exact⟨k+1,⟨rfl,rfl⟩,rfl,BI hk' hk (by simp only[NS,h1,hyes,aU]),by omega⟩
 ·have hk':k=w.b.length:=by have:=hk.1; simp at h; omega
  subst hk'
  simp only[go_sem,Bo hk]
theorem We (w:DWorld) (hf:AU w):Ctr prog 91 [.agg w.c] [.val (.c (.v (.bool (Pq w))))]:=by
 refine CM call91 func91 ntmps91 results91 fun hw=>?_
 have hb:=AHO hf
 unfold Pq
 simp only[go_sem]
 refine LoopU.mk 1 (A:=Nat) (fun x=>[(8,.c (.v (.int .i64 (x))))]) (fun _=>[⟨45,14,[w.c],true,true⟩]) (Eh w.m (NT w.t)) (fun x=>w.m.length-x) 0 ⟨⟨rfl,rfl⟩,rfl,DJ⟩ ?_
 intro k hk
 simp only[go_sem]
 refine cndC.mk (fun h=>?_) (fun h=>?_)
 ·have hk':k<w.m.length:=by simpa using h
  simp only[go_sem,AA _ hk']
  refine CallK.mk _ (UC w.m[k]) fun _=>?_
  rcases h1:MM w.m[k] with _ | _
  ·simp only[go_sem,A_ (p:=NT w.t) hk' (by simp only[NT,h1,ag]),ag]
  rcases h2:decide (w.m[k]>w.t) with _ | _
  ·simp only[go_sem,h2,wrap_i64 (n:=(k:Int)+1) (by omega) (by omega)]
   exact⟨k+1,⟨rfl,rfl⟩,rfl,BI hk' hk (by simp only[NT,h1,h2]; rfl),by omega⟩
  ·simp only[go_sem,h2,A_ (p:=NT w.t) hk' (by simp only[NT,h1,h2]; rfl),ag]
 ·have hk':k=w.m.length:=by have:=hk.1; simp at h; omega
  subst hk'
  simp only[go_sem,Bo hk,ai]
  try refine DrawK.mk ?_
  try simp only[go_sem]
  first | refine CY (WC w.d (lenD hf)) ?_ | refine CW (WC w.d (lenD hf)) fun _=>?_
  simp only[go_sem]
theorem Wh (w:DWorld) (hf:AU w):Ctr prog 80 [.agg w.c] [.val (.c (.v (.bool (Pq w))))]:=by
 refine CM call80 func80 ntmps80 results80 fun hw=>?_
 have hb:=AHO hf
 unfold Pq
 simp only[go_sem]
 refine LoopU.mk 1 (A:=Nat) (fun x=>[(3,.c (.v (.int .i64 (x))))]) (fun _=>[⟨45,14,[w.c],true,true⟩]) (Eh w.m (NT w.t)) (fun x=>w.m.length-x) 0 ⟨⟨rfl,rfl⟩,rfl,DJ⟩ ?_
 intro k hk
 simp only[go_sem]
 refine cndC.mk (fun h=>?_) (fun h=>?_)
 ·have hk':k<w.m.length:=by simpa using h
  simp only[go_sem]
  try refine DrawK.mk ?_
  try simp only[go_sem,AA _ hk']
  first | refine CallF.mk _ (OE w.m[k]) ?_ | refine CallK.mk _ (OE w.m[k]) fun _=>?_
  rcases h1:MM w.m[k] with _ | _
  ·simp only[go_sem,A_ (p:=NT w.t) hk' (by simp only[NT,h1,ag]),ag]
  rcases h2:decide (w.m[k]>w.t) with _ | _
  ·simp only[go_sem,AA _ hk',h2,wrap_i64 (n:=(k:Int)+1) (by omega) (by omega)]
   exact⟨k+1,⟨rfl,rfl⟩,rfl,BI hk' hk (by simp only[NT,h1,h2]; rfl),by omega⟩
  ·simp only[go_sem,AA _ hk',h2,A_ (p:=NT w.t) hk' (by simp only[NT,h1,h2]; rfl),ag]
 ·have hk':k=w.m.length:=by have:=hk.1; simp at h; omega
  subst hk'
  simp only[go_sem,Bo hk,ai]
  try refine DrawK.mk ?_
  try simp only[go_sem]
  first | refine CY (WE w.d (lenD hf)) ?_ | refine CW (WE w.d (lenD hf)) fun _=>?_
  simp only[go_sem]
theorem rQ {w:DWorld} {n:Int} {k:Nat} (h:n=k) (hk:k<w.b.length):Qm w n=some w.b[k]:=by
 subst h
 simp[Qm,hk]
theorem Zc (w:DWorld) (hf:AU w):Ctr prog 93 [.agg w.c] [.val (.c (.v (.bool (ZJ w))))]:=by
 refine CM call93 func93 ntmps93 results93 fun hw=>?_
 have hb:=AFU hf
 have hlb:=rP hf
 unfold ZJ
 simp only[go_sem]
 refine LoopU.mk 1 (A:=Nat) (fun x=>[(8,.c (.v (.int .i64 (x))))]) (fun _=>[⟨45,14,[w.c],true,true⟩]) (Eh w.x (Jz w)) (fun x=>w.x.length-x) 0 ⟨⟨rfl,rfl⟩,rfl,DJ⟩ ?_
 intro k hk
 simp only[go_sem]
 refine cndC.mk (fun h=>?_) (fun h=>?_)
 ·have hk':k<w.x.length:=by simpa using h
  simp only[go_sem,AA _ hk']
  refine DrawK.mk ?_
  rcases E5 w w.x[k].buf with ⟨m,hm,hbm,hat⟩ | ⟨hbm,hat⟩
  ·have e1:decide ((m:Int)<0)=false:=by simp
   have e2:decide ((m:Int)≥w.b.length)=false:=by simp; omega
   rcases h1:w.b[m].gen==w.x[k].gen with _ | _
   ·have g1:(w.b[m].gen != w.x[k].gen)=true:=by simp[bne,h1]
    simp only[go_sem,hbm,e2,AA _ hm,g1,A_ (p:=Jz w) hk' (by simp only[Jz,hat,h1,ag])]
   have g1:(w.b[m].gen != w.x[k].gen)=false:=by simp[bne,h1]
   simp only[go_sem,hbm,e2,AA _ hm,g1]
   refine CallF.mk _ (AC w.x[k].at0 0 w.e) ?_
   rcases h2:Ac w.x[k].at0 0 w.e with _ | _
   ·simp only[go_sem,A_ (p:=Jz w) hk' (by simp only[Jz,hat,h1,h2,aJ])]
   ·simp only[go_sem,wrap_i64 (n:=(k:Int)+1) (by omega) (by omega)]
    exact⟨k+1,⟨rfl,rfl⟩,rfl,BI hk' hk (by simp only[Jz,hat,h1,h2,aU]),by omega⟩
  ·have hno:=A_ (p:=Jz w) hk' (by simp only[Jz,hat])
   rcases h0:decide (w.x[k].buf<0) with _ | _
   ·have e2:decide (w.x[k].buf≥(w.b.length:Int))=true:=by simp at h0 ⊢; omega
    simp only[go_sem,h0,e2,hno]
   ·simp only[go_sem,h0,hno]
 ·have hk':k=w.x.length:=by have:=hk.1; simp at h; omega
  subst hk'
  simp only[go_sem,Bo hk]
@[go_sem] theorem AF_ {n:Nat} {d:Departure}:Region.binds .any ⟨n,.textOnly d⟩=false:=rfl
@[go_sem] theorem AHP {n:Nat} {d:Departure}:Region.binds .any ⟨n,.gcOnly d⟩=false:=rfl
theorem Wi {cs b:List Int} {l:List DRow} (h:CU cs b=some l):C9 cs l=true:=by
 unfold CU at h
 split at h
 ·cases h
 ·split at h
  ·split at h
   ·cases h
   ·split at h
    ·rename_i h2
     cases h
     exact h2.2
    ·cases h
  ·cases h
theorem Xf (w:DWorld) (r:DRef):(Eo w r).length≤12:=by
 unfold Eo
 split
 ·simp
 ·rename_i b hb
  rcases h:CU w.c0.cols b.g with _ | l
  ·simp
  ·simp only[aS]
   exact(VL (Wi h)).2.1
theorem Zd (t:DTask):Ctr prog 172 [.agg t.c] [.val (.c (.v (.bool (t.op==0))))]:=by
 refine CM call172 func172 ntmps172 results172 fun hw=>?_
 simp only[go_sem]
theorem Wj (t:DTask):Ctr prog 171 [.agg t.c] [.val (.c (.v (.bool (looks t))))]:=by
 refine CM call171 func171 ntmps171 results171 fun hw=>?_
 rcases h1:t.op != 0 with _ | _<;>simp only[go_sem,h1,looks,ag,ai]
theorem Wl (t:DTask):Ctr prog 155 [.agg t.c] [.val (.c (.v (.bool (looks t))))]:=by
 refine CM call155 func155 ntmps155 results155 fun hw=>?_
 rcases h1:t.op != 0 with _ | _<;>simp only[go_sem,h1,looks,ag,ai]
def J3 (c:DChunk) (i:Int):Bool:=decide (i≥0)&&decide (i<(c.l.length:Int))
theorem Gs (c:DChunk) (i:Int):Ctr prog 217 [.agg c.c,.c (.v (.int .i64 (i)))] [.val (.c (.v (.bool (J3 c i))))]:=by
 refine CM call217 func217 ntmps217 results217 fun hw=>?_
 rcases h1:decide (i≥0) with _ | _<;>simp only[go_sem,h1,J3,ag,ai]
theorem yM {w:DWorld} {n:Int} (hb:w.b.length≤1048576) (h:Ac n 1 w.b.length=true):∃ m:Nat,∃ hm:m<w.b.length,IntKind.i64.wrap (n-1)=(m:Int)∧(n-1).toNat=m:=by
 simp only[Ac,ax,aY] at h
 refine⟨(n-1).toNat,by omega, ?_,rfl⟩
 rw[wrap_i64 (by omega) (by omega)]
 omega
theorem OY (w:DWorld) (t:DTask) (kind:Int) (hf:AU w):Ctr prog 173 [.agg w.c,.agg t.c,.c (.v (.int .i64 (kind)))] [.val (.c (.v (.bool (Ub w t kind))))]:=by
 refine CM call173 func173 ntmps173 results173 fun hw=>?_
 unfold Ub
 simp only[go_sem]
 refine CallK.mk _ (AC t.own 1 w.b.length) fun _=>?_
 rcases h1:Ac t.own 1 w.b.length with _ | _
 ·simp only[go_sem,h1,ag]
 obtain⟨m,hm,e1,e2⟩:=yM (rP hf) h1
 simp only[go_sem,h1,e1,e2,AA _ hm,hm,aA hm,ai]
theorem VV {w:DWorld} {r:DRef} (h:there w r=true) (hk:(r.kind==1)=true):∃ m:Nat,∃ hm:m<w.b.length,r.buf=(m:Int)∧(w.b[m].c0.l.length:Int)=r.many:=by
 unfold there at h
 obtain⟨m,hm,hb,hat⟩ | ⟨hb,hat⟩:=E5 w r.buf
 ·rw[hat] at h
  refine⟨m,hm,hb, ?_⟩
  have hk1:r.kind=1:=by simpa using hk
  simp only[Ov,hk1,ax,zH] at h
  rcases h.2.2 with h2 | h2
  ·simp at h2
  ·simpa using h2
 ·rw[hat] at h
  cases h
theorem yN {t:DTask} (h:((t.l.length:Int)==1)=true):∃ h0:0<t.l.length,l0 t=t.l[0]:=by
 have h1:(t.l.length:Int)=1:=Zi.1 h
 refine⟨by omega, ?_⟩
 unfold l0
 rw[List.headD_eq_head?_getD,List.head?_eq_getElem?,aA (by omega)]
 rfl
theorem VW {w:DWorld} {l:List DRef} (h:l.all (there w)=true) {k:Nat} (hk:k<l.length):there w l[k]=true:=aG.1 h _ (aj hk)
structure TaskIn (w:DWorld) (t:DTask) (d:DDeed) (m:Nat):Prop where
 hm:m<w.deeds.length
 hd:w.deeds[m]=d
 ht:t.h=m
 ft:FW t
 fd:E8 d
 th:t.l.all (there w)=true
 i0:0≤t.i
 j0:0≤t.j
 fr:∀ r∈t.l,Dv r=true
theorem Jf (w:DWorld) (t:DTask) (d:DDeed) {m:Nat} (hf:AU w) (H:TaskIn w t d m):Ctr prog 174 [.agg w.c,.agg t.c] [.val (.c (.v (.bool (ACA w t d))))]:=by
 obtain⟨hm,hd,ht,hft,hfd,hth,hi,hj,hfr⟩:=H
 refine CM call174 func174 ntmps174 results174 fun hw=>?_
 rw[D6] at hft
 rw[F7] at hfd
 unfold ACA
 simp only[go_sem]
 try refine DrawK.mk ?_
 try simp only[go_sem]
 first | refine CallF.mk _ (OB w.c0.cols t.r) ?_ | refine CallK.mk _ (OB w.c0.cols t.r) fun _=>?_
 rcases h1:fits w.c0.cols t.r with _ | _
 ·simp only[go_sem,h1,ag]
 simp only[go_sem,h1,ht,AA _ hm,hm,hd,ai]
 try refine DrawK.mk ?_
 try simp only[go_sem,h1,ht,AA _ hm,hm,hd]
 first | refine CallF.mk _ (Ou t.r d.r hft.1.1 hfd.1.1) ?_ | refine CallK.mk _ (Ou t.r d.r hft.1.1 hfd.1.1) fun _=>?_
 rcases h2:Kt t.r d.r with _ | _
 ·simp only[go_sem,h2,ag]
 simp only[go_sem,h2,ai]
 try refine DrawK.mk ?_
 try simp only[go_sem]
 first | refine CallF.mk _ (AC t.pc 2 4) ?_ | refine CallK.mk _ (AC t.pc 2 4) fun _=>?_
 by_cases hq:(!Ac t.pc 2 4 && !Ac t.pc 6 7)=true
 ·rw[hq,Om]
  simp only[ax,abt] at hq
  simp only[go_sem,hq.1]
  try refine DrawK.mk ?_
  try simp only[go_sem,hq.1]
  first | refine CallF.mk _ (AC t.pc 6 7) ?_ | refine CallK.mk _ (AC t.pc 6 7) fun _=>?_
  simp only[go_sem,hq.2]
 have hq2:(!Ac t.pc 2 4 && !Ac t.pc 6 7)=false:=by simpa using hq
 rw[hq2,bT]
 have hc:Ac t.pc 2 4=true∨(Ac t.pc 2 4=false∧Ac t.pc 6 7=true):=by
  rcases h3:Ac t.pc 2 4 with _ | _
  ·rw[h3] at hq2
   exact .inr ⟨rfl,by simpa using hq2⟩
  ·exact .inl rfl
 rcases hc with h3 | ⟨h3,h4⟩
 rotate_left
 simp only[go_sem,h3]
 try refine DrawK.mk ?_
 try simp only[go_sem,h3]
 first | refine CallF.mk _ (AC t.pc 6 7) ?_ | refine CallK.mk _ (AC t.pc 6 7) fun _=>?_
 simp only[go_sem,h4]
 rotate_left
 simp only[go_sem,h3]
 all_goals
  rcases h5:((t.l.length:Int)==1) with _ | _
  ·have g5:((t.l.length:Int) != 1)=true:=by simp only[bne,h5,aN]
   simp only[go_sem,g5,ag]
   try refine DrawK.mk ?_
   try simp only[go_sem,g5]
  have g5:((t.l.length:Int) != 1)=false:=by simp only[bne,h5,aQ]
  obtain⟨h0,hl0⟩:=yN h5
  rw[hl0,ai]
  rcases h6:t.l[0].kind==1 with _ | _
  ·have g6:(t.l[0].kind != 1)=true:=by simp[bne,h6]
   simp only[go_sem,g5,g6,AA _ h0,h0,ag]
   try refine DrawK.mk ?_
   try simp only[go_sem,g5,g6,AA _ h0,h0]
  have g6:(t.l[0].kind != 1)=false:=by simp[bne,h6]
  obtain⟨q,hq,hqb,hqm⟩:=VV (VW hth h0) h6
  have hsl:J3 w.b[q].c0 t.i=decide (t.i<t.l[0].many):=by
   have e:decide (t.i≥0)=true:=by simpa using hi
   unfold J3
   rw[e,hqm,ai]
  simp only[go_sem,g5,g6,AA _ h0,h0,ai]
  try refine DrawK.mk ?_
  try simp only[go_sem,g5,g6,AA _ h0,h0]
  rcases h7:t.pc==2 with _ | _
  ·simp only[go_sem,h7,AA _ h0,h0,hqb,AA _ hq,hq,bT]
   try refine DrawK.mk ?_
   try simp only[go_sem,h7,AA _ h0,h0,hqb,AA _ hq,hq]
   first | refine CY (Gs w.b[q].c0 t.i) ?_ | refine CW (Gs w.b[q].c0 t.i) fun _=>?_
   simp only[go_sem,hsl]
  ·simp only[go_sem,h7,Om]
   try refine DrawK.mk ?_
   try simp only[go_sem,h7]
theorem P9 (w:DWorld) (t:DTask) (d:DDeed) {m:Nat} (hf:AU w) (H:TaskIn w t d m):Ctr prog 175 [.agg w.c,.agg t.c] [.val (.c (.v (.bool (rC w t d))))]:=by
 obtain⟨hm,hd,ht,hft,hfd,hth,hi,hj,hfr⟩:=H
 refine CM call175 func175 ntmps175 results175 fun hw=>?_
 unfold rC
 rcases h1:t.id==d.id with _ | _
 ·have g1:(t.id != d.id)=true:=by simp[bne,h1]
  simp only[go_sem,ht,AA _ hm,hm,hd,g1,ag]
  try refine DrawK.mk ?_
  try simp only[go_sem,ht,AA _ hm,hm,hd,g1]
 have g1:(t.id != d.id)=false:=by simp[bne,h1]
 simp only[go_sem,ht,AA _ hm,hm,hd,g1,ai]
 try refine DrawK.mk ?_
 try simp only[go_sem,ht,AA _ hm,hm,hd,g1]
 try refine DrawK.mk ?_
 try simp only[go_sem]
 first | refine CallF.mk _ (AC t.pc 2 7) ?_ | refine CallK.mk _ (AC t.pc 2 7) fun _=>?_
 rcases h2:Ac t.pc 2 7 with _ | _
 ·simp only[go_sem,h2,aN,Om]
 simp only[go_sem,h2,aQ,bT]
 rcases h5:((t.l.length:Int)==1) with _ | _
 ·have g5:((t.l.length:Int) != 1)=true:=by simp only[bne,h5,aN]
  simp only[go_sem,g5,ag]
  try refine DrawK.mk ?_
  try simp only[go_sem,g5]
 have g5:((t.l.length:Int) != 1)=false:=by simp only[bne,h5,aQ]
 obtain⟨h0,hl0⟩:=yN h5
 rw[hl0,ai]
 try refine DrawK.mk ?_
 try simp only[go_sem,g5,AA _ h0,h0]
 first | refine CY (Fh t.l[0] t.id) ?_ | refine CW (Fh t.l[0] t.id) fun _=>?_
 rcases h6:CP t.l[0] t.id with _ | _
 ·simp only[go_sem,h6,ag]
 rcases h7:decide (t.id<(w.m.length:Int)) with _ | _
 ·have g7:decide (t.id≥(w.m.length:Int))=true:=by simp at h7 ⊢; omega
  simp only[go_sem,h6,g7,ag,ai]
 have g7:decide (t.id≥(w.m.length:Int))=false:=by simp at h7 ⊢; omega
 simp only[go_sem,h6,g7,ai]
 try refine DrawK.mk ?_
 try simp only[go_sem]
 first | refine CallF.mk _ (AC t.pc 3 4) ?_ | refine CallK.mk _ (AC t.pc 3 4) fun _=>?_
 rcases h8:Ac t.pc 3 4 with _ | _
 ·simp only[go_sem,h8,aN,Om]
 ·simp only[go_sem,h8,AA _ h0,h0,aQ,bT]
def OZ:DRow:=⟨0,[]⟩
theorem lM (w:DWorld) (r:DRef) {q m:Nat} (hf:AU w) (hq:q<w.b.length) (hb:r.buf=(q:Int)) (hth:there w r=true) (hk:(r.kind==1)=true) (hm:m<w.b[q].c0.l.length) :
  Ctr prog 220 [.agg w.c,.agg r.c,.c (.v (.int .i64 ((m:Int))))] [.agg (DRow.o ⟨IntKind.i64.wrap (r.first+m),w.b[q].c0.l[m].l⟩),.val (.c (.v (.bool (true))))]:=by
 have hat:=rQ hb hq
 have hc:Gy w r=(w.b[q].c0,true):=by
  unfold Gy
  simp only[there,hat] at hth
  simp[hat,hth,hk]
 have hco:=MI w r
 rw[hc] at hco
 have hfl:w.b[q].c0.l[m].l.length≤1048576:=by
  have:=NV hf hq
  rw[Gp,Eb] at this
  have h2:=this.1.2 _ (aj hm)
  rw[JL] at h2
  exact h2.1
 refine CM call220 func220 ntmps220 results220 fun hw=>?_
 simp only[go_sem]
 try refine DrawK.mk ?_
 try simp only[go_sem]
 first | refine CY (hco) ?_ | refine CW (hco) fun _=>?_
 simp only[go_sem]
 try refine DrawK.mk ?_
 try simp only[go_sem]
 first | refine CY (Gs w.b[q].c0 (m:Int)) ?_ | refine CW (Gs w.b[q].c0 (m:Int)) fun _=>?_
 have hs:J3 w.b[q].c0 (m:Int)=true:=by simp[J3]; exact hm
 simp only[go_sem,hs,AA _ hm,hm]
 refine DrawK.mkE ?_
 simp only[go_sem,hs,AA _ hm,hm]
 refine CallE.mk _ (Ff w.b[q].c0.l[m].l hfl) ?_
 simp only[go_sem,CX,AA _ hm,hm]
 try simp[BX,AY]
theorem AAQ (w:DWorld) (r:DRef) (j:Int) (hf:AU w) (hth:there w r=true) (hk:(r.kind==1)=true) (hm:decide (j<r.many)=false) :
  Ctr prog 220 [.agg w.c,.agg r.c,.c (.v (.int .i64 (j)))] [.val (.agg OZ.c),.val (.c (.v (.bool (false))))]:=by
 obtain⟨q,hq,hb,hmn⟩:=VV hth hk
 have hat:=rQ hb hq
 have hc:Gy w r=(w.b[q].c0,true):=by
  unfold Gy
  simp only[there,hat] at hth
  simp[hat,hth,hk]
 have hco:=MI w r
 rw[hc] at hco
 have hk2:(r.kind==2)=false:=by have:r.kind=1:=(by simpa using hk); rw[this]; rfl
 have hgr:=J4 w r hf
 rw[hk2,ag] at hgr
 refine CM call220 func220 ntmps220 results220 fun hw=>?_
 simp only[go_sem]
 try refine DrawK.mk ?_
 try simp only[go_sem]
 first | refine CY (hco) ?_ | refine CW (hco) fun _=>?_
 simp only[go_sem]
 try refine DrawK.mk ?_
 try simp only[go_sem]
 first | refine CY (Gs w.b[q].c0 j) ?_ | refine CW (Gs w.b[q].c0 j) fun _=>?_
 have hs:J3 w.b[q].c0 j=false:=by unfold J3; rw[hmn,hm,aJ]
 simp only[go_sem,hs]
 try refine DrawK.mk ?_
 try simp only[go_sem,hs]
 first | refine CallF.mk _ (by simpa only[go_sem,cZ,az,aI] using hgr) ?_ | refine CallK.mk _ (by simpa only[go_sem,cZ,az,aI] using hgr) fun _=>?_
 rcases h0:decide (j≥0) with _ | _
 ·simp only[go_sem,h0,OZ,cZ]
 have e1:decide (j<0)=false:=by simp at h0 ⊢; omega
 have e2:decide (j<(((0:Nat)):Int))=false:=e1
 simp only[go_sem,h0,oI,Int.natCast_zero,e1,e2,OZ,cZ]
theorem vg (w:DWorld) (r:DRef) (j:Int) (hf:AU w) (hth:there w r=true) (hk:(r.kind==1)=false) (hk2:(r.kind==2)=true) (h0:0≤j) :
  Ctr prog 220 [.agg w.c,.agg r.c,.c (.v (.int .i64 (j)))] (match (Eo w r)[j.toNat]? with
   | none=>[.val (.agg OZ.c),.val (.c (.v (.bool (false))))]
   | some x=>[.val (.agg x.c),.val (.c (.v (.bool (true))))]):=by
 have hc:Gy w r=(Fv,false):=by
  unfold Gy
  split
  ·rfl
  ·simp[hk]
 have hco:=MI w r
 rw[hc] at hco
 have hgr:=J4 w r hf
 rw[hk2,hth] at hgr
 have hgl:=Xf w r
 refine CM call220 func220 ntmps220 results220 fun hw=>?_
 simp only[go_sem]
 try refine DrawK.mk ?_
 try simp only[go_sem]
 first | refine CallF.mk _ (by simpa only[go_sem,Fv,cZ] using hco) ?_ | refine CallK.mk _ (by simpa only[go_sem,Fv,cZ] using hco) fun _=>?_
 simp only[go_sem]
 try refine DrawK.mk ?_
 try simp only[go_sem]
 first | refine CallF.mk _ (by simpa only[go_sem,ai,aW] using hgr) ?_ | refine CallK.mk _ (by simpa only[go_sem,ai,aW] using hgr) fun _=>?_
 have e0:decide (j≥0)=true:=by simpa using h0
 rcases bf j.toNat (Eo w r).length with hm | hm
 ·obtain⟨m,rfl⟩:=aP h0
  have hm:m<(Eo w r).length:=by simpa using hm
  have e1:decide ((m:Int)<((Eo w r).length:Int))=true:=by simp; omega
  rw[bV,aA hm]
  simp only[go_sem,e0,e1,AA _ hm,hm]
 ·have e1:decide (j<((Eo w r).length:Int))=false:=by simp; omega
  rw[bF hm]
  simp only[go_sem,e0,e1,OZ,cZ]
theorem ADj {w:DWorld} (hf:AU w):w.c0.cols.length≤1048576:=by
 rw[BH,F8] at hf
 exact hf.1
theorem Ze {r:DRef} (h:Dv r=true) (hk:(r.kind==1)=false):(r.kind==2)=true:=by
 simp only[Dv,Ac,ax,aY] at h
 have:r.kind≠1:=by simpa using hk
 have:=h.2.2.1
 simp; omega
theorem P_ (w:DWorld) (t:DTask) (d:DDeed) {m:Nat} (hf:AU w) (H:TaskIn w t d m):Ctr prog 176 [.agg w.c,.agg t.c] [.val (.c (.v (.bool (rD w t d))))]:=by
 obtain⟨hm,hd,ht,hft,hfd,hth,hi,hj,hfr⟩:=H
 refine CM call176 func176 ntmps176 results176 fun hw=>?_
 rw[D6] at hft
 rw[F7] at hfd
 unfold rD
 simp only[go_sem]
 try refine DrawK.mk ?_
 try simp only[go_sem]
 first | refine CY (Q8 w.c0.cols t.q (ADj hf) hft.2.1) ?_ | refine CW (Q8 w.c0.cols t.q (ADj hf) hft.2.1) fun _=>?_
 rcases h1:BR w.c0.cols t.q with _ | _
 ·simp only[go_sem,h1,ag]
 simp only[go_sem,h1,ht,AA _ hm,hm,hd,ai]
 try refine DrawK.mk ?_
 try simp only[go_sem,h1,ht,AA _ hm,hm,hd]
 first | refine CY (P8 t.q d.q hft.2.1 hfd.2.1) ?_ | refine CW (P8 t.q d.q hft.2.1 hfd.2.1) fun _=>?_
 rcases h2:Ue t.q d.q with _ | _
 ·simp only[go_sem,h2,ag]
 rcases h3:decide (t.ts>w.t) with _ | _
 rotate_left
 ·simp only[go_sem,h2,h3,aQ,ag,aJ]
 simp only[go_sem,h2,h3,aN,ai]
 try refine DrawK.mk ?_
 try simp only[go_sem]
 first | refine CallF.mk _ (AC t.pc 3 8) ?_ | refine CallK.mk _ (AC t.pc 3 8) fun _=>?_
 rcases h4:Ac t.pc 3 8 with _ | _
 ·simp only[go_sem,h4,aN,Om]
 rcases h5:decide (t.i>(t.l.length:Int)) with _ | _
 rotate_left
 ·simp only[go_sem,h4,h5,aQ,ag,bT]
  try refine DrawK.mk ?_
  try simp only[go_sem,h5]
 simp only[go_sem,h4,h5,aQ,aN,ai,bT]
 try refine DrawK.mk ?_
 try simp only[go_sem,h5]
 rcases h6:t.pc==3 with _ | _
 rotate_left
 ·simp only[go_sem,h6,Om]
 obtain⟨k,hk⟩:=aP hi
 have hkl:k≤t.l.length:=by rw[hk] at h5; simp at h5; omega
 rw[hk,bV,bT]
 rcases bf k t.l.length with hk2 | hk2
 rotate_left
 ·have e:k=t.l.length:=by omega
  have e2:((k:Int)==(t.l.length:Int))=true:=by simp; omega
  rw[bF hk2]
  simp only[go_sem,h6,hk,e2]
  try refine DrawK.mk ?_
  try simp only[go_sem,h6,hk,e2]
 have e2:((k:Int)==(t.l.length:Int))=false:=by simp; omega
 rw[aA hk2]
 simp only[go_sem,h6,hk,e2]
 have hthk:=VW hth hk2
 unfold kz
 rcases k1:t.l[k].kind==1 with _ | _
 ·have kk2:=Ze (hfr _ (aj hk2)) k1
  have hro:=vg w t.l[k] t.j hf hthk k1 kk2 hj
  simp only[az,aI]
  rcases hg:(Eo w t.l[k])[t.j.toNat]? with _ | x
  ·rw[hg] at hro
   refine DrawK.mkA 13 9 (by kernel_rfl) ?_
   simp only[go_sem,AA _ hk2,hk2,aJ,ag,ai]
   refine CallE.mk _ (by simpa only[go_sem,OZ,cZ] using hro) ?_
   rcases h7:decide (t.pc≤5) with _ | _<;>simp only[go_sem,h7,AA _ hk2,hk2,k1]
  ·rw[hg] at hro
   refine DrawK.mkA 13 9 (by kernel_rfl) ?_
   simp only[go_sem,AA _ hk2,hk2,aJ,ag,ai]
   refine CZ (hro) ?_
   rcases h7:decide (t.pc≤5) with _ | _
   ·have h8:decide (t.pc≥6)=true:=by simp at h7 ⊢; omega
    simp only[go_sem,h7,h8,AA _ hk2,hk2,ai]
    try refine DrawK.mk ?_
    try simp only[go_sem,h7,h8]
   ·have h8:decide (t.pc≥6)=false:=by simp at h7 ⊢; omega
    simp only[go_sem,h7,h8,AA _ hk2,hk2,k1,ag]
    try refine DrawK.mk ?_
    try simp only[go_sem,h7,h8,AA _ hk2,hk2,k1]
 ·obtain⟨q,hq,hqb,hqm⟩:=VV hthk k1
  simp only[aW]
  rcases h9:decide (t.j<t.l[k].many) with _ | _
  ·have hro:=AAQ w t.l[k] t.j hf hthk k1 h9
   refine DrawK.mkA 13 9 (by kernel_rfl) ?_
   simp only[go_sem,AA _ hk2,hk2,aJ,ag,ai]
   refine CallE.mk _ (by simpa only[go_sem,OZ,cZ] using hro) ?_
   rcases h7:decide (t.pc≤5) with _ | _<;>simp only[go_sem,h7,AA _ hk2,hk2,k1]
  ·obtain⟨j,hjj⟩:=aP hj
   have hjl:j<w.b[q].c0.l.length:=by rw[hjj,← hqm] at h9; simp at h9; omega
   have hro:=(lM w t.l[k] hf hq hqb hthk k1 hjl).frz
   simp only[V3,cZ,jS,DRow.o_er] at hro
   rw[hjj]
   refine DrawK.mkA 13 9 (by kernel_rfl) ?_
   simp only[go_sem,AA _ hk2,hk2,hjj,aJ,ag,ai]
   refine CZ (hro) ?_
   rcases h7:decide (t.pc≤5) with _ | _
   ·have h8:decide (t.pc<6)=false:=by simp at h7 ⊢; omega
    simp only[go_sem,h7,h8,AA _ hk2,hk2,bT]
    try refine DrawK.mk ?_
    try simp only[go_sem,h7,h8]
   ·have h8:decide (t.pc<6)=true:=by simp at h7 ⊢; omega
    simp only[go_sem,h7,h8,AA _ hk2,hk2,k1,Om]
    try refine DrawK.mk ?_
    try simp only[go_sem,h7,h8,AA _ hk2,hk2,k1]
end Go.Proofs.YtnchiiikacemmaaGreat
