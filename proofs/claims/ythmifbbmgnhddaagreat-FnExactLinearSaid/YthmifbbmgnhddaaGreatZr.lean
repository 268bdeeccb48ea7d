/- A part. -/
import Derived.Test.YthmifbbmgnhddaaGreatXb
set_option linter.unusedSimpArgs false
set_option linter.unusedVariables false
set_option maxHeartbeats 8000000
set_option maxRecDepth 10000
open Go.Proofs.Tryz
namespace Go.Proofs.YthmifbbmgnhddaaGreat
open Go.Vm
section
variable {p q r:Prop}
theorem AOF(h:p:=by
 refine ACF 13 9 (by kernel_rfl) ?_
 simp only[go_sem,AA _ hk2,hk2,aK,ag,ah]
 refine ABO _ (by simpa only[go_sem,Rh,df] using hro) ?_
 rcases h7:decide (t.pc≤5) with _ | _<;>simp only[go_sem,h7,AA _ hk2,hk2,k1]):p:=h
end
theorem RZ (t:DTask):Ctr prog 248 [.agg t.c] [.val (.c (.v (.bool (t.op==0))))]:=by
 refine CM call248 func248 ntmps248 results248 fun hw=>?_
 exact AIu
theorem Zx (t:DTask):Ctr prog 247 [.agg t.c] [.val (.c (.v (.bool (looks t))))]:=by
 refine CM call247 func247 ntmps247 results247 fun hw=>?_
 rcases h1:t.op != 0 with _ | _<;>simp only[go_sem,h1,looks,ag,ah]
theorem Zy (t:DTask):Ctr prog 226 [.agg t.c] [.val (.c (.v (.bool (looks t))))]:=by
 refine CM call226 func226 ntmps226 results226 fun hw=>?_
 rcases h1:t.op != 0 with _ | _<;>simp only[go_sem,h1,looks,ag,ah]
def NG (c:DChunk) (i:Int):Bool:=decide (i≥0)&&decide (i<(c.l.length:Int))
theorem Ih (c:DChunk) (i:Int):Ctr prog 303 [.agg c.c,.c (.v (.int .i64 (i)))] [.val (.c (.v (.bool (NG c i))))]:=by
 refine CM call303 func303 ntmps303 results303 fun hw=>?_
 rcases h1:decide (i≥0) with _ | _<;>simp only[go_sem,h1,NG,ag,ah]
theorem ADR {w:DWorld} {n:Int} (hb:w.b.length≤1048576) (h:Ad n 1 w.b.length=true):∃ m:Nat,∃ hm:m<w.b.length,IntKind.i64.wrap (n-1)=(m:Int)∧(n-1).toNat=m:=by
 simp only[Ad,az,bC] at h
 refine⟨(n-1).toNat,AQ2, ?_,rfl⟩
 rw[wrap_i64 AQ2 AQ2]
 omega
theorem Rf (w:DWorld) (t:DTask) (kind:Int) (hf:AZ w):Ctr prog 249 [.agg w.c,.agg t.c,.c (.v (.int .i64 (kind)))] [.val (.c (.v (.bool (Xk w t kind))))]:=by
 refine CM call249 func249 ntmps249 results249 fun hw=>?_
 unfold Xk
 simp only[go_sem]
 refine AAN _ (AL t.own 1 w.b.length) fun _=>?_
 rcases h1:Ad t.own 1 w.b.length with _ | _
 ·exact AOH
 obtain⟨m,hm,e1,e2⟩:=ADR (zX hf) h1
 simp only[go_sem,h1,e1,e2,AA _ hm,hm,aC hm,ah]
theorem Yt {w:DWorld} {r:DRef} (h:there w r=true) (hk:(r.kind==1)=true):∃ m:Nat,∃ hm:m<w.b.length,r.buf=(m:Int)∧(w.b[m].c0.l.length:Int)=r.many:=by
 unfold there at h
 obtain⟨m,hm,hb,hat⟩ | ⟨hb,hat⟩:=Eb w r.buf
 ·rw[hat] at h
  refine⟨m,hm,hb, ?_⟩
  have hk1:r.kind=1:=ARc
  simp only[Q7,hk1,az,aaY] at h
  rcases h.2.2 with h2 | h2
  ·simp at h2
  ·simpa using h2
 ·rw[hat] at h
  cases h
theorem ADS {t:DTask} (h:((t.l.length:Int)==1)=true):∃ h0:0<t.l.length,l0 t=t.l[0]:=by
 have h1:(t.l.length:Int)=1:=nz.1 h
 refine⟨AQ2, ?_⟩
 unfold l0
 rw[List.headD_eq_head?_getD,List.head?_eq_getElem?,aC AQ2]
 rfl
theorem Yu {w:DWorld} {l:List DRef} (h:l.all (there w)=true) {k:Nat} (hk:k<l.length):there w l[k]=true:=aS.1 h _ (aj hk)
structure TaskIn (w:DWorld) (t:DTask) (d:DDeed) (m:Nat):Prop where
 hm:m<w.deeds.length
 hd:w.deeds[m]=d
 ht:t.h=m
 ft:Ff t
 fd:C_ d
 th:t.l.all (there w)=true
 i0:0≤t.i
 j0:0≤t.j
 fr:∀ r∈t.l,Eg r=true
theorem MB (w:DWorld) (t:DTask) (d:DDeed) {m:Nat} (hf:AZ w) (H:TaskIn w t d m):Ctr prog 250 [.agg w.c,.agg t.c] [.val (.c (.v (.bool (AGv w t d))))]:=by
 obtain⟨hm,hd,ht,hft,hfd,hth,hi,hj,hfr⟩:=H
 refine CM call250 func250 ntmps250 results250 fun hw=>?_
 rw[ED] at hft
 rw[ES] at hfd
 unfold AGv
 simp only[go_sem]
 try refine AAO ?_
 try simp only[go_sem]
 first | refine AAS _ (G6 w.c0.cols t.r) ?_ | refine AAN _ (G6 w.c0.cols t.r) fun _=>?_
 rcases h1:fits w.c0.cols t.r with _ | _
 ·exact AOH
 simp only[go_sem,h1,ht,AA _ hm,hm,hd,ah]
 try refine AAO ?_
 try simp only[go_sem,h1,ht,AA _ hm,hm,hd]
 first | refine AAS _ (OQ t.r d.r hft.1.1 hfd.1.1) ?_ | refine AAN _ (OQ t.r d.r hft.1.1 hfd.1.1) fun _=>?_
 rcases h2:NU t.r d.r with _ | _
 ·exact AQQ
 simp only[go_sem,h2,ah]
 try refine AAO ?_
 try simp only[go_sem]
 first | refine AAS _ (AL t.pc 2 4) ?_ | refine AAN _ (AL t.pc 2 4) fun _=>?_
 by_cases hq:(!Ad t.pc 2 4 && !Ad t.pc 6 7)=true
 ·rw[hq,Pv]
  simp only[az,abl] at hq
  simp only[go_sem,hq.1]
  try refine AAO ?_
  try simp only[go_sem,hq.1]
  first | refine AAS _ (AL t.pc 6 7) ?_ | refine AAN _ (AL t.pc 6 7) fun _=>?_
  simp only[go_sem,hq.2]
 have hq2:(!Ad t.pc 2 4 && !Ad t.pc 6 7)=false:=by simpa using hq
 rw[hq2,bW]
 have hc:Ad t.pc 2 4=true∨(Ad t.pc 2 4=false∧Ad t.pc 6 7=true):=by
  rcases h3:Ad t.pc 2 4 with _ | _
  ·rw[h3] at hq2
   exact .inr ⟨rfl,by simpa using hq2⟩
  ·exact .inl rfl
 rcases hc with h3 | ⟨h3,h4⟩
 rotate_left
 simp only[go_sem,h3]
 try refine AAO ?_
 try simp only[go_sem,h3]
 first | refine AAS _ (AL t.pc 6 7) ?_ | refine AAN _ (AL t.pc 6 7) fun _=>?_
 simp only[go_sem,h4]
 rotate_left
 simp only[go_sem,h3]
 all_goals
  rcases h5:((t.l.length:Int)==1) with _ | _
  ·exact ALD
  have g5:((t.l.length:Int) != 1)=false:=ASY
  obtain⟨h0,hl0⟩:=ADS h5
  rw[hl0,ah]
  rcases h6:t.l[0].kind==1 with _ | _
  ·exact AOt
  have g6:(t.l[0].kind != 1)=false:=by simp[bne,h6]
  obtain⟨q,hq,hqb,hqm⟩:=Yt (Yu hth h0) h6
  have hsl:NG w.b[q].c0 t.i=decide (t.i<t.l[0].many):=by
   have e:decide (t.i≥0)=true:=by simpa using hi
   unfold NG
   rw[e,hqm,ah]
  simp only[go_sem,g5,g6,AA _ h0,h0,ah]
  try refine AAO ?_
  try simp only[go_sem,g5,g6,AA _ h0,h0]
  rcases h7:t.pc==2 with _ | _
  ·simp only[go_sem,h7,AA _ h0,h0,hqb,AA _ hq,hq,bW]
   try refine AAO ?_
   try simp only[go_sem,h7,AA _ h0,h0,hqb,AA _ hq,hq]
   first | refine CY (Ih w.b[q].c0 t.i) ?_ | refine CW (Ih w.b[q].c0 t.i) fun _=>?_
   simp only[go_sem,hsl]
  ·simp only[go_sem,h7,Pv]
   try refine AAO ?_
   try simp only[go_sem,h7]
theorem Tv (w:DWorld) (t:DTask) (d:DDeed) {m:Nat} (hf:AZ w) (H:TaskIn w t d m):Ctr prog 251 [.agg w.c,.agg t.c] [.val (.c (.v (.bool (zS w t d))))]:=by
 obtain⟨hm,hd,ht,hft,hfd,hth,hi,hj,hfr⟩:=H
 refine CM call251 func251 ntmps251 results251 fun hw=>?_
 unfold zS
 rcases h1:t.id==d.id with _ | _
 ·have g1:(t.id != d.id)=true:=by simp[bne,h1]
  simp only[go_sem,ht,AA _ hm,hm,hd,g1,ag]
  try refine AAO ?_
  try simp only[go_sem,ht,AA _ hm,hm,hd,g1]
 have g1:(t.id != d.id)=false:=ASf
 simp only[go_sem,ht,AA _ hm,hm,hd,g1,ah]
 try refine AAO ?_
 try simp only[go_sem,ht,AA _ hm,hm,hd,g1]
 try refine AAO ?_
 try simp only[go_sem]
 first | refine AAS _ (AL t.pc 2 7) ?_ | refine AAN _ (AL t.pc 2 7) fun _=>?_
 rcases h2:Ad t.pc 2 7 with _ | _
 ·simp only[go_sem,h2,aH,Pv]
 simp only[go_sem,h2,aO,bW]
 rcases h5:((t.l.length:Int)==1) with _ | _
 ·exact ALD
 have g5:((t.l.length:Int) != 1)=false:=ASY
 obtain⟨h0,hl0⟩:=ADS h5
 rw[hl0,ah]
 try refine AAO ?_
 try simp only[go_sem,g5,AA _ h0,h0]
 first | refine CY (Hw t.l[0] t.id) ?_ | refine CW (Hw t.l[0] t.id) fun _=>?_
 rcases h6:DT t.l[0] t.id with _ | _
 ·simp only[go_sem,h6,ag]
 rcases h7:decide (t.id<(w.m.length:Int)) with _ | _
 ·have g7:decide (t.id≥(w.m.length:Int))=true:=by simp at h7 ⊢; omega
  simp only[go_sem,h6,g7,ag,ah]
 have g7:decide (t.id≥(w.m.length:Int))=false:=by simp at h7 ⊢; omega
 simp only[go_sem,h6,g7,ah]
 try refine AAO ?_
 try simp only[go_sem]
 first | refine AAS _ (AL t.pc 3 4) ?_ | refine AAN _ (AL t.pc 3 4) fun _=>?_
 rcases h8:Ad t.pc 3 4 with _ | _
 ·simp only[go_sem,h8,aH,Pv]
 ·simp only[go_sem,h8,AA _ h0,h0,aO,bW]
def Rh:DRow:=⟨0,[]⟩
theorem vF (w:DWorld) (r:DRef) {q m:Nat} (hf:AZ w) (hq:q<w.b.length) (hb:r.buf=(q:Int)) (hth:there w r=true) (hk:(r.kind==1)=true) (hm:m<w.b[q].c0.l.length) :
  Ctr prog 325 [.agg w.c,.agg r.c,.c (.v (.int .i64 ((m:Int))))] [.agg (DRow.o ⟨IntKind.i64.wrap (r.first+m),w.b[q].c0.l[m].l⟩),.val (.c (.v (.bool (true))))]:=by
 have hat:=zY hb hq
 have hc:Dw w r=(w.b[q].c0,true):=by
  unfold Dw
  simp only[there,hat] at hth
  simp[hat,hth,hk]
 have hco:=L6 w r
 rw[hc] at hco
 have hfl:w.b[q].c0.l[m].l.length≤1048576:=by
  have:=QM hf hq
  rw[JL,DY] at this
  have h2:=this.1.2 _ (aj hm)
  rw[Jw] at h2
  exact h2.1
 refine CM call325 func325 ntmps325 results325 fun hw=>?_
 simp only[go_sem]
 try refine AAO ?_
 try simp only[go_sem]
 first | refine CY (hco) ?_ | refine CW (hco) fun _=>?_
 simp only[go_sem]
 try refine AAO ?_
 try simp only[go_sem]
 first | refine CY (Ih w.b[q].c0 (m:Int)) ?_ | refine CW (Ih w.b[q].c0 (m:Int)) fun _=>?_
 have hs:NG w.b[q].c0 (m:Int)=true:=by simp[NG]; exact hm
 simp only[go_sem,hs,AA _ hm,hm]
 refine AAR ?_
 simp only[go_sem,hs,AA _ hm,hm]
 refine ABO _ (DZ w.b[q].c0.l[m].l hfl) ?_
 simp only[go_sem,BH,AA _ hm,hm]
 try exact AHA
theorem AE0 (w:DWorld) (r:DRef) (j:Int) (hf:AZ w) (hth:there w r=true) (hk:(r.kind==1)=true) (hm:decide (j<r.many)=false) :
  Ctr prog 325 [.agg w.c,.agg r.c,.c (.v (.int .i64 (j)))] [.val (.agg Rh.c),.val (.c (.v (.bool (false))))]:=by
 obtain⟨q,hq,hb,hmn⟩:=Yt hth hk
 have hat:=zY hb hq
 have hc:Dw w r=(w.b[q].c0,true):=by
  unfold Dw
  simp only[there,hat] at hth
  simp[hat,hth,hk]
 have hco:=L6 w r
 rw[hc] at hco
 have hk2:(r.kind==2)=false:=by have:r.kind=1:=ARc; rw[this]; rfl
 have hgr:=NQ w r hf
 rw[hk2,ag] at hgr
 refine CM call325 func325 ntmps325 results325 fun hw=>?_
 simp only[go_sem]
 try refine AAO ?_
 try simp only[go_sem]
 first | refine CY (hco) ?_ | refine CW (hco) fun _=>?_
 simp only[go_sem]
 try refine AAO ?_
 try simp only[go_sem]
 first | refine CY (Ih w.b[q].c0 j) ?_ | refine CW (Ih w.b[q].c0 j) fun _=>?_
 have hs:NG w.b[q].c0 j=false:=by unfold NG; rw[hmn,hm,aK]
 simp only[go_sem,hs]
 try refine AAO ?_
 try simp only[go_sem,hs]
 first | refine AAS _ (by simpa only[go_sem,df,ay,aY] using hgr) ?_ | refine AAN _ (by simpa only[go_sem,df,ay,aY] using hgr) fun _=>?_
 rcases h0:decide (j≥0) with _ | _
 ·simp only[go_sem,h0,Rh,df]
 have e1:decide (j<0)=false:=by simp at h0 ⊢; omega
 have e2:decide (j<(((0:Nat)):Int))=false:=e1
 simp only[go_sem,h0,bV,abS,e1,e2,Rh,df]
theorem ACC (w:DWorld) (r:DRef) (j:Int) (hf:AZ w) (hth:there w r=true) (hk:(r.kind==1)=false) (hk2:(r.kind==2)=true) (h0:0≤j) :
  Ctr prog 325 [.agg w.c,.agg r.c,.c (.v (.int .i64 (j)))] (match (Ec w r)[j.toNat]? with
   | none=>[.val (.agg Rh.c),.val (.c (.v (.bool (false))))]
   | some x=>[.val (.agg x.c),.val (.c (.v (.bool (true))))]):=by
 have hc:Dw w r=(IR,false):=by
  unfold Dw
  split
  ·rfl
  ·simp[hk]
 have hco:=L6 w r
 rw[hc] at hco
 have hgr:=NQ w r hf
 rw[hk2,hth] at hgr
 have hgl:=d_ w r
 refine CM call325 func325 ntmps325 results325 fun hw=>?_
 simp only[go_sem]
 try refine AAO ?_
 try simp only[go_sem]
 first | refine AAS _ (by simpa only[go_sem,IR,df] using hco) ?_ | refine AAN _ (by simpa only[go_sem,IR,df] using hco) fun _=>?_
 simp only[go_sem]
 try refine AAO ?_
 try simp only[go_sem]
 first | refine AAS _ (by simpa only[go_sem,ah,bH] using hgr) ?_ | refine AAN _ (by simpa only[go_sem,ah,bH] using hgr) fun _=>?_
 have e0:decide (j≥0)=true:=AR8
 rcases bZ j.toNat (Ec w r).length with hm | hm
 ·obtain⟨m,rfl⟩:=aU h0
  have hm:m<(Ec w r).length:=by simpa using hm
  have e1:decide ((m:Int)<((Ec w r).length:Int))=true:=AQ5
  rw[YM,aC hm]
  simp only[go_sem,e0,e1,AA _ hm,hm]
 ·have e1:decide (j<((Ec w r).length:Int))=false:=by simp; omega
  rw[aaq hm]
  simp only[go_sem,e0,e1,Rh,df]
theorem AIj {w:DWorld} (hf:AZ w):w.c0.cols.length≤1048576:=by
 rw[Ai,Es] at hf
 exact hf.1
theorem lG {r:DRef} (h:Eg r=true) (hk:(r.kind==1)=false):(r.kind==2)=true:=by
 simp only[Eg,Ad,az,bC] at h
 have:r.kind≠1:=ARc
 have:=h.2.2.1
 simp; omega
theorem Tz (w:DWorld) (t:DTask) (d:DDeed) {m:Nat} (hf:AZ w) (H:TaskIn w t d m):Ctr prog 252 [.agg w.c,.agg t.c] [.val (.c (.v (.bool (zT w t d))))]:=by
 obtain⟨hm,hd,ht,hft,hfd,hth,hi,hj,hfr⟩:=H
 refine CM call252 func252 ntmps252 results252 fun hw=>?_
 rw[ED] at hft
 rw[ES] at hfd
 unfold zT
 simp only[go_sem]
 try refine AAO ?_
 try simp only[go_sem]
 first | refine CY (F5 w.c0.cols t.q (AIj hf) hft.2.1) ?_ | refine CW (F5 w.c0.cols t.q (AIj hf) hft.2.1) fun _=>?_
 rcases h1:Ah w.c0.cols t.q with _ | _
 ·exact AOH
 simp only[go_sem,h1,ht,AA _ hm,hm,hd,ah]
 try refine AAO ?_
 try simp only[go_sem,h1,ht,AA _ hm,hm,hd]
 first | refine CY (TV t.q d.q hft.2.1 hfd.2.1) ?_ | refine CW (TV t.q d.q hft.2.1 hfd.2.1) fun _=>?_
 rcases h2:Xf t.q d.q with _ | _
 ·exact AQQ
 rcases h3:decide (t.ts>w.t) with _ | _
 rotate_left
 ·simp only[go_sem,h2,h3,aO,ag,aK]
 simp only[go_sem,h2,h3,aH,ah]
 try refine AAO ?_
 try simp only[go_sem]
 first | refine AAS _ (AL t.pc 3 8) ?_ | refine AAN _ (AL t.pc 3 8) fun _=>?_
 rcases h4:Ad t.pc 3 8 with _ | _
 ·simp only[go_sem,h4,aH,Pv]
 rcases h5:decide (t.i>(t.l.length:Int)) with _ | _
 rotate_left
 ·simp only[go_sem,h4,h5,aO,ag,bW]
  try refine AAO ?_
  try simp only[go_sem,h5]
 simp only[go_sem,h4,h5,aO,aH,ah,bW]
 try refine AAO ?_
 try simp only[go_sem,h5]
 rcases h6:t.pc==3 with _ | _
 rotate_left
 ·simp only[go_sem,h6,Pv]
 obtain⟨k,hk⟩:=aU hi
 have hkl:k≤t.l.length:=by rw[hk] at h5; simp at h5; omega
 rw[hk,YM,bW]
 rcases bZ k t.l.length with hk2 | hk2
 rotate_left
 ·have e:k=t.l.length:=by omega
  have e2:((k:Int)==(t.l.length:Int))=true:=AQ5
  rw[aaq hk2]
  simp only[go_sem,h6,hk,e2]
  try refine AAO ?_
  try simp only[go_sem,h6,hk,e2]
 have e2:((k:Int)==(t.l.length:Int))=false:=AQ5
 rw[aC hk2]
 simp only[go_sem,h6,hk,e2]
 have hthk:=Yu hth hk2
 unfold uI
 rcases k1:t.l[k].kind==1 with _ | _
 ·have kk2:=lG (hfr _ (aj hk2)) k1
  have hro:=ACC w t.l[k] t.j hf hthk k1 kk2 hj
  simp only[ay,aY]
  rcases hg:(Ec w t.l[k])[t.j.toNat]? with _ | x
  ·rw[hg] at hro
   exact AOF
  ·rw[hg] at hro
   refine ACF 13 9 (by kernel_rfl) ?_
   simp only[go_sem,AA _ hk2,hk2,aK,ag,ah]
   refine CZ (hro) ?_
   rcases h7:decide (t.pc≤5) with _ | _
   ·have h8:decide (t.pc≥6)=true:=by simp at h7 ⊢; omega
    simp only[go_sem,h7,h8,AA _ hk2,hk2,ah]
    try refine AAO ?_
    try simp only[go_sem,h7,h8]
   ·have h8:decide (t.pc≥6)=false:=by simp at h7 ⊢; omega
    simp only[go_sem,h7,h8,AA _ hk2,hk2,k1,ag]
    try refine AAO ?_
    try simp only[go_sem,h7,h8,AA _ hk2,hk2,k1]
 ·obtain⟨q,hq,hqb,hqm⟩:=Yt hthk k1
  simp only[bH]
  rcases h9:decide (t.j<t.l[k].many) with _ | _
  ·have hro:=AE0 w t.l[k] t.j hf hthk k1 h9
   exact AOF
  ·obtain⟨j,hjj⟩:=aU hj
   have hjl:j<w.b[q].c0.l.length:=by rw[hjj,← hqm] at h9; simp at h9; omega
   have hro:=(vF w t.l[k] hf hq hqb hthk k1 hjl).frz
   simp only[TA,df,XG,DRow.o_er] at hro
   rw[hjj]
   refine ACF 13 9 (by kernel_rfl) ?_
   simp only[go_sem,AA _ hk2,hk2,hjj,aK,ag,ah]
   refine CZ (hro) ?_
   rcases h7:decide (t.pc≤5) with _ | _
   ·have h8:decide (t.pc<6)=false:=by simp at h7 ⊢; omega
    simp only[go_sem,h7,h8,AA _ hk2,hk2,bW]
    try refine AAO ?_
    try simp only[go_sem,h7,h8]
   ·have h8:decide (t.pc<6)=true:=by simp at h7 ⊢; omega
    simp only[go_sem,h7,h8,AA _ hk2,hk2,k1,Pv]
    try refine AAO ?_
    try simp only[go_sem,h7,h8,AA _ hk2,hk2,k1]
def lH (t:DTask) (h:Int):List Cl:=[.v (.int .i64 t.op),.v (.int .i64 t.pc),.v (.int .i64 h),.sl (t.r.map DVal.c),.v (.int .i64 t.id),.v (.int .i64 t.q.kind),.v (.int .i64 t.q.p.kind),.v (.int .i64 t.q.p.col),.v (.int .i64 t.q.p.op),.v (.int .i64 t.q.p.v.ty),.v (.int .i64 t.q.p.v.n),.v (.string t.q.p.v.s),.sl (t.q.p.l.map DPred.c),.v (.int .i64 t.q.col),.sl (t.q.out.map intC),.v (.int .i64 t.ts),.v (.int .i64 t.ver),.sl (t.l.map DRef.c),.v (.int .i64 t.i),.v (.int .i64 t.j),.v (.int .i64 t.s),.v (.int .i64 t.at0),.v (.int .i64 t.own),.v (.bool t.won),.sl (t.got.map DRow.c)]
@[go_sem] theorem AJS (t:DTask) (h:Int):lH t h = [.v (.int .i64 t.op),.v (.int .i64 t.pc),.v (.int .i64 h),.sl (t.r.map DVal.c),.v (.int .i64 t.id),.v (.int .i64 t.q.kind),.v (.int .i64 t.q.p.kind),.v (.int .i64 t.q.p.col),.v (.int .i64 t.q.p.op),.v (.int .i64 t.q.p.v.ty),.v (.int .i64 t.q.p.v.n),.v (.string t.q.p.v.s),.sl (t.q.p.l.map DPred.c),.v (.int .i64 t.q.col),.sl (t.q.out.map intC),.v (.int .i64 t.ts),.v (.int .i64 t.ver),.sl (t.l.map DRef.c),.v (.int .i64 t.i),.v (.int .i64 t.j),.v (.int .i64 t.s),.v (.int .i64 t.at0),.v (.int .i64 t.own),.v (.bool t.won),.sl (t.got.map DRow.c)]:=rfl
theorem pR {t:DTask} {k:Int} (h:JX t k=true):0≤t.h∧0≤t.i∧0≤t.j∧(∀ r∈t.l,Eg r=true)∧((t.op==0)=true→(t.own==0)=true):=by
 simp only[JX,az] at h
 obtain⟨_,_,_,_,h5,h6,_,h8⟩:=h
 simp only[numsL,aW,bn,Cb,az,abl,aaD] at h5
 refine⟨AQ2,AQ2,AQ2,fun r hr=>?_,fun h0=>?_⟩
 ·have:=aS.1 h6 r hr
  simp only[Gq,az] at this
  exact this.1
 ·have e:(t.op != 0)=false:=by simp[bne,h0]
  rw[e,bW] at h8
  simp only[B_,az] at h8
  exact h8.2.2.2.2.2.2.2.2.2.2.2.2.1
theorem lI {w:DWorld} (hf:AZ w) {k:Nat} (hk:k<w.tasks.length):Ff w.tasks[k]:=by
 rw[Ai] at hf
 exact hf.2.2.2.2.2.2.1.2 _ (aj hk)
theorem lJ {w:DWorld} (hf:AZ w) {k:Nat} (hk:k<w.deeds.length):C_ w.deeds[k]:=by
 rw[Ai] at hf
 exact hf.2.2.2.2.2.2.2.2 _ (aj hk)
theorem T_ (w:DWorld) (k:Nat) (hf:AZ w) (hk:k<w.tasks.length) (hp:k<w.p.length):Ctr prog 132 [.agg w.c,.c (.v (.int .i64 ((k:Int))))] [.val (.c (.v (.bool (Rn w k w.tasks[k] w.p[k]))))]:=by
 have hft:=lI hf hk
 have hft2:=hft
 rw[ED] at hft2
 have hlt:=hft2.2.2.1
 have hld:=ADB hf
 have hlb:=zX hf
 refine CM call132 func132 ntmps132 results132 fun hw=>?_
 generalize ht:w.tasks[k]=t at hft hft2 hlt
 unfold Rn
 simp only[go_sem,AA _ hk,hk,ht]
 try refine AAO ?_
 try simp only[go_sem,AA _ hk,hk,ht]
 first | refine CY (Xg t k hft) ?_ | refine CW (Xg t k hft) fun _=>?_
 rcases h1:JX t k with _ | _
 ·exact AOH
 obtain⟨g1,g2,g3,g4,g5⟩:=pR h1
 simp only[go_sem,h1,AA _ hp,hp,ah]
 try refine AAO ?_
 try simp only[go_sem,h1,AA _ hp,hp]
 first | refine CY (Zx t) ?_ | refine CW (Zx t) fun _=>?_
 rcases h2:((w.p[k] != -1)==looks t) with _ | _
 ·simp only[go_sem,h2,aH,ag]
 simp only[go_sem,h2,aO,ah]
 try refine AAO ?_
 try simp only[go_sem,h2]
 first | refine CY (RZ t) ?_ | refine CW (RZ t) fun _=>?_
 rcases h3:t.op==0 with _ | _
 rotate_left
 ·simp only[go_sem,h3,Pv]
 simp only[go_sem,h3,bW]
 obtain⟨m,hm⟩:=aU g1
 unfold zU
 rw[hm,YM]
 rcases bZ m w.deeds.length with hml | hml
 rotate_left
 ·exact AOn
 have e1:decide ((m:Int)≥(w.deeds.length:Int))=false:=AQ5
 rw[aC hml]
 generalize hd:w.deeds[m]=d
 have hfd:C_ d:=hd▸lJ hf hml
 rcases h4:jh k t d with _ | _
 ·simp only[h4,ag]
  unfold jh at h4
  rcases k1:d.task==(k:Int) with _ | _
  ·have j1:(d.task != (k:Int))=true:=by simp[bne,k1]
   try simp only[go_sem,hm,e1,AA _ hml,hml,hd,j1]
   try refine AAO ?_
   try simp only[go_sem,hm,e1,AA _ hml,hml,hd,j1]
  have j1:(d.task != (k:Int))=false:=by simp[bne,k1]
  rcases k2:d.op==t.op with _ | _
  ·have j2:(d.op != t.op)=true:=by simp[bne,k2]
   try simp only[go_sem,hm,e1,AA _ hml,hml,hd,j1,j2]
   try refine AAO ?_
   try simp only[go_sem,hm,e1,AA _ hml,hml,hd,j1,j2]
  have j2:(d.op != t.op)=false:=by simp[bne,k2]
  rw[k1,k2,ah,ah] at h4
  have j3:(d.ret != -1)=true:=by simp[bne,h4]
  try simp only[go_sem,hm,e1,AA _ hml,hml,hd,j1,j2,j3]
  try refine AAO ?_
  try simp only[go_sem,hm,e1,AA _ hml,hml,hd,j1,j2,j3]
 simp only[h4,ah]
 have h4b:=h4
 simp only[jh,az] at h4b
 have j1:(d.task != (k:Int))=false:=by simp only[bne,h4b.1,aO]
 have j2:(d.op != t.op)=false:=by simp only[bne,h4b.2.1,aO]
 have j3:(d.ret != -1)=false:=by simp only[bne,h4b.2.2,aO]
 try simp only[go_sem,hm,e1,AA _ hml,hml,hd,j1,j2,j3]
 try refine AAO ?_
 try simp only[go_sem,hm,e1,AA _ hml,hml,hd,j1,j2,j3]
 refine AAT 2 (A:=Nat) (fun x=>[(72,.c (.v (.int .i64 (x))))]) (fun _=>[⟨46,14,[w.c],true,true⟩,⟨132,25,[lH t (m:Int)],true,true⟩]) (Gp t.l (there w)) (fun x=>t.l.length-x) 0 ⟨⟨rfl,rfl⟩,rfl,EL⟩ ?_
 intro j hj
 refine AQx (fun h=>?_) fun h=>?_
 ·have hj':j<t.l.length:=by simpa using h
  simp only[go_sem,AA _ hj',hj']
  try refine AAO ?_
  try simp only[go_sem,AA _ hj',hj']
  first | refine CY (Fz w t.l[j]) ?_ | refine CW (Fz w t.l[j]) fun _=>?_
  rcases h5:there w t.l[j] with _ | _
  ·simp only[go_sem,h5,BP (p:=there w) hj' h5,ag]
  ·exact APV
 have hj':j=t.l.length:=ARX
 subst hj'
 have hth:=DR hj
 rw[hth,ah]
 have HT:TaskIn w t d m:=⟨hml,hd,hm,hft,hfd,hth,g2,g3,g4⟩
 unfold ownB swB
 rcases o1:t.op==1 with _ | _
 rotate_left
 ·have o4:(t.op==4)=false:=by
   have:t.op=1:=by simpa using o1
   rw[this]; rfl
  simp only[o1,o4,ah,bH,ag,ay,aY]
  rcases p8:t.pc==8 with _ | _
  ·simp only[ay,aY]
   rcases w0:t.own==0 with _ | _
   ·have j0:(t.own != 0)=true:=by simp[bne,w0]
    simp only[go_sem,o1,o4,p8,j0,ag]
   have j0:(t.own != 0)=false:=by simp[bne,w0]
   simp only[go_sem,o1,o4,p8,j0,ah]
   try refine AAO ?_
   try simp only[go_sem,o1,p8]
   first | refine AAS _ ARg ?_ | refine AAN _ ARg fun _=>?_
   exact AIu
  ·simp only[bH]
   simp only[go_sem,o1,p8]
   try refine AAO ?_
   try simp only[go_sem,o1,p8]
   first | refine AAS _ (by simpa only[go_sem,hm] using Rf w t 1 hf) ?_ | refine AAN _ (by simpa only[go_sem,hm] using Rf w t 1 hf) fun _=>?_
   rcases q1:Xk w t 1 with _ | _
   ·simp only[go_sem,q1,ag]
   have hin:Ad t.own 1 w.b.length=true:=by
    unfold Xk at q1
    rw[az] at q1
    exact q1.1
   obtain⟨q,hq,e3,e4⟩:=ADR hlb hin
   have hol:jg w t=(w.b[q].c0.l.length:Int):=by unfold jg; rw[e4,aC hq]
   rw[hol]
   rcases l1:((w.b[q].c0.l.length:Int)==w.c0.slots) with _ | _
   ·have j1:((w.b[q].c0.l.length:Int) != w.c0.slots)=true:=by simp only[bne,l1,aH]
    simp only[go_sem,q1,e3,AA _ hq,hq,j1,ah,ag]
   have j1:((w.b[q].c0.l.length:Int) != w.c0.slots)=false:=by simp only[bne,l1,aO]
   simp only[go_sem,q1,e3,AA _ hq,hq,j1,o1,ah]
   try refine AAO ?_
   try simp only[go_sem,o1]
   first | refine AAS _ ARg ?_ | refine AAN _ ARg fun _=>?_
   exact AIu
 simp only[o1,ag,ay,aY]
 rcases o4:t.op==4 with _ | _
 ·simp only[ag,ay,aY]
  rcases w0:t.own==0 with _ | _
  ·have j0:(t.own != 0)=true:=by simp[bne,w0]
   simp only[go_sem,o1,o4,j0,ag]
  have j0:(t.own != 0)=false:=by simp[bne,w0]
  rcases o2:t.op==2 with _ | _
  rotate_left
  ·simp only[bH,ah]
   simp only[go_sem,o1,o4,o2,j0]
   try refine AAO ?_
   try simp only[go_sem,o1,o2]
   first | refine AAS _ (by simpa only[go_sem,hm] using Tv w t d hf HT) ?_ | refine AAN _ (by simpa only[go_sem,hm] using Tv w t d hf HT) fun _=>?_
   exact AIu
  rcases o3:t.op==3 with _ | _
  rotate_left
  ·simp only[ay,aY,bH,ah]
   simp only[go_sem,o1,o4,o2,o3,j0]
   try refine AAO ?_
   try simp only[go_sem,o1,o2,o3]
   first | refine AAS _ (by simpa only[go_sem,hm] using Tz w t d hf HT) ?_ | refine AAN _ (by simpa only[go_sem,hm] using Tz w t d hf HT) fun _=>?_
   exact AIu
  simp only[ay,aY,ah]
  simp only[go_sem,o1,o4,o2,o3,j0]
  unfold ADA
  try refine AAO ?_
  try simp only[go_sem,o1,o4,o2,o3,j0]
  first | refine AAS _ (AL t.pc 2 5) ?_ | refine AAN _ (AL t.pc 2 5) fun _=>?_
  rcases r1:Ad t.pc 2 5 with _ | _
  ·simp only[go_sem,r1,aH,Pv]
  simp only[go_sem,r1,aO,bW]
  try refine AAO ?_
  try simp only[go_sem,r1]
  first | refine AAS _ (AL (t.l.length:Int) 1 2) ?_ | refine AAN _ (AL (t.l.length:Int) 1 2) fun _=>?_
  exact AIu
 ·have o2:(t.op==2)=false:=by
   have:t.op=4:=by simpa using o4
   rw[this]; rfl
  have o3:(t.op==3)=false:=by
   have:t.op=4:=by simpa using o4
   rw[this]; rfl
  simp only[o2,o3,ah,ay,aY]
  have e45:Ad t.pc 4 5=((t.pc==4)||(t.pc==5)):=by
   unfold Ad
   rcases p4:t.pc==4 with _ | _
   ·rcases p5:t.pc==5 with _ | _
    ·simp at p4 p5 ⊢; omega
    ·simp at p5 ⊢; omega
   ·simp at p4 ⊢; omega
  unfold ADA
  rcases h45:Ad t.pc 4 5 with _ | _
  ·rw[h45] at e45
   have p4:(t.pc==4)=false:=by rcases p:t.pc==4 with _ | _<;>simp[p] at e45 ⊢
   have p5:(t.pc==5)=false:=by rcases p:t.pc==5 with _ | _<;>simp[p] at e45 ⊢
   simp only[ay,aY]
   rcases w0:t.own==0 with _ | _
   ·have j0:(t.own != 0)=true:=by simp[bne,w0]
    simp only[go_sem,o1,o4,p4,p5,j0,ag]
   have j0:(t.own != 0)=false:=by simp[bne,w0]
   simp only[go_sem,o1,o4,o2,o3,p4,p5,j0,ah]
   try refine AAO ?_
   try simp only[go_sem,o1,o4,o2,o3]
   first | refine AAS _ (AL t.pc 2 5) ?_ | refine AAN _ (AL t.pc 2 5) fun _=>?_
   rcases r1:Ad t.pc 2 5 with _ | _
   ·simp only[go_sem,r1,aH,Pv]
   simp only[go_sem,r1,aO,bW]
   try refine AAO ?_
   try simp only[go_sem,r1]
   first | refine AAS _ (AL (t.l.length:Int) 1 2) ?_ | refine AAN _ (AL (t.l.length:Int) 1 2) fun _=>?_
   exact AIu
  ·rw[h45] at e45
   have hp:(t.pc==4)=true∨((t.pc==4)=false∧(t.pc==5)=true):=by
    rcases p:t.pc==4 with _ | _
    ·rw[p,bW] at e45
     exact .inr ⟨rfl,e45.symm⟩
    ·exact .inl rfl
   simp only[bH]
   rcases hp with p4 | ⟨p4,p5⟩
   rotate_left
   simp only[go_sem,o1,o4,p4,p5]
   rotate_left
   simp only[go_sem,o1,o4,p4]
   all_goals
    try refine AAO ?_
    try simp only[go_sem,o1,o4,p4]
    first | refine AAS _ (by simpa only[go_sem,hm] using Rf w t 2 hf) ?_ | refine AAN _ (by simpa only[go_sem,hm] using Rf w t 2 hf) fun _=>?_
    rcases q1:Xk w t 2 with _ | _
    ·simp only[go_sem,q1,ag]
    simp only[go_sem,q1,o1,o4,o2,o3,ah]
    try refine AAO ?_
    try simp only[go_sem,o1,o4,o2,o3]
    first | refine AAS _ (AL t.pc 2 5) ?_ | refine AAN _ (AL t.pc 2 5) fun _=>?_
    rcases r1:Ad t.pc 2 5 with _ | _
    ·simp only[go_sem,r1,aH,Pv]
    simp only[go_sem,r1,aO,bW]
    try refine AAO ?_
    try simp only[go_sem,r1]
    first | refine AAS _ (AL (t.l.length:Int) 1 2) ?_ | refine AAN _ (AL (t.l.length:Int) 1 2) fun _=>?_
    exact AIu
theorem pU (w:DWorld) (t:DTask) (hf:AZ w):Ctr prog 227 [.agg w.c,.agg t.c] [.val (.c (.v (.bool (ownB w t))))]:=by
 refine CM call227 func227 ntmps227 results227 fun hw=>?_
 have hlb:=zX hf
 unfold ownB
 rcases o1:t.op==1 with _ | _
 ·rcases o4:t.op==4 with _ | _
  ·simp only[go_sem,o1,o4,ag,ay,aY]
  simp only[go_sem,o1,o4,ag,ah,ay,aY]
  try refine AAO ?_
  try simp only[go_sem,o1,o4]
  first | refine AAS _ (AQ t.pc 4 5) ?_ | refine AAN _ (AQ t.pc 4 5) fun _=>?_
  rcases h45:Ad t.pc 4 5 with _ | _
  ·simp only[go_sem,h45,ay,aY]
  simp only[go_sem,h45,bH]
  unfold Xk
  try refine AAO ?_
  try simp only[go_sem,h45]
  first | refine AAS _ (AQ t.own 1 w.b.length) ?_ | refine AAN _ (AQ t.own 1 w.b.length) fun _=>?_
  rcases q1:Ad t.own 1 w.b.length with _ | _
  ·simp only[go_sem,q1,ag]
  obtain⟨q,hq,e3,e4⟩:=ADR hlb q1
  rw[e4,aC hq]
  simp only[go_sem,q1,e3,AA _ hq,hq,ah]
 ·have o4:(t.op==4)=false:=by
   have:t.op=1:=by simpa using o1
   rw[this]; rfl
  rcases p8:t.pc==8 with _ | _
  ·simp only[go_sem,o1,o4,p8,ag,ah,ay,aY]
  simp only[go_sem,o1,o4,p8,ah,bH]
  unfold Xk
  try refine AAO ?_
  try simp only[go_sem,o1,o4,p8]
  first | refine AAS _ (AQ t.own 1 w.b.length) ?_ | refine AAN _ (AQ t.own 1 w.b.length) fun _=>?_
  rcases q1:Ad t.own 1 w.b.length with _ | _
  ·simp only[go_sem,q1,ag]
  obtain⟨q,hq,e3,e4⟩:=ADR hlb q1
  have hol:jg w t=(w.b[q].c0.l.length:Int):=by unfold jg; rw[e4,aC hq]
  rw[e4,aC hq,hol]
  simp only[go_sem,q1,e3,AA _ hq,hq,ah]
  rcases k1:w.b[q].kind==1 with _ | _
  ·simp only[go_sem,k1,ag]
  ·simp only[go_sem,k1,ah]
theorem VE (w:DWorld) (t:DTask) (d:DDeed) {m:Nat} (hf:AZ w) (H:TaskIn w t d m):Ctr prog 228 [.agg w.c,.agg t.c,.agg d.c] [.val (.c (.v (.bool (AGv w t d))))]:=by
 obtain⟨hm,hd,ht,hft,hfd,hth,hi,hj,hfr⟩:=H
 refine CM call228 func228 ntmps228 results228 fun hw=>?_
 rw[ED] at hft
 rw[ES] at hfd
 unfold AGv
 rw[AMl]
 simp only[go_sem]
 try refine AAO ?_
 try simp only[go_sem]
 first | refine AAS _ (Jz w.c0.cols t.r) ?_ | refine AAN _ (Jz w.c0.cols t.r) fun _=>?_
 rcases h1:fits w.c0.cols t.r with _ | _
 ·exact AOH
 simp only[go_sem,h1,ah]
 try refine AAO ?_
 try simp only[go_sem,h1]
 first | refine AAS _ (OO t.r d.r hft.1.1 hfd.1.1) ?_ | refine AAN _ (OO t.r d.r hft.1.1 hfd.1.1) fun _=>?_
 rcases h2:NU t.r d.r with _ | _
 ·exact AQQ
 simp only[go_sem,h2,ah]
 try refine AAO ?_
 try simp only[go_sem]
 first | refine AAS _ (AQ t.pc 2 7) ?_ | refine AAN _ (AQ t.pc 2 7) fun _=>?_
 rcases h3:Ad t.pc 2 7 with _ | _
 ·simp only[go_sem,h3,aH,Pv]
 rcases h4:t.pc==5 with _ | _
 rotate_left
 ·simp only[go_sem,h3,h4,aO,Bool.or_true,Pv]
 simp only[go_sem,h3,h4,aO,bW]
 rcases h5:((t.l.length:Int)==1) with _ | _
 ·exact ALD
 have g5:((t.l.length:Int) != 1)=false:=ASY
 obtain⟨h0,hl0⟩:=ADS h5
 rw[hl0,ah]
 rcases h6:t.l[0].kind==1 with _ | _
 ·exact AOt
 have g6:(t.l[0].kind != 1)=false:=by simp[bne,h6]
 simp only[go_sem,g5,g6,AA _ h0,h0,ah]
 try refine AAO ?_
 try simp only[go_sem,g5,g6,AA _ h0,h0]
 rcases h7:t.pc==2 with _ | _
 ·simp only[go_sem,h7,AA _ h0,h0,bW]
  try refine AAO ?_
  try simp only[go_sem,h7,AA _ h0,h0]
 ·simp only[go_sem,h7,AA _ h0,h0,Pv]
  try refine AAO ?_
  try simp only[go_sem,h7,AA _ h0,h0]
theorem X5 (l:List DRef) (id:Int) (h1:l.length=1) (h0:0<l.length):Ctr prog 284 [.agg (DDir.c ⟨0,l⟩),.c (.v (.int .i64 (id)))] [.val (.c (.v (.int .i64 (if DT l[0] id=true then 0 else -1))))]:=by
 refine CM call284 func284 ntmps284 results284 fun hw=>?_
 simp only[go_sem]
 refine AAT 1 (A:=Nat) (fun x=>[(5,.c (.v (.int .i64 (x))))]) (fun _=>[⟨40,2,[DDir.c ⟨0,l⟩],true,true⟩]) (fun x=>x≤1∧(x=1→DT l[0] id=false)) (fun x=>1-x) 0 ⟨⟨rfl,rfl⟩,rfl,au _,fun h=>AQ2⟩ ?_
 rintro k ⟨hk,hc⟩
 refine AQx (fun h=>?_) fun h=>?_
 ·have hk0:k=0:=by simp[h1] at h; omega
  subst hk0
  have hw01:IntKind.i64.wrap (0+1)=1:=rfl
  have e0:DT l[0] id=(decide (l[0].first≥0)&&(decide (id≥l[0].first)&&decide (IntKind.i64.wrap (id-l[0].first)<l[0].many))):=rfl
  simp only[go_sem,AA _ h0,h0]
  try refine AAO ?_
  try simp only[go_sem,AA _ h0,h0]
  rcases q1:decide (l[0].first≥0) with _ | _
  ·simp only[go_sem,AA _ h0,h0,hw01,q1]
   exact⟨1,⟨rfl,rfl⟩,rfl,⟨aI _,fun _=>by rw[e0,q1]; rfl⟩,AQ2⟩
  rcases q2:decide (id≥l[0].first) with _ | _
  ·simp only[go_sem,AA _ h0,h0,hw01,q1,q2]
   exact⟨1,⟨rfl,rfl⟩,rfl,⟨aI _,fun _=>by rw[e0,q1,q2]; rfl⟩,AQ2⟩
  rcases q3:decide (IntKind.i64.wrap (id-l[0].first)<l[0].many) with _ | _
  ·simp only[go_sem,AA _ h0,h0,hw01,q1,q2,q3]
   exact⟨1,⟨rfl,rfl⟩,rfl,⟨aI _,fun _=>by rw[e0,q1,q2,q3]; rfl⟩,AQ2⟩
  ·have e:DT l[0] id=true:=by rw[e0,q1,q2,q3]; rfl
   simp only[go_sem,AA _ h0,h0,q1,q2,q3,e,bH]
   rfl
 ·have hk1:k=1:=by simp[h1] at h; omega
  subst hk1
  simp only[go_sem,hc rfl,ay,aY]
theorem UA (w:DWorld) (t:DTask) (d:DDeed) {m:Nat} (hf:AZ w) (H:TaskIn w t d m):Ctr prog 229 [.agg w.c,.agg t.c,.agg d.c] [.val (.c (.v (.bool (zS w t d))))]:=by
 obtain⟨hm,hd,ht,hft,hfd,hth,hi,hj,hfr⟩:=H
 refine CM call229 func229 ntmps229 results229 fun hw=>?_
 unfold zS
 rcases h1:t.id==d.id with _ | _
 ·have hne:t.id≠d.id:=by simpa using h1
  have g1:(d.id != t.id)=true:=by simp; exact fun e=>hne e.symm
  simp only[go_sem,g1,ag]
 have hee:t.id=d.id:=ARR
 have g1:(d.id != t.id)=false:=by simp[hee]
 simp only[go_sem,g1,ah]
 try refine AAO ?_
 try simp only[go_sem,g1]
 first | refine AAS _ (AQ t.pc 2 7) ?_ | refine AAN _ (AQ t.pc 2 7) fun _=>?_
 rcases h2:Ad t.pc 2 7 with _ | _
 ·simp only[go_sem,h2,aH,Pv]
 rw[AKh _ h2]
 simp only[go_sem,h2,aO,bW]
 rcases h5:((t.l.length:Int)==1) with _ | _
 ·exact ALD
 have g5:((t.l.length:Int) != 1)=false:=ASY
 obtain⟨h0,hl0⟩:=ADS h5
 rw[hl0,ah]
 have hl1:t.l.length=1:=by have:=nz.1 h5; omega
 try refine AAO ?_
 try simp only[go_sem,g5,AA _ h0,h0]
 first | refine CY (X5 t.l t.id hl1 h0) ?_ | refine CW (X5 t.l t.id hl1 h0) fun _=>?_
 rcases h6:DT t.l[0] t.id with _ | _
 ·have e6:((-1:Int) != 0)=true:=rfl
  simp only[go_sem,h6,e6,ay,aY,ag]
 have e6:((0:Int) != 0)=false:=rfl
 simp only[go_sem,h6,e6,bH,ah]
 rcases h7:decide (t.id<(w.m.length:Int)) with _ | _
 ·have g7:decide (t.id≥(w.m.length:Int))=true:=by simp at h7 ⊢; omega
  simp only[go_sem,g7,ag]
 have g7:decide (t.id≥(w.m.length:Int))=false:=by simp at h7 ⊢; omega
 simp only[go_sem,g7,ah]
 rcases h8:decide (t.pc>4) with _ | _
 ·rcases h9:t.pc==2 with _ | _
  ·simp only[go_sem,h8,h9,AA _ h0,h0,bW]
   try refine AAO ?_
   try simp only[go_sem,h8,h9,AA _ h0,h0]
  ·simp only[go_sem,h8,h9,AA _ h0,h0,bW,Pv]
   try refine AAO ?_
   try simp only[go_sem,h8,h9,AA _ h0,h0]
 ·simp only[go_sem,h8,AA _ h0,h0,Pv]
  try refine AAO ?_
  try simp only[go_sem,h8,AA _ h0,h0]
theorem AKr (n:Int) (h:Ad n 3 8=true):Ad n 4 8 = !(n==3):=by
 simp only[Ad,az,bC] at h
 have h:n=3∨n=4∨n=5∨n=6∨n=7∨n=8:=AQ2
 rcases h with h | h | h | h | h | h<;>subst h<;>rfl
theorem AIk (n:Int) (h:Ad n 3 8=false):Ad n 4 8=false:=by
 rcases h2:Ad n 4 8 with _ | _
 ·rfl
 ·simp only[Ad,az,bC] at h2
  have:Ad n 3 8=true:=by simp only[Ad,az,bC]; omega
  rw[this] at h; cases h
theorem UB (w:DWorld) (t:DTask) (d:DDeed) {m:Nat} (hf:AZ w) (H:TaskIn w t d m):Ctr prog 230 [.agg w.c,.agg t.c,.agg d.c] [.val (.c (.v (.bool (zT w t d))))]:=by
 obtain⟨hm,hd,ht,hft,hfd,hth,hi,hj,hfr⟩:=H
 refine CM call230 func230 ntmps230 results230 fun hw=>?_
 rw[ED] at hft
 rw[ES] at hfd
 unfold zT
 simp only[go_sem]
 try refine AAO ?_
 try simp only[go_sem]
 first | refine CY (Jj w.c0.cols t.q (AIj hf) hft.2.1) ?_ | refine CW (Jj w.c0.cols t.q (AIj hf) hft.2.1) fun _=>?_
 rcases h1:Ah w.c0.cols t.q with _ | _
 ·exact AOH
 simp only[go_sem,h1,ah]
 try refine AAO ?_
 try simp only[go_sem,h1]
 first | refine CY (Zd t.q d.q hft.2.1 hfd.2.1) ?_ | refine CW (Zd t.q d.q hft.2.1 hfd.2.1) fun _=>?_
 rcases h2:Xf t.q d.q with _ | _
 ·exact AQQ
 rcases h3:decide (t.ts>w.t) with _ | _
 rotate_left
 ·simp only[go_sem,h2,h3,aO,ag,aK]
 simp only[go_sem,h2,h3,aH,ah]
 try refine AAO ?_
 try simp only[go_sem,h2,h3]
 first | refine AAS _ (AQ t.pc 3 8) ?_ | refine AAN _ (AQ t.pc 3 8) fun _=>?_
 rcases h4:Ad t.pc 3 8 with _ | _
 ·simp only[go_sem,h4,aH,Pv]
  try refine AAO ?_
  try simp only[go_sem,h4]
  first | refine AAS _ (AQ t.pc 4 8) ?_ | refine AAN _ (AQ t.pc 4 8) fun _=>?_
  simp only[go_sem,AIk _ h4]
 rcases h5:decide (t.i>(t.l.length:Int)) with _ | _
 rotate_left
 ·simp only[go_sem,h4,h5,aO,ag,bW]
 simp only[go_sem,h4,h5,aO,aH,ah,bW]
 try refine AAO ?_
 try simp only[go_sem,h4,h5]
 first | refine AAS _ (AQ t.pc 4 8) ?_ | refine AAN _ (AQ t.pc 4 8) fun _=>?_
 rw[AKr _ h4]
 rcases h6:t.pc==3 with _ | _
 rotate_left
 ·simp only[go_sem,h6,aO,Pv]
 obtain⟨k,hk⟩:=aU hi
 have hkl:k≤t.l.length:=by rw[hk] at h5; simp at h5; omega
 rw[hk,YM,bW]
 rcases bZ k t.l.length with hk2 | hk2
 rotate_left
 ·have e:k=t.l.length:=by omega
  have e2:((k:Int)==(t.l.length:Int))=true:=AQ5
  rw[aaq hk2]
  simp only[go_sem,h6,hk,e2,aH]
  try refine AAO ?_
  try simp only[go_sem,h6,hk,e2]
 have e2:((k:Int)==(t.l.length:Int))=false:=AQ5
 rw[aC hk2]
 simp only[go_sem,h6,hk,e2,AA _ hk2,hk2,aH]
 try refine AAO ?_
 try simp only[go_sem,h6,hk,e2,AA _ hk2,hk2]
 have hthk:=Yu hth hk2
 unfold uI
 rcases k1:t.l[k].kind==1 with _ | _
 ·obtain⟨q,hq,hbm,hat⟩ | ⟨hbm,hat⟩:=Eb w t.l[k].buf
  rotate_left
  ·simp only[there,hat] at hthk
   cases hthk
  have hgl:=d_ w t.l[k]
  simp only[go_sem,k1,AA _ hk2,hk2,ay,aY]
  try refine AAO ?_
  try simp only[go_sem,k1,AA _ hk2,hk2]
  first | refine CY (OG w t.l[k] hf hq hbm) ?_ | refine CW (OG w t.l[k] hf hq hbm) fun _=>?_
  rcases h8:decide (t.pc≥6) with _ | _
  ·simp only[go_sem,h8,ag]
   try refine AAO ?_
   try simp only[go_sem,h8]
  obtain⟨j,hjj⟩:=aU hj
  rw[hjj,YM]
  rcases bZ j (Ec w t.l[k]).length with hm | hm
  ·have e1:decide ((j:Int)<((Ec w t.l[k]).length:Int))=true:=by simp; omega
   rw[aC hm]
   simp only[go_sem,h8,hjj,e1,AA _ hm,hm,ah]
   try refine AAO ?_
   try simp only[go_sem,h8,hjj,e1,AA _ hm,hm]
  ·have e1:decide ((j:Int)<((Ec w t.l[k]).length:Int))=false:=by simp; omega
   rw[aaq hm]
   simp only[go_sem,h8,hjj,e1,ah]
   try refine AAO ?_
   try simp only[go_sem,h8,hjj,e1]
 ·simp only[bH]
  rcases h9:decide (t.j<t.l[k].many) with _ | _
  ·simp only[go_sem,k1,h9,AA _ hk2,hk2,ag]
   try refine AAO ?_
   try simp only[go_sem,k1,h9,AA _ hk2,hk2]
  rcases h7:decide (t.pc<6) with _ | _
  ·simp only[go_sem,k1,h9,h7,AA _ hk2,hk2,ah,bW]
   try refine AAO ?_
   try simp only[go_sem,k1,h9,h7,AA _ hk2,hk2]
  ·simp only[go_sem,k1,h9,h7,AA _ hk2,hk2,ah,Pv]
   try refine AAO ?_
   try simp only[go_sem,k1,h9,h7,AA _ hk2,hk2]
end Go.Proofs.YthmifbbmgnhddaaGreat
