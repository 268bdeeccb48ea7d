/- A part. -/
import Derived.WalkKit
import Derived.WalkLawsBesides
import Derived.OpenShut
import Derived.Laws.StructEq
import Derived.ChangeKeysEq
import Derived.Laws.BytesArg
set_option linter.unusedSimpArgs false
set_option linter.unusedVariables false
namespace Go.Vm
section
variable {p q r:Prop}
theorem AET(h:p:=by
 rintro⟨k,n⟩ ⟨hk,hb,hs2,hn⟩
 dsimp only at hk hb hs2 hn
 simp only[go_sem,ae]
 refine ABG (fun h2=>?_) (fun h2=>?_)
 ·have hk':k<p.l.length:=by simpa using h2
  rw[LJ cs d p.l hk'] at hb
  rw[LH d p.l hk'] at hs2
  simp only[go_sem,ae,AA _ hk',hk',hdw]
  try refine AAm ?_
  try simp only[go_sem,ae,AA _ hk',hk',hdw]
  first | refine CY (hx p.l[k] (ax hk')) ?_ | refine CW (hx p.l[k] (ax hk')) fun _=>?_
  rcases hv:I_ cs d p.l[k] with _ | _
  ·have e1:D9 cs d p.l[k] = -1:=by simp[D9,hv]
   rw[hv,ag] at hb
   have e2:D9 cs (d+1) p = -1:=by simp[D9,I_,← hb]
   have e3:decide ((-1:Int)<0)=true:=by decide
   rw[e2]
   simp only[go_sem,ae,e1,e3]
  ·have e1:D9 cs d p.l[k]=(Cc d p.l[k]:Int):=by simp[D9,hv]
   have e4:=MF d _ hv
   have e5:4 ^ d≤4 ^ 3:=aay (by omega) (by omega)
   have e3:decide ((Cc d p.l[k]:Int)<0)=false:=by simp
   rw[hv,aj] at hb
   have hw1:IntKind.i64.wrap ((n:Int)+(Cc d p.l[k]:Int))=((n+Cc d p.l[k]:Nat):Int):=by rw[wrap_i64 (by omega) (by omega)]; omega
   simp only[go_sem,ae,e1,e3,hw1,wrap_i64 (n:=(k:Int)+1) (by omega) (by omega)]
   exact⟨(k+1,n+Cc d p.l[k]),⟨rfl,rfl⟩,rfl,⟨by omega,hb,by simp only; omega,by simp only; omega⟩,by simp only; omega⟩
 ·have hk':k=p.l.length:=by simp at h2; omega
  subst hk'
  rw[aY] at hb hs2
  have e1:D9 cs (d+1) p=n:=by
   have e2:I_ cs (d+1) p=true:=by rw[I_,hs,← hb]; rfl
   have e3:n=Cc (d+1) p:=by rw[Cc]; simpa using hs2
   rw[D9,bF e2,e3]
  rw[e1]
  simp only[go_sem]):p:=h
theorem AEU(h:p:=by
 have hlen:xs.length≤9223372036854775807:=by have:=hw.1.1; simpa [Go.maxLen] using this
 simp only[go_sem,ae,az,aC]
 refine ABf 0 [0,1,5] (A:=Nat) (fun k=>⟨27,[(0,.c (.sl (xs.map c))),(1,.c (.sl (xs.map c))),(5,.c (.v (.int .i64 k)))],[]⟩) (fun k=>k≤xs.length) (fun k=>xs.length-k) 0 ⟨⟨rfl,rfl⟩,rfl,aA _⟩ ?_
 intro k hk
 simp only[go_sem,ae]
 refine ABG (fun h=>?_) (fun h=>?_)
 ·have hk':k<xs.length:=by simpa using h
  simp only[go_sem]
  refine AAm ?_
  simp only[go_sem,ae,az,aC,AA _ hk',hk',wrap_i64 (n:=(k:Int)+1) (by omega) (by omega),(hc _).1,(hc _).2.1,(hc _).2.2]
  refine CY (hx xs[k] (ax hk')) ?_
  simp only[go_sem,AA _ hk',wrap_i64 (n:=(k:Int)+1) (by omega) (by omega)]
  exact⟨k+1,⟨rfl,rfl⟩,rfl,by omega,by first | omega | (simp only; omega)⟩
 ·simp only[go_sem]):p:=h
theorem AEY(h:p:=by
 have hlen:xs.length≤9223372036854775807:=by have:=hw.1.1; simpa [Go.maxLen] using this
 have hl2:l≤9223372036854775807:=KW hw.2.1
 simp only[go_sem,ae,wrap_i64 (n:=l-xs.length) (by omega) (by omega)]
 refine ABG (fun h=>by simp only[go_sem,ZU h]) (fun h=>?_)
 simp only[go_sem]
 refine ABf 0 [0,1,5] (Uy 27 c xs) (szP sz xs (DW sz xs l)) (fun x=>xs.length-x.1) (0,l-xs.length) ⟨⟨rfl,rfl⟩,rfl,szP.start (QS h)⟩ ?_
 rintro⟨k,m⟩ hP
 simp only[go_sem,Uy,ae]
 refine ABG (fun h=>?_) (fun h=>?_)
 ·have hk:=ltN h
  simp only[go_sem,AA _ hk,(hc _).1,(hc _).2.1,(hc _).2.2]
  refine CW (hx xs[k] (ax hk) m hP.2.1) fun _=>?_
  simp only[go_sem]
  refine ABG (fun h=>by simp only[go_sem,hP.neg hk h]) (fun h=>?_)
  simp only[go_sem,wrap_i64 (n:=(k:Int)+1) (by omega) (by omega)]
  exact⟨(k+1,sz xs[k] m),⟨rfl,rfl⟩,rfl,hP.step hk h,by simp only; omega⟩
 ·simp only[go_sem,hP.fin h]):p:=h
theorem AEZ(h:p:=by
 simp only[go_sem,F,ai,ah,hl1,G,ae,el0,aI,aW,gx0,gx1,gx2]
 first | refine AC5 (.c (.v (.bool (there w r)))) (InlS.bor (args':=[.agg w.c,.agg r.c]) [.val (.c (.v (.bool (there w r))))] ⟨QM (AP rfl (AX _) (Ah _)) (AP rfl (BO _) (DI _)) (BorX.set rfl DBuf.o_nr DBuf.o_er fun x hx=>by rw[au hq] at hx; cases hx; exact UI rfl rfl) (AP rfl (AX _) (Ah _)) (AP rfl (DY _) (DT _)) (AP rfl (AX _) (Ah _)) (BorX.set rfl DTask.o_nr DTask.o_er fun x hx=>by rw[au hlt,hat] at hx; cases hx; exact NT rfl hm hxs) (AP rfl (DU _) (A7 _)),IK r,trivial⟩ rfl (BI w r)) ?_ | refine ACP _ _ (InlS.bor (args':=[.agg w.c,.agg r.c]) [.val (.c (.v (.bool (there w r))))] ⟨QM (AP rfl (AX _) (Ah _)) (AP rfl (BO _) (DI _)) (BorX.set rfl DBuf.o_nr DBuf.o_er fun x hx=>by rw[au hq] at hx; cases hx; exact UI rfl rfl) (AP rfl (AX _) (Ah _)) (AP rfl (DY _) (DT _)) (AP rfl (AX _) (Ah _)) (BorX.set rfl DTask.o_nr DTask.o_er fun x hx=>by rw[au hlt,hat] at hx; cases hx; exact NT rfl hm hxs) (AP rfl (DU _) (A7 _)),IK r,trivial⟩ rfl (BI w r)) ?_ | refine AC3 _ _ (InlS.bor (args':=[.agg w.c,.agg r.c]) [.val (.c (.v (.bool (there w r))))] ⟨QM (AP rfl (AX _) (Ah _)) (AP rfl (BO _) (DI _)) (BorX.set rfl DBuf.o_nr DBuf.o_er fun x hx=>by rw[au hq] at hx; cases hx; exact UI rfl rfl) (AP rfl (AX _) (Ah _)) (AP rfl (DY _) (DT _)) (AP rfl (AX _) (Ah _)) (BorX.set rfl DTask.o_nr DTask.o_er fun x hx=>by rw[au hlt,hat] at hx; cases hx; exact NT rfl hm hxs) (AP rfl (DU _) (A7 _)),IK r,trivial⟩ rfl (BI w r)) ?_
 simp only[go_sem,F,ai,ah,hl1,G,ae,el0,aI,aW,gx0,gx1,gx2,hthr]
 try (refine AAm ?_; simp only[go_sem,F,ai,ah,hl1,G,ae,el0,aI,aW,gx0,gx1,gx2,hthr])
 exact⟨rfl,rfl⟩):p:=h
theorem AEu(h:p:=by
 have hll:l.length≤1048576:=by have:=(K_ hb hdd).1; omega
 refine AAM _ hr fun _=>?_
 simp only[go_sem]
 refine AAM _ (Ez l hll) fun _=>?_
 rcases h5:typeOf l != ty with _ | _
 rotate_left
 ·have h5':¬ (typeOf l=ty∧A8 l=b):=fun q=>by simp at h5; exact h5 q.1
  simp only[go_sem,h5,bz h5',Dv]
 have h5':typeOf l=ty:=by simpa using h5
 simp only[go_sem,h5]
 refine AAM _ (MO l hll) fun _=>?_
 simp only[go_sem]
 refine AAM _ (Ik (A8 l) b) fun _=>?_
 rcases h6:decide (A8 l=b) with _ | _
 ·have h7:¬ (typeOf l=ty∧A8 l=b):=fun q=>by simp at h6; exact h6 q.2
  simp only[go_sem,h5,h6,bz h7,Dv]
 ·have h7:typeOf l=ty∧A8 l=b:=⟨h5',by simpa using h6⟩
  simp only[go_sem,h5,h6,bF h7,Dv]):p:=h
theorem AEv(h:p:=by
 refine ABL _ (AO p.col 0 _) ?_
 rcases c1:Ad p.col 0 ((cs.length:Int)-1) with _ | _
 ·simp only[go_sem,ae,k1,k2,c1,JA,ag]
 obtain⟨m,hm,hml⟩:=hin c1
 have hgm:(cs[p.col.toNat]?).getD 0=cs[m]:=by rw[hm]; simp[hml]
 have c1':=c1
 rw[hm] at c1'
 simp only[go_sem,ae,k1,k2,c1]
 refine CY (IX p.v) ?_
 rcases c2:BQ p.v with _ | _
 ·simp only[go_sem,ae,k1,k2,c1,c2,JA,ag,aK]
 rcases c3:(p.v.ty==cs[m]) with _ | _
 ·simp only[go_sem,ae,k1,k2,c1,c2,c3,hm,AA _ hml,hml,JA,ag,aK]
  try simp[JA,hgm,c1,c2,c3,hm,hml]
 simp only[go_sem,ae,k1,k2,c1,c2,c3,hm,AA _ hml,hml]
 refine ABL _ (AO p.op 1 6) ?_
 rcases c4:Ad p.op 1 6 with _ | _
 ·simp only[go_sem,ae,k1,k2,c1,c2,c3,c4,hm,AA _ hml,hml,JA,ag,aK]
  try simp[JA,hgm,c1,c2,c3,c4,hm,hml]
 ·simp only[go_sem,ae,k1,k2,c1,c2,c3,c4,hm,AA _ hml,hml]
  try simp[JA,hgm,c1,c1',c2,c3,c4,hm,hml]):p:=h
theorem AEw(h:p:=by
 refine ABL _ (AL p.col 0 _) ?_
 rcases c1:Ad p.col 0 ((cs.length:Int)-1) with _ | _
 ·simp only[go_sem,ae,h1,hl4,hwl,k1,k2,c1]
 obtain⟨m,hm,hml⟩:=hin c1
 have hgm:(cs[p.col.toNat]?).getD 0=cs[m]:=by rw[hm]; simp[hml]
 simp only[go_sem,ae,h1,hl4,hwl,k1,k2,c1]
 refine ABL _ (AL p.op 1 6) ?_
 rcases c4:Ad p.op 1 6 with _ | _
 ·simp only[go_sem,ae,h1,hl4,hwl,k1,k2,c1,c4]
 simp only[go_sem,ae,h1,hl4,hwl,k1,k2,c1,c4]
 refine CY (Dz p.v) ?_
 rcases c2:BQ p.v with _ | _
 ·simp only[go_sem,ae,h1,hl4,hwl,k1,k2,c1,c2,c4]
 rcases c3:(p.v.ty==cs[m]) with _ | _
 ·simp only[go_sem,ae,h1,hl4,hwl,k1,k2,c1,c2,c3,c4,hm,AA _ hml,hml]
 have hl0:((p.l.length:Int)==0)=false:=by
  have:JA cs p=true:=by simp only[JA,hgm,c1,c2,c3,c4,aN]
  simpa [this] using hs1
 simp only[go_sem,ae,h1,hl4,hwl,k1,k2,c1,c2,c3,c4,hm,AA _ hml,hml,hl0]):p:=h
theorem AFY(h:p:=by
 simp only[go_sem]
 refine ABH ?_
 simp only[go_sem,AA _ hi',S9,G_,aT,aA,abd,hkle,hkm,g1,g2,g3,← cu,← cZ,bI,aaN,aba,aO,htk,bM,wrap_i64 (n:=(i:Int)+1) (by omega) (by omega)]
 exact⟨i+1,Head.trans (M_ 5 rfl (L6 _ _ _)) (ABJ [(5,false)] ⟨rfl,rfl,L6 _ _ _,trivial⟩ (by rw[hds,UT]; rfl)),hi',by omega⟩):p:=h
theorem AGB(h:p:=by
 refine AAM _ (DF [] (by simp)) fun _=>?_
 rcases h5:typeOf [] != ty with _ | _
 rotate_left
 ·rw[bz (by simpa using h5)]
  simp only[go_sem,h5,Dv]
 rw[bF (by simpa using h5)]
 simp only[go_sem,h5]
 refine AAM _ (Ey [] (by simp)) fun _=>?_
 simp only[go_sem]
 refine AAM _ (Cb b k [] (A8 [])) fun _=>?_
 rcases h6:again b k [] (A8 []) with _ | l'<;>simp only[go_sem,Dv]):p:=h
theorem AGC(h:p:=by
 have hll:l.length≤1048576:=by have:=(K_ hb hdd).1; omega
 refine AAM _ hr fun _=>?_
 simp only[go_sem,aH]
 refine AAM _ (DF l hll) fun _=>?_
 rcases h5:typeOf l != ty with _ | _
 rotate_left
 ·rw[bz (by simpa using h5)]
  simp only[go_sem,h5,Dv]
 rw[bF (by simpa using h5)]
 simp only[go_sem,h5]
 refine AAM _ (Ey l hll) fun _=>?_
 simp only[go_sem]
 refine AAM _ (Cb b k l (A8 l)) fun _=>?_
 rcases h6:again b k l (A8 l) with _ | l'<;>simp only[go_sem,Dv]):p:=h
theorem AGD(h:p:=by
 simp only[go_sem,Ce,setT,codeW,endW,EM,Dn,Di,A_,DV,EJ,DWorld.o_eq,bf,htm]
 simp[AB,BJ,D6,Ed,Ag,Be,Cj,BP,hm]):p:=h
theorem AGE(h:p:=by
 simp only[AQ,Ap,go_sem]
 exact inlT.self rfl (by simp only[Eg,go_sem]) rfl):p:=h
theorem AGF(h:p:=by
 rcases hv:rowOk cs l[k] with _ | _
 ·have hno:¬ OB cs l k:=by intro hg; have:=(hg hk').1.1; rw[hv] at this; cases this
  simp only[go_sem,hv,O0 hno]
 rcases hid:decide (l[k].id>1000000000) with _ | _
 rotate_left
 ·have hno:¬ OB cs l k:=by intro hg; have:=(hg hk').2; simp at hid; omega
  simp only[go_sem,hv,hid,AA _ hk',hk',O0 hno]
 have hid':l[k].id≤1000000000:=by simp at hid; omega
 rcases aa6 k with hz | hz
 ·have hp:decide ((k:Int)>0)=false:=by simp; omega
  simp only[go_sem,hv,hid,hp,AA _ hk',hk',wrap_i64 (n:=(k:Int)+1) (by omega) (by omega)]
  exact⟨k+1,⟨rfl,rfl⟩,rfl,⟨by omega,hnext fun _=>⟨⟨hv,fun h0=>by omega⟩,hid'⟩⟩,by omega⟩
 ·have hp:decide ((k:Int)>0)=true:=by simp; omega
  have hk1:k-1<l.length:=by omega
  have hw1:IntKind.i64.wrap ((k:Int)-1)=((k-1:Nat):Int):=by rw[wrap_i64 (by omega) (by omega)]; omega
  rcases hq:decide (l[k-1].id≥l[k].id) with _ | _
  ·simp only[go_sem,hv,hid,hp,hw1,AA _ hk',AA _ hk1,hk',hk1,hq,wrap_i64 (n:=(k:Int)+1) (by omega) (by omega)]
   exact⟨k+1,⟨rfl,rfl⟩,rfl,⟨by omega,hnext fun _=>⟨⟨hv,fun _=>by simp at hq; omega⟩,hid'⟩⟩,by omega⟩
  ·have hno:¬ OB cs l k:=by intro hg; have:=(hg hk').1.2 hz; simp at hq; omega
   simp only[go_sem,hv,hid,hp,hw1,AA _ hk',AA _ hk1,hk',hk1,hq,O0 hno]):p:=h
theorem AGG(h:p:=by
 have hlen:xs.length≤9223372036854775807:=by have:=hw.1.1; simpa [Go.maxLen] using this
 have hl2:l≤9223372036854775807:=KW hw.2.1
 simp only[go_sem,ae,wrap_i64 (n:=l-xs.length) (by omega) (by omega)]
 refine ABG (fun h=>?_) (fun h=>?_)
 ·have h':l-xs.length<0:=by simpa using h
  simp only[go_sem]
  simp[F6,h']
 ·have h':¬ l-xs.length<0:=by simpa using h
  simp only[go_sem]
  simp[F6,h']):p:=h
theorem AGI(h:p:=by
 rcases kq:noQ t.q with _ | _
 ·simp only[go_sem,bD,aU,aO,kpc,kh,kr,kid,kq,C9,ag,aj]
 rcases kts:t.ts==0 with _ | _
 ·simp only[go_sem,bD,aU,aO,kpc,kh,kr,kid,kq,kts,C9,ag,aj]
 rcases kver:t.ver==0 with _ | _
 ·simp only[go_sem,bD,aU,aO,kpc,kh,kr,kid,kq,kts,kver,C9,ag,aj]
 rcases kl:((t.l.length:Int)==0) with _ | _
 ·simp only[go_sem,bD,aU,aO,kpc,kh,kr,kid,kq,kts,kver,kl,C9,ag,aj]
 rcases ki:t.i==0 with _ | _
 ·simp only[go_sem,bD,aU,aO,kpc,kh,kr,kid,kq,kts,kver,kl,ki,C9,ag,aj]
 rcases kj:t.j==0 with _ | _
 ·simp only[go_sem,bD,aU,aO,kpc,kh,kr,kid,kq,kts,kver,kl,ki,kj,C9,ag,aj]
 rcases ks:t.s==0 with _ | _
 ·simp only[go_sem,bD,aU,aO,kpc,kh,kr,kid,kq,kts,kver,kl,ki,kj,ks,C9,ag,aj]
 rcases kat:t.at0==0 with _ | _
 ·simp only[go_sem,bD,aU,aO,kpc,kh,kr,kid,kq,kts,kver,kl,ki,kj,ks,kat,C9,ag,aj]
 rcases kown:t.own==0 with _ | _
 ·simp only[go_sem,bD,aU,aO,kpc,kh,kr,kid,kq,kts,kver,kl,ki,kj,ks,kat,kown,C9,ag,aj]
 rcases kwon:t.won with _ | _
 rotate_left
 ·simp only[go_sem,bD,aU,aO,kpc,kh,kr,kid,kq,kts,kver,kl,ki,kj,ks,kat,kown,kwon,C9,ag,aj,aP]
 simp only[go_sem,bD,aU,aO,kpc,kh,kr,kid,kq,kts,kver,kl,ki,kj,ks,kat,kown,kwon,C9,aj,aS]):p:=h
theorem AGK(h:p:=by
 have hr:Bz cs q=(L_ cs q.out&&((q.col==0)&&Ad q.out.length 1 3)):=by simp[Bz,h1,k1]
 rw[hr]
 simp only[go_sem,ae,h1,c1,k1]
 refine ABK 1 (A:=Nat) (fun k=>[(32,.c (.v (.int .i64 (k))))]) (fun _=>[⟨69,10,[AEa q],true,true⟩]) (fun k=>k≤q.out.length∧L_ cs (q.out.drop k)=L_ cs q.out) (fun k=>q.out.length-k) 0 ⟨⟨rfl,rfl⟩,rfl,aA _,rfl⟩ ?_
 rintro k ⟨hk,hb⟩
 simp only[go_sem,ae]
 refine ABG (fun h=>?_) (fun h=>?_)
 ·have hk':k<q.out.length:=by simpa using h
  rw[Tc cs q.out hk'] at hb
  simp only[go_sem,ae,AA _ hk',hk',hwl]
  refine AAM _ (AL q.out[k] 0 _) fun _=>?_
  rcases hv:Ad q.out[k] 0 ((cs.length:Int)-1) with _ | _
  ·rw[hv,ag] at hb
   simp only[go_sem,ae,hv,← hb,ag]
  ·rw[hv,aj] at hb
   simp only[go_sem,ae,hv,wrap_i64 (n:=(k:Int)+1) (by omega) (by omega)]
   exact⟨k+1,⟨rfl,rfl⟩,rfl,⟨by omega,hb⟩,by omega⟩
 ·have hk':k=q.out.length:=by simp at h; omega
  rw[hk',aY] at hb
  have hb':L_ cs q.out=true:=by rw[← hb]; rfl
  rw[hb',aj]
  simp only[go_sem,ae]
  refine AAM _ (AL q.out.length 1 3) fun _=>?_
  rcases hA:Ad q.out.length 1 3 with _ | _
  ·simp only[go_sem,ae,hA,aK]
  ·simp only[go_sem,ae,hA,aN]):p:=h
theorem AGb(h:p:=by
 refine CW (hgr) fun _=>?_
 simp only[go_sem]
 refine ABK 2 (A:=Nat) (fun x=>[(36,.c (.v (.int .i64 (x))))]) (fun _=>[⟨44,14,[w.c],true,true⟩,⟨133,5,[w.d.l[k].c],true,true⟩]) (FC (kT w w.d.l[k]) fun x=>CU w.d.l[k] x.id) (fun x=>(kT w w.d.l[k]).length-x) 0 ⟨⟨rfl,rfl⟩,rfl,DZ⟩ ?_
 intro j hj
 simp only[go_sem]
 refine ABG (fun h=>?_) (fun h=>?_)
 ·have hj':j<(kT w w.d.l[k]).length:=by simpa using h
  simp only[go_sem,AA _ hj',hj']
  try refine AAm ?_
  try simp only[go_sem,AA _ hj',hj']
  first | refine CY (G9 w.d.l[k] (kT w w.d.l[k])[j].id) ?_ | refine CW (G9 w.d.l[k] (kT w w.d.l[k])[j].id) fun _=>?_
  rcases h3:CU w.d.l[k] (kT w w.d.l[k])[j].id with _ | _
  ·simp only[go_sem,h3,BU (p:=RY w) hk' (by rw[hp1]; exact BU (p:=fun x:DRow=>CU w.d.l[k] x.id) hj' h3)]
  ·simp only[go_sem,h3,wrap_i64 (n:=(j:Int)+1) (by omega) (by omega)]
   exact⟨j+1,⟨rfl,rfl⟩,rfl,BH hj' hj h3,by omega⟩
 ·have hj':j=(kT w w.d.l[k]).length:=by have:=hj.1; simp at h; omega
  subst hj'
  simp only[go_sem,wrap_i64 (n:=(k:Int)+1) (by omega) (by omega)]
  exact⟨k+1,⟨rfl,rfl⟩,rfl,BH hk' hk (by rw[hp1]; exact DN hj),by omega⟩):p:=h
theorem AGm(h:p:=by
 refine ACK (args:=[.c (.sl (cs.map intC)),.c (.sl ((rowsOf ids c).map DRow.c))]) _ (by simp only[Jk,Ah,go_sem]) rfl (Pn cs (rowsOf ids c) (by rw[Dy]; omega)) fun _=>?_
 rcases hok:Du cs (rowsOf ids c) with _ | _
 ·have hno:¬ (Du cs (rowsOf ids c)=true∧Dj cs (rowsOf ids c)=b):=fun q=>by rw[hok] at q; cases q.1
  rw[Yu hno]
  simp only[go_sem,hok,XA]
  try simp[OwnL,AB,BJ]
 simp only[go_sem,hok]
 refine ACK (args:=[.c (.sl (cs.map intC)),.c (.sl ((rowsOf ids c).map DRow.c))]) [.own 5 1 ((Dj cs (rowsOf ids c)).map byteC) true] (by simp only[Jk,Ah,go_sem]) (by simp only[bi,Gn,bJ,aN,AAT]) (Q8 cs (rowsOf ids c) (dO n2 (by omega) hsz)) fun _=>?_
 simp only[go_sem]
 refine AAM _ (Lu (Dj cs (rowsOf ids c)) b) fun _=>?_
 rcases h6:decide (Dj cs (rowsOf ids c)=b) with _ | _
 ·have hno:¬ (Du cs (rowsOf ids c)=true∧Dj cs (rowsOf ids c)=b):=fun q=>by simp at h6; exact h6 q.2
  rw[Yu hno]
  simp only[go_sem,hok,h6,XA]
  try simp[OwnL,AB,BJ]
 ·have hyes:Du cs (rowsOf ids c)=true∧Dj cs (rowsOf ids c)=b:=⟨hok,by simpa using h6⟩
  rw[uY hyes]
  simp only[go_sem,hok,h6,XA,BF]
  try simp[OwnL,AB]):p:=h
theorem AG3(h:p:=by
 intro hpl hn0
 unfold QA at hpl
 have hbs:QR w k w.b[k]=UX w k w.b[k]:=by simp only[QR,hp1,aj]
 rcases h4:w.b[k].kind==0 with _ | _
 ·have g4:(w.b[k].kind != 0)=true:=by simp[bne,h4]
  rcases h5:n != 1 with _ | _
  ·simp only[go_sem,AA _ hk',hk',h4,g4,h5,wrap_i64 (n:=(k:Int)+1) (by omega) (by omega)]
   exact⟨k+1,⟨rfl,rfl⟩,rfl,OG hk' hk (by rw[hbs,hpl,h4,g4,h5]; rfl),by omega⟩
  ·simp only[go_sem,AA _ hk',hk',h4,g4,h5,JJ (p:=QR w) hk' (by rw[hbs,hpl,h4,g4,h5]; rfl),ag]
 ·have g4:(w.b[k].kind != 0)=false:=by simp[bne,h4]
  rcases h5:n != 0 with _ | _
  ·have g5:decide (n>0)=false:=by have:n=0:=(by simpa using h5); rw[this]; rfl
   simp only[go_sem,AA _ hk',hk',h4,g4,h5,wrap_i64 (n:=(k:Int)+1) (by omega) (by omega)]
   exact⟨k+1,⟨rfl,rfl⟩,rfl,OG hk' hk (by rw[hbs,hpl,h4,g4,g5]; rfl),by omega⟩
  ·have g5:decide (n>0)=true:=by have:n≠0:=(by simpa using h5); simp; omega
   simp only[go_sem,AA _ hk',hk',h4,g4,h5,JJ (p:=QR w) hk' (by rw[hbs,hpl,h4,g4,g5]; rfl),ag]):p:=h
theorem AG4(h:p:=by exact EndH.self (by simp only[go_sem]; simp[OwnL,AB,BJ,D6])):p:=h
theorem AG5(h:p:=by
 exact {
  defers:=rfl
  size:=by simp; omega
  lim:=hlim
  env:=fun i=>by
   rw[xX (by simp; omega) rfl]
   simp only[Pg,aA,bf,abd]
   rcases bV i args.length with hi | hi
   ·obtain⟨u,hu,hr⟩:=hva i args[i] (by simp[hi])
    have e1:args.getD i .un=args[i]:=by simp[hi]
    have e2:(vs.toArray++Array.replicate (fn.ntmps-vs.toArray.size) Go.undef).getD i Go.undef=u:=by
     have hiv:i<vs.length:=by omega
     simp only[aa7]
     rw[aax (by omega)]
     simp[hu]
    rw[e1,e2]
    exact hr.toAVR
   ·have e1:args.getD i .un = .un:=by simp[hi]
    rw[e1]
    simp only[AVR]
  below:=BelowB.refl _ _
  st0:=fun _ _ h=>h
  stOld:=fun _ _ h _ _=>h
  stIn:=hSt
  obs:=fun l ob b hl=>by simp at hl
  nil:=fun l ob hl=>by simp at hl
  inj:=fun l l' ob ob' b hl=>by simp at hl
  sep:=fun l ob b o hl=>by simp at hl
  own:=⟨fun _ _ _=>False,fun l ob b k c hl=>by simp at hl,fun _ _ _ h=>h.elim,fun _ _ _ _ _ h=>h.elim⟩ }):p:=h
theorem AG6(h:p:=by
 have h1':x≥128:=by simp at h1; omega
 cases f with
 | zero=>simp at hx1; omega
 | succ f =>
 rw[fM,bF h1'] at hb
 have hwt:IntKind.i64.wrap (x.tmod 128)=x%128:=by rw[aat (by omega),wrap_i64 (by omega) (by omega)]
 have hwd:IntKind.i64.wrap (x.tdiv 128)=x/128:=by rw[dw (by omega),wrap_i64 (by omega) (by omega)]
 have hwa:IntKind.i64.wrap (x%128+128)=x%128+128:=wrap_i64 (by omega) (by omega)
 have hwb:IntKind.i64.wrap (128+x%128)=x%128+128:=by rw[wrap_i64 (by omega) (by omega)]; omega
 have hwu:IntKind.u8.wrap (x%128+128)=x%128+128:=wrap_u8 (by omega) (by omega)
 simp only[go_sem,bi,bJ,h1,ae,hwt,hwd,hwa,hwb,hwu,hol2,aH]
 exact⟨(f,x/128,out ++ [x%128+128]),ABJ [(2,false)] ⟨rfl,rfl,by rw[← Ko]; exact AY byteC.pure,trivial⟩ (by rw[← Ko]; rfl),⟨by simp only; omega,by simp only; omega,by simp only; rw[abe] at hx1; omega,by simp only; rw[← hb,bT]; rfl⟩,by simp only; omega⟩):p:=h
theorem AG7(h:p:=by
 rcases h3:Ad d.code 0 5 with _ | _
 ·simp only[go_sem,Ff,h1,h2,h3,aK,aS]
 rcases h4:decide (d.stamp<0) with _ | _
 rotate_left
 ·simp only[go_sem,Ff,h1,h2,h3,h4,aN,aP,dh]
 rcases h5:decide (d.inv<0) with _ | _
 rotate_left
 ·simp only[go_sem,Ff,h1,h2,h3,h4,h5,aN,aP,dh,bZ]
 rcases h6:decide (d.id < -1) with _ | _
 rotate_left
 ·simp only[go_sem,Ff,h1,h2,h3,h4,h5,h6,aN,aP,dh,bZ]
 rcases h7:d.lin == -1 with _ | _
 ·have h7':(d.lin != -1)=true:=by simp[bne,h7]
  rcases h8:decide (d.lin<d.inv) with _ | _
  rotate_left
  ·simp only[go_sem,Ff,h1,h2,h3,h4,h5,h6,h7,h7',h8,aN,aP,aS,dh,bZ]
  rcases h9:d.ret == -1 with _ | _
  all_goals simp only[go_sem,Ff,h1,h2,h3,h4,h5,h6,h7,h7',h8,h9,aN,aK,aj,aP,aS,dh,bZ,abC]
 ·have h7':(d.lin != -1)=false:=by simp[bne,h7]
  rcases h9:d.ret == -1 with _ | _
  all_goals simp only[go_sem,Ff,h1,h2,h3,h4,h5,h6,h7,h7',h9,aN,aK,ag,aP,aS,dh,bZ,abC]):p:=h
theorem AG8(h:p:=by
 rcases h:Ad n 0 2000000000 with _ | _
 ·simp only[go_sem,h,YY]
 ·have hb:0≤n∧n≤2000000000:=by simpa [Ad] using h
  obtain⟨m,rfl⟩:=aQ hb.1
  have e1:IntKind.i64.wrap ((m:Int).tmod 2)=(m:Int)%2:=by rw[aat (by omega)]; exact wrap_i64 (by omega) (by omega)
  simp only[go_sem,h,e1]
  refine ABG (fun h1=>?_) (fun h1=>?_)
  ·have h1':(m:Int)%2=1:=by simpa using h1
   simp only[go_sem]
   rw[wrap_i64 (n:=(m:Int)+1) (by omega) (by omega),wrap_i64 (n:=0-((m:Int)+1)) (by omega) (by omega)]
   have e2:(0-((m:Int)+1)).tdiv 2 = -(((m:Int)+1)/2):=by rw[show 0-((m:Int)+1) = -((m:Int)+1) by omega,Int.neg_tdiv,dw (by omega)]
   rw[e2,wrap_i64 (by omega) (by omega)]
   simp only[YY,h,bf,zag,bF h1']
  ·have h1':¬ (m:Int)%2=1:=by simpa using h1
   simp only[go_sem]
   rw[dw (by omega),wrap_i64 (by omega) (by omega)]
   simp only[YY,h,bf,zag,bz h1']):p:=h
theorem AG9(h:p:=by
 rintro k ⟨hk,hf⟩
 simp only[go_sem]
 refine ABG (fun h=>?_) (fun h=>?_)
 ·have hk':k<a.length:=by simpa using h
  have hk2:k<b.length:=by omega
  rw[fV a b hk' hk2] at hf
  rcases hv:a[k]==b[k] with _ | _
  ·have hv2:(a[k] != b[k])=true:=by simp[bne,hv]
   simp only[go_sem,AA _ hk',AA _ hk2,hk',hk2,hv,hv2]
   refine AAm ?_
   simp only[go_sem,AA _ hk',AA _ hk2,hk',hk2,hv,hv2]
   rw[hv,ag] at hf
   rw[hf]
  ·have hv2:(a[k] != b[k])=false:=by simp[bne,hv]
   simp only[go_sem,AA _ hk',AA _ hk2,hk',hk2,hv,hv2]
   refine AAm ?_
   simp only[go_sem,AA _ hk',AA _ hk2,hk',hk2,hv,hv2,wrap_i64 (n:=(k:Int)+1) (by omega) (by omega)]
   rw[hv,aj] at hf
   exact⟨k+1,⟨rfl,rfl⟩,rfl,⟨by omega,hf⟩,by omega⟩
 ·have hk':k=a.length:=by simp at h; omega
  subst hk'
  simp only[go_sem]
  rw[← hf,aY,he,aY]; rfl):p:=h
theorem AHF(h:p:=by
 have e1:=hb.ret
 subst e1
 obtain⟨Φs3,hr3,_⟩:=hb3.res
 have k3:=nI rs hr3
 refine⟨St3,β,k1.put o.dst (Ky ?_)⟩
 have key:∀ (xs:List AV) (us:List Value),RdAs w' St3 xs us→AVRs w' St3 s.st β xs us:=by
  intro xs
  induction xs with
  | nil=>intro us h; simp only[AVRs]; exact h
  | cons x xs ih =>
   intro us h
   obtain⟨y,ys,h1,h2,h3⟩:=h
   simp only[AVRs]
   exact⟨y,ys,h1,h2.toAVR,ih ys h3⟩
 grind):p:=h
theorem AHZ(h:p:=by
 have hq:x≤2147483647∨x≤1099511627775:=.inl (by omega)
 have hnr:BJ [[Cl.v (.int .i64 0),Cl.v (.slice none 0 0)]]=true:=rfl
 have hw1:IntKind.i64.wrap ((x:Int)+1)=((x+1:Nat):Int):=by rw[wrap_i64 (by omega) (by omega)]; omega
 simp only[go_sem,bU,hq,hnr,hw1,← List.replicate_succ']
 refine⟨x+1,ABJ [(0,true),(1,true),(4,true)] ⟨rfl,rfl,rfl,rfl,(by show List.all _ _=true; rw[aJ]; intro r hr; rw[List.eq_of_mem_replicate hr]; rfl),trivial⟩ ?_,by omega,by omega⟩
 have e5:(List.replicate (x+1) [Cl.v (.int .i64 0),Cl.v (.slice none 0 0)]).map (fun r=>r.map (QP [(0,true),(1,true),(4,true)]))=List.replicate (x+1) [Cl.v (.int .i64 0),Cl.v (.slice none 0 0)]:=by rw[List.map_replicate]; rfl
 exact congrArg (fun z=>(⟨21,_,[_,_,⟨199,2,z,true,true⟩]⟩:MS)) e5):p:=h
theorem AIA(h:p:=by
 rcases h1:(w.d.l.length:Int)==0 with _ | _
 ·have h2:0<w.d.l.length:=by
   rcases aa6 w.d.l.length with e | e
   ·rw[e] at h1; cases h1
   ·exact e
  have h3:lastB w=true:=by simp[lastB]; intro e; simp[e] at h2
  obtain⟨n,hn⟩:∃ n:Nat,w.d.l.length=n+1:=⟨w.d.l.length-1,by omega⟩
  have h4:IntKind.i64.wrap ((w.d.l.length:Int)-1)=(n:Int):=by rw[wrap_i64 (by omega) (by omega)]; omega
  have h5:n<w.d.l.length:=by omega
  have h6:JG w=w.d.l[n]:=by rw[rZ h2]; congr 1; omega
  simp only[go_sem,ae,h1,h3,h4,h5,h6,AA _ h5]
  try refine AAm ?_
  try simp only[go_sem,ae,h1,h3,h4,h5,h6,AA _ h5]
 ·have h2:w.d.l = []:=by simp at h1; exact h1
  have h3:lastB w=false:=by simp[lastB,h2]
  have h4:JG w=⟨0,0,0,0,0⟩:=by simp[JG,h2]
  simp only[go_sem,ae,h1,h3,h4]):p:=h
theorem AIB(h:p:=by
 rintro k ⟨hk,hb⟩
 simp only[go_sem]
 refine ABG (fun h=>?_) (fun h=>?_)
 ·have hk':k<p.l.length:=by simpa using h
  have hk2:k<q.l.length:=by omega
  rw[YD p.l q.l hk' hk2] at hb
  simp only[go_sem,AA _ hk',AA _ hk2,hk',hk2]
  try refine AAm ?_
  try simp only[go_sem,AA _ hk',AA _ hk2,hk',hk2]
  first | refine CY (hx p.l[k] (ax hk') q.l[k] (ax hk2)) ?_ | refine CW (hx p.l[k] (ax hk') q.l[k] (ax hk2)) fun _=>?_
  rcases hv:OE p.l[k] q.l[k] with _ | _
  ·simp only[go_sem,hv]
   rw[hv,ag] at hb
   rw[← hb]
  ·simp only[go_sem,hv,wrap_i64 (n:=(k:Int)+1) (by omega) (by omega)]
   rw[hv,aj] at hb
   exact⟨k+1,⟨rfl,rfl⟩,rfl,⟨by omega,hb⟩,by omega⟩
 ·have hk':k=p.l.length:=by simp at h; omega
  subst hk'
  simp only[go_sem]
  rw[← hb,aY,he,aY,H8]):p:=h
theorem AIC(h:p:=by
 rintro k ⟨hk,hf⟩
 simp only[go_sem,ae]
 refine ABG (fun h=>?_) (fun h=>?_)
 ·have hk':k<a.length:=by simpa using h
  have hk2:k<b.length:=by omega
  rw[Y6 a b hk' hk2] at hf
  simp only[go_sem,ae,AA _ hk',AA _ hk2,hk',hk2]
  try refine AAm ?_
  try simp only[go_sem,ae,AA _ hk',AA _ hk2,hk',hk2]
  have e1:(a[k].ty==b[k].ty&&(a[k].n==b[k].n&&a[k].s.toList==b[k].s.toList))=ND a[k] b[k]:=rfl
  try simp only[ES,IL,e1,aN]
  rcases hv:ND a[k] b[k] with _ | _
  ·simp only[go_sem,hv,e1,aS,aN]
   grind
  ·simp only[go_sem,hv,e1,aP,wrap_i64 (n:=(k:Int)+1) (by omega) (by omega)]
   rw[hv,aj] at hf
   exact⟨k+1,⟨rfl,rfl⟩,rfl,⟨by omega,hf⟩,by omega⟩
 ·have hk':k=a.length:=by simp at h; omega
  subst hk'
  simp only[go_sem]
  rw[← hf,aY,he,aY]; rfl):p:=h
theorem AID(h:p:=by exact⟨x+1,ABJ [] ⟨rfl,rfl,trivial⟩ (by rw[hb]; rfl),hx',by omega⟩):p:=h
theorem AIE(h:p:=by
 simp only[go_sem] at hset
 simp only[go_sem,AA _ hk',Bq hk,EL hk',hk',hset,wrap_i64 (n:=(k:Int)+1) (by omega) (by omega)]
 refine CW (hx xs[k] (ax hk')) fun _=>?_
 simp only[go_sem,AA _ hk',Bq hk,EL hk',hk',hset,wrap_i64 (n:=(k:Int)+1) (by omega) (by omega)]
 exact⟨k+1,⟨rfl,hg _⟩,rfl,by omega,by first | omega | (simp only; omega)⟩):p:=h
theorem AIF(h:p:=by
 first | refine ABL _ (AL t.pc 2 5) ?_ | refine AAM _ (AL t.pc 2 5) fun _=>?_
 rcases r1:Ad t.pc 2 5 with _ | _
 ·simp only[go_sem,r1,aS,dh]
 simp only[go_sem,r1,aP,bZ]
 try refine AAm ?_
 try simp only[go_sem,r1]
 first | refine ABL _ (AL (t.l.length:Int) 1 2) ?_ | refine AAM _ (AL (t.l.length:Int) 1 2) fun _=>?_
 simp only[go_sem]):p:=h
theorem AIG(h:p:=by
 simp only[go_sem,AA _ hk',Bq hk,EL hk',hk',hset,wrap_i64 (n:=(k:Int)+1) (by omega) (by omega)]
 exact⟨k+1,⟨rfl,hg _⟩,rfl,by omega,by first | omega | (simp only; omega)⟩):p:=h
theorem AIH(h:p:=by
 unfold Ac at hs; unfold OJ at hz; unfold EQ at hb
 cases hi:P.info? e with
 | none=>grind
 | some i =>
  cases hiz:i.zero with
  | none=>grind
  | some z' =>
   grind):p:=h
theorem AII(h:p:=by try simp[OwnL,AB]):p:=h
theorem AIc(h:p:=by
 rcases h2:Ad w 0 31 with _ | _
 ·have:¬ ((0≤k∧k≤64)∧0≤w∧w≤31):=by simp[Ad] at h2; omega
  simp only[go_sem,h,h2,Fz,bz this]
 have hk:0≤k∧k≤64:=by simp[Ad] at h; omega
 have hw:0≤w∧w≤31:=by simp[Ad] at h2; omega
 have hm:0≤k*w:=aaZ hk.1 hw.1
 have hm2:k*w≤64*31:=Int.le_trans (aag hk.2 hw.1) (abf hw.2 (by omega))
 have e1:IntKind.i64.wrap (k*w)=k*w:=wrap_i64 (by omega) (by omega)
 have e2:IntKind.i64.wrap (k*w+7)=k*w+7:=wrap_i64 (by omega) (by omega)
 have e3:IntKind.i64.wrap ((k*w+7).tdiv 8)=(k*w+7)/8:=by rw[dw (by omega),wrap_i64 (by omega) (by omega)]
 simp only[go_sem,h,h2,Fz,hk,hw,e1,e2,e3,and_self,bf]):p:=h
theorem AIy(h:p:=by
 simp only[go_sem,DSlot.o_eq]
 simp[AB]):p:=h
theorem AIz(h:p:=by
 simp only[go_sem,ae,AA _ hi',AA _ h0,aH]
 rcases h2:BQ l[i] with _ | _
 ·rw[Sm h0 (i:=i) hi' (fun q=>by rw[h2] at q; cases q.1)]
  simp only[go_sem,h2]
 rcases h3:l[i].ty != l[0].ty with _ | _
 ·have h3':l[i].ty=l[0].ty:=by simpa using h3
  simp only[go_sem,ae,AA _ hi',AA _ h0,h2,h3,wrap_i64 (n:=(i:Int)+1) (by omega) (by omega)]
  exact⟨i+1,⟨rfl,rfl⟩,rfl,⟨hi',fun m h4 h5=>by
   by_cases e:m=i
   ·subst e; exact⟨h2,h3'⟩
   ·exact hb m h4 (by omega)⟩,by omega⟩
 ·have h3':l[i].ty≠l[0].ty:=by simpa using h3
  rw[Sm h0 (i:=i) hi' (fun q=>h3' q.2)]
  simp only[go_sem,ae,AA _ hi',AA _ h0,h2,h3]):p:=h
theorem AI0(h:p:=by
 simp only[go_sem,Ce,setT,codeW,endW,EM,Dn,Di,A_,DV,EJ,DWorld.o_eq,bf,htm,hl1]
 simp[AB,BJ,D6,Ed,Ag,Be,Cj,BP,hm,hl1]):p:=h
theorem AI1(h:p:=by
 simp only[go_sem]
 rcases h3:Bf b q' with _ | ⟨n,q2⟩<;>rw[h3] at hg2 hb2<;>simp only[Ve] at hg2
 ·refine AAM _ hg2 fun _=>?_
  simp only[WB] at hb2
  rw[← hb2]
  simp only[go_sem,Ya]
  try simp[BJ]
 ·refine AAM _ hg2 fun _=>?_
  have hl2:l.length+1≤2147483648:=by omega
  simp only[go_sem,ae,bi,bJ,hl2,aH,wrap_i64 (n:=(i:Int)+1) (by omega) (by omega)]
  exact⟨(i+1,q2,l ++ [n]),ABJ [(2,false)] ⟨rfl,rfl,by rw[← GY]; exact AY XE,trivial⟩ (by rw[← GY]; rfl),⟨hi',by simp; omega,by rw[← hb2,aaT]; congr 1; funext y; simp⟩,by simp only; omega⟩):p:=h
theorem AI2(h:p:=by
 refine⟨(k+1,out ++ [c.l[k]]),ACJ [(0,false),(1,true),(2,true),(7,true),(5,false)] 4 3 ⟨rfl,rfl,rfl,rfl,rfl,Jq DSlot.o_nr _ out rfl,AY DVal.pure,trivial⟩ ⟨out.length,out.map DSlot.o ++ [DSlot.o c.l[k]],_,DSlot.o c.l[k],_,⟨pX 3,rfl,Jp DSlot.o_nr _ out _ _,by simp,rfl⟩,
  ⟨rfl,rfl,rfl,rfl,rfl,rfl,DD _,by simp[Eu],fun l hl=>by simp[Eu] at hl; omega⟩,⟨rfl, ?tr⟩, ?eq⟩,⟨hk',by simp; omega,(bT _ _ _).trans hb⟩,by simp only; omega⟩
 case tr=>unfold BV; rw[CV]; exact AEo rfl rfl rfl (AU (ED _))
 case eq=>unfold BV; rw[CV,WU]; rfl):p:=h
theorem AI3(h:p:=by
 cases hl:listed.getD j false with
 | true=>rw[Fq (X:=fun j=>if i=j then true else listed.getD j false) hdst hj (by simp only[hne,aX]; exact hl) ops.size hjs,Fq (X:=fun j=>listed.getD j false) hdst hj hl ops.size hjs]
 | false=>rw[Bc (X:=fun j=>if i=j then true else listed.getD j false) ops.size (fun k _ hk=>by have:=hdst k j t hk hj; subst this; simp only[hne,aX]; exact hl),Bc (X:=fun j=>listed.getD j false) ops.size (fun k _ hk=>by have:=hdst k j t hk hj; subst this; exact hl)]):p:=h
theorem AI4(h:p:=by
 simp only[go_sem,DTask.o_eq,F,Ed,Ag,Be,Cj,BP,hl1,el0]
 simp[AB,BJ,D6]):p:=h
theorem AI5(h:p:=by simp only[go_sem]):p:=h
theorem AI6(h:p:=by
 rw[e]
 simp only[go_sem,h1]
 try simp[OwnL,AB,BJ]):p:=h
theorem AI7(h:p:=by
 intro k hk
 simp only[go_sem]
 refine ABG (fun h=>?_) (fun h=>?_)
 ·have hk':k<d.l.length:=by simpa using h
  rcases h1:d.l[k].buf==n with _ | _
  ·simp only[go_sem,AA _ hk',hk',h1,wrap_i64 (n:=(k:Int)+1) (by omega) (by omega)]
   exact⟨k+1,⟨rfl,rfl⟩,rfl,BH hk' hk (by simp[h1]),by omega⟩
  ·simp only[go_sem,AA _ hk',hk',h1,E5,pG (p:=fun r:DRef=>r.buf==n) hk' h1]
 ·have hk':k=d.l.length:=by have:=hk.1; simp at h; omega
  subst hk'
  simp only[go_sem,E5,y9 hk]):p:=h
theorem AJ3(h:p:=by
 rcases h5:FQ b (n:Int) != 0 with _ | _
 ·have h5':FQ b (n:Int)=0:=by simpa using h5
  simp only[go_sem,h5,wrap_i64 (n:=(n:Int)+1) (by omega) (by omega)]
  exact⟨n+1,⟨rfl,all1 (AU (AX _))⟩,rfl,⟨by omega,by omega,fun m h1 h2=>by
   grind⟩,by omega⟩
 ·have h5':FQ b (n:Int)≠0:=by simpa using h5
  have:unpack b W i=none:=by
   unfold unpack
   rw[bz]
   rintro⟨_,q⟩
   exact h5' (q n (abD.2 hn') (by omega))
  rw[this]
  simp only[go_sem,h5,Y0]
  try simp[BJ]):p:=h
theorem AJ4(h:p:=by
 subst hne
 have hy0:([]:List (List Cl)).length=0:=rfl
 rw[hy0] at hvy
 have hrun:(Builtin.append_ #[T,T] o.type #[a.eval x,a.eval y]).run P w = .ok (.slice none 0 0) w:=by
  rw[hvx,hvy]; exact IC ht hs none 0 0 (aT _) ad capy w
 obtain⟨a1,a2,a3⟩:=k1.addOb ⟨e,n,[],ob.wr,true⟩ none (fun _=>rfl) (by simp) k1.own (by simp)
 refine⟨_,.slice none 0 0,w,St,_,hexec _ _ hrun,.inl rfl,a1, ?_⟩
 rw[← hkl]
 exact NL (b:=none) rfl (by simp) fun _=>⟨rfl,rfl⟩):p:=h
theorem AJ5(h:p:=by
 rcases h:ER n with _ | _
 ·simp only[go_sem,h,YX]
 ·have hb:=Sj.1 h
  simp only[go_sem,h]
  refine ABG (fun h1=>?_) (fun h1=>?_)
  ·have h1':n<0:=by simpa using h1
   simp only[go_sem]
   rw[wrap_i64 (n:=-2*n) (by omega) (by omega),wrap_i64 (n:=-2*n-1) (by omega) (by omega)]
   simp only[YX,h,bf,zig,bF h1']
  ·have h1':¬ n<0:=by simpa using h1
   simp only[go_sem]
   rw[wrap_i64 (n:=2*n) (by omega) (by omega)]
   simp only[YX,h,bf,zig,bz h1']):p:=h
theorem AJ6(h:p:=by
 simp only[go_sem]
 refine ABG (fun h=>by simp only[go_sem,Ji h]) fun h=>?_
 have h0:=QS h
 simp only[go_sem,Jj h]):p:=h
theorem AJ7(h:p:=by try simp[OwnL,AB,BJ]):p:=h
theorem AJ8(h:p:=by
 simp only[go_sem,Ce,setT,codeW,endW,EM,Dn,Di,A_,DV,EJ,DWorld.o_eq,bf,htm,hq1,el0,hl1]
 simp[AB,BJ,D6,Ed,Ag,Be,Cj,BP,hm,hq1,el0,hl1]):p:=h
theorem AJ9(h:p:=by
 have g5:((t.l.length:Int) != 1)=true:=by simp only[bne,h5,aS]
 simp only[go_sem,g5,ag]
 try refine AAm ?_
 try simp only[go_sem,g5]):p:=h
theorem AJ_(h:p:=by
 simp only[go_sem,Iw,Bh,FU]
 simp[AB,BJ,D6]):p:=h
theorem AKA(h:p:=by
 rcases hn:d.l.length with _ | k
 ·have e0:((d.l.length:Int)==0)=true:=by rw[hn]; rfl
  simp only[go_sem,e0,kQ (List.length_eq_zero_iff.1 hn)]
 obtain⟨hk,he⟩:=vS hn
 have e0:((d.l.length:Int)==0)=false:=by rw[hn]; simp; omega
 have e1:IntKind.i64.wrap ((d.l.length:Int)-1)=(k:Int):=by rw[wrap_i64 (by omega) (by omega)]; omega
 simp only[go_sem,e0,e1,AA _ hk,hk,he]):p:=h
theorem AKW(h:p:=by
 by_cases e2:b'=b0
 ·subst e2
  have ho:=(hkeep o hbo).2
  rw[hosz] at ho
  rw[World.cell?,World.cell?,setRow_heap w b' cs C' ob.ty (0,0) c3,c3]
  grind
 grind [cell_of_block,setRow_other]):p:=h
theorem AKZ(h:p:=by
 refine AAM _ hr fun _=>?_
 simp only[go_sem,Dv]):p:=h
theorem AKc(h:p:=by
 rcases hv:BQ vs[k] with _ | _
 ·simp only[go_sem,hv]
  grind
 ·simp only[go_sem,hv,AA _ hk',AA _ hk2]
  rcases ht:vs[k].ty==cs[k] with _ | _
  ·simp only[go_sem,bne,ht]
   grind
  ·simp only[go_sem,bne,ht,wrap_i64 (n:=(k:Int)+1) (by omega) (by omega)]
   rw[hv,ht] at hf
   simp only[aN,aj] at hf
   exact⟨k+1,⟨rfl,rfl⟩,rfl,⟨by omega,hf⟩,by omega⟩):p:=h
theorem AKd(h:p:=by
 have e7:((p:Int)+1+(c:Int)==0)=false:=by simp; omega
 have e8:((p+1+c:Nat):Int)=(p:Int)+1+(c:Int):=by omega
 rcases hv:BQ ⟨2,0,strOfNums ((b.drop (p+1)).take c)⟩ with _ | _
 ·simp only[go_sem,hv,eY,QK,aB,aX]
 ·simp only[go_sem,hv,e7,eY,e8,wrap_i64 (n:=(p:Int)+1) (by omega) (by omega),wrap_i64 (n:=(p:Int)+1+(c:Int)) (by omega) (by omega)]):p:=h
theorem AKf(h:p:=by
 induction i using Nat.strongRecOn with
 | _ i ih =>
  intro hi
  cases hc:listed.getD i false with
  | true=>rfl
  | false =>
   exfalso
   have:i∈Region.ready .any ops listed:=by
    rw[mem_ready]
    refine⟨?_,ops[i],by simp[hi],fun e he hb=>?_⟩
    ·grind
    ·have:=(GM hok (i:=i) (o:=ops[i]) (by simp[hi])).1 e he hb
     grind
   grind):p:=h
theorem AKg(h:p:=by
 obtain⟨q1,q2,cs,g1,g2,g3⟩:=h.obs l ob b (hg l ob hl) hlive hβ
 refine⟨q1,q2,cs,g1,g2,fun k c hk=>?_⟩
 obtain⟨u,hu,hr⟩:=g3 k c hk
 refine⟨u,hu,tK ?_ hr⟩
 have hno:=aJ.1 t2 ob (bC hl)
 obtain⟨x,hx,hcx⟩:=aa2.1 (bC hk)
 simp only[Aw,r_] at hno
 rcases hno with hno | hno
 ·have:=aJ.1 (aJ.1 hno x hx) c hcx
  cases c<;>simp_all [AB,I7]
 grind):p:=h
theorem AKh(h:p:=by
 simp only[go_sem,Ce,setT,codeW,endW,EM,Dn,Di,A_,DV,EJ,DWorld.o_eq,bf,htm,hmE]
 simp[AB,BJ,D6,Ed,Ag,Be,Cj,BP,hm,hmE]):p:=h
theorem AKi(h:p:=by exact EndH.self (by simp only[go_sem]; simp[OwnL,AB])):p:=h
theorem AKw(h:p:=by exact⟨k+1,⟨rfl,rfl⟩,rfl,⟨by omega,hf⟩,by omega⟩):p:=h
theorem AK3(h:p:=by
 simp only[go_sem]
 refine ABG (fun h=>by simp only[go_sem,Ji h]) fun h=>?_
 have h1:=QS h
 simp only[go_sem,Jj h]):p:=h
theorem AK4(h:p:=by
 refine Head.trans (Head.close 1 0 [] (row':=[.v (.int .i64 0),.ow 199 2 []]) rfl rfl rfl (by decide) ?_) ?_
 ·simp only[go_sem]
  simp[AB]
 simp only[AQ,Ap,go_sem]
 refine Head.trans (Head.openR 1 0 2 0 _) ?_
 simp only[openR,B_,go_sem]
 exact ABJ [(0,true),(1,true),(2,true)] ⟨rfl,rfl,rfl,rfl,rfl,trivial⟩ rfl):p:=h
theorem AK5(h:p:=by
 refine AAM _ hg2 fun _=>?_
 have hl2:l.length+1≤2147483648:=by omega
 simp only[go_sem,hl2,wrap_i64 (n:=(i:Int)+1) (by omega) (by omega)]
 exact⟨(i+1,q2,l ++ [n]),ABJ [(3,false)] ⟨rfl,rfl,MV l n,trivial⟩ (by rw[GZ]; rfl),⟨hi',by simp; omega,by rw[← hb2,aaT]; congr 1; funext y; simp⟩,by simp only; omega⟩):p:=h
theorem AK7(h:p:=by
 simp only[go_sem,F,ai,ah,hs1]
 refine EndH.self ?_
 simp only[go_sem,Ce,setT,codeW,endW,EM,Dn,Di,A_,DV,EJ,DWorld.o_eq,bf,htm]
 simp[AB,Ed,Ag,Be,Cj,BP,hm]):p:=h
theorem AK8(h:p:=by
 have hj':j=W:=by simp at h2; omega
 subst hj'
 have hol2:i+1≤2147483648:=by omega
 simp only[go_sem,ae,AAa,bi,bJ,hol2,aH,wrap_i64 (n:=(i:Int)+1) (by omega) (by omega)]
 exact⟨i+1,ABJ [(2,false)] ⟨rfl,rfl,by rw[← hsucc]; exact AY (fun _=>rfl),trivial⟩ (by rw[← hsucc]; rfl),hi',by omega⟩):p:=h
theorem AK9(h:p:=by
 refine Head.abs 1 0 [4] ⟨m,l.map DBuf.o,_,DBuf.o (gone (IntKind.i64.wrap (l[m].gen+1))),_,⟨pX 0,rfl,rfl,by simpa using hm,rfl⟩,
 by simp[gone,DBuf.o_eq,DChunk.o_eq,OwnL,AB],⟨rfl, ?tr⟩, ?eq⟩
 case tr=>unfold BV; rw[← Qh]; exact allA (AU (BK _))
 case eq=>unfold BV; rw[← Qh]; rfl):p:=h
theorem ALB(h:p:=by
 simp only[go_sem,DTask.o_eq,F,Ed,Ag,Be,Cj,BP]
 simp[AB,BJ,D6]):p:=h
theorem ALC(h:p:=by simp only[go_sem,Dv]):p:=h
theorem ALD(h:p:=by
 subst hj'
 simp only[go_sem,Fe,wrap_i64 (n:=(i:Int)+1) (by omega) (by omega)]
 exact⟨(i+1,out++List.replicate j r[i].1),ABJ [(0,false)] ⟨rfl,rfl,Pq _,trivial⟩ rfl,⟨hi',by simp; omega,by
  rw[← hp,aaT,bu,bU]; congr 1; funext y; simp⟩,by simp only; omega⟩):p:=h
theorem ALE(h:p:=by
 cases c with
 | ow ty sz xs=>exact hc
 | v y=>exact hkr (.v y) u hc
 | sl y=>exact hkr (.sl y) u hc
 | ref y=>exact hkr (.ref y) u hc):p:=h
theorem ALF(h:p:=by
 intro v w' hr
 simp[execOp,ho,resolve,hcl,ha1,ha2,invoke,builtin,hr]):p:=h
theorem ALG(h:p:=by
 have key:∀ m,m≤ops.size→Bv ops R env (fun _=>true) m=Bv ops R env (fun i=>listed.getD i false) m:=by
  intro m
  induction m with
  | zero=>intro _; rfl
  | succ m ih=>intro hm; simp only[Bv,ih (by omega),hl m (by omega)]
 rw[key ops.size (aT _)]):p:=h
theorem ALH(h:p:=by
 rw[ea] at hcall
 refine hcall.mono fun e w' hb=>?_
 obtain⟨us,bs,St2,hb⟩:=hb
 obtain⟨β',k1,k2⟩:=Qw q1 hb
 have hwf:YS rs:=by
  obtain⟨Φs,hr,_⟩:=hb.res
  exact hr.wf
 have e1:=hb.ret
 subst e1
 exact⟨_,hK hwf,Xt _ _ _,St2,β',k1.put o.dst (Ky k2)⟩):p:=h
theorem ALI(h:p:=by
 have h7':c≥128:=by simp at h7; omega
 rw[bF h7'] at hg
 simp only[go_sem,h7,hwi]
 exact⟨(i+1,x+c%128*128 ^ i),⟨rfl,rfl⟩,rfl,⟨by simp only; omega,by simp only; omega,hP2,by rw[show 5-(i+1)=4-i by omega]; exact hg⟩,by simp only; omega⟩):p:=h
theorem ALJ(h:p:=by
 have hk':k<xs.length:=by simpa using h
 simp only[go_sem]
 refine AAm ?_
 simp only[go_sem,ae,az,aC,AA _ hk',hk',wrap_i64 (n:=(k:Int)+1) (by omega) (by omega)]
 exact⟨k+1,⟨rfl,rfl⟩,rfl,by omega,by first | omega | (simp only; omega)⟩):p:=h
theorem ALK(h:p:=by
 rcases h2:Ad l[k] 0 e with _ | _
 ·simp only[go_sem,h2,OY,BU (p:=RI e) hk' (by simp[RI,h1,h2])]
 ·simp only[go_sem,h2,wrap_i64 (n:=(k:Int)+1) (by omega) (by omega)]
  exact⟨k+1,⟨rfl,rfl⟩,rfl,BH hk' hk (by simp[RI,h1,h2]),by omega⟩):p:=h
theorem ALM(h:p:=by
 have hn':n=8*b.length:=by simp at h2; omega
 subst hn'
 have:unpack b W i=some (pY b W i):=by
  unfold unpack
  rw[bF ⟨⟨hw0,hk0,hlen⟩,fun n hn h=>hz n (by omega) (abD.1 hn)⟩]
  simp only[bW,pY]
 rw[this]
 simp only[go_sem,Y0,AX]
 grind):p:=h
theorem ALN(h:p:=by
 simp only[Op.operands,Call.operands,aaL,jU,ay] at hc
 exact hc.2):p:=h
theorem ALO(h:p:=by
 rcases h2:ND d[i] v with _ | _
 ·simp only[h2,aB,aX] at hp
  simp only[go_sem,h2,wrap_i64 (n:=(i:Int)+1) (by omega) (by omega)]
  exact⟨i+1,⟨rfl,rfl⟩,rfl,⟨hi',hp⟩,by omega⟩
 ·simp only[h2,bf] at hp
  rw[← hp]
  simp only[go_sem,h2]):p:=h
theorem ALP(h:p:=by
 rw[h3] at hn
 simp only[go_sem,AA _ hi',hi',hk1,h3]
 try refine AAm ?_
 try simp only[go_sem,AA _ hi',hi',hk1,h3]
 simp only[go_sem,wrap_i64 (n:=(i3:Int)+1) (by omega) (by omega)]
 exact⟨i3+1,⟨rfl,rfl⟩,by rw[hn]; rfl,hi',by omega⟩):p:=h
theorem ALQ(h:p:=by
 have hs:(c.l.map DSlot.o).set i (DSlot.o (Tq s c.l[i]))=(FU c i s).l.map DSlot.o:=by rw[FU,Df _ hi]; exact Qh.symm
 simp only[DSlot.o_eq,Tq,go_sem] at hs
 simp only[go_sem,ae,AA _ hi,hi,DSlot.o_eq,hs,ED]
 try simp[OwnL,AB,FU]):p:=h
theorem ALR(h:p:=by
 simp only[go_sem,h1,h2,wrap_i64 (n:=(i:Int)+1) (by omega) (by omega)]
 exact⟨i+1,⟨rfl,rfl⟩,rfl,⟨hi',fun m h3 h4=>by
  by_cases e:m=i
  ·subst e; simp[Ad] at h1; simp at h2; exact⟨h1,h2⟩
  ·exact hb m h3 (by omega)⟩,by omega⟩):p:=h
theorem ALS(h:p:=by
 rw[← hkl]
 exact NL (b:=some b0) rfl (by simp) fun _=>⟨cap,C',by simp,by grind,c2,by grind [setRow_heap],by grind⟩):p:=h
theorem ALU(h:p:=by
 rw[h3] at hn
 simp only[go_sem,AA _ hi',hi',h3]
 try refine AAm ?_
 try simp only[go_sem,AA _ hi',hi',h3]
 simp only[go_sem,wrap_i64 (n:=(i2:Int)+1) (by omega) (by omega)]
 exact⟨i2+1,⟨rfl,rfl⟩,by rw[hn]; rfl,hi',by omega⟩):p:=h
theorem ALV(h:p:=by
 simp only[go_sem,F,ai,ah,dm0,dm1,ae]
 repeat (refine ABH ?_; simp only[go_sem,F,ai,ah,dm0,dm1,ae])
 exact⟨rfl,rfl⟩):p:=h
theorem ALW(h:p:=by
 obtain⟨v1,v2⟩:=nY (P:=P) (Q:=Q) hok d1 p1 g1 hne L (Array.replicate l.toArray.size false) (Array.replicate (IM σ1 e1 e2 l).toArray.size false) (by simp) (by rw[dA p1]; simp) (fun i hi=>by grind) hv (.inr hb)
 grind):p:=h
theorem ALX(h:p:=by
 simp only[hkl,bu] at g2
 have earr:(cs.toList.take (ob.xs.length*n)++news).toArray=(cs.toList.take (ob.xs.length*n)).toArray++news.toArray:=by simp
 rw[earr] at g1 g2
 exact⟨_,_,_,St,β',hexec _ _ hr,.inl rfl,g1,g2⟩):p:=h
theorem ALY(h:p:=by exact⟨i2+1,⟨rfl,rfl⟩,by rw[hn]; rfl,hi',by omega⟩):p:=h
theorem ALZ(h:p:=by exact⟨i3+1,⟨rfl,rfl⟩,by rw[hn]; rfl,hi',by omega⟩):p:=h
theorem ALa(h:p:=by
 unfold BV
 have:=CV (f:=DRow.o) ((ids.take i).map fun n=>(⟨n,[]⟩:DRow)) ⟨ids[i],[]⟩
 rw[show ((ids.take i).map fun n=>(⟨n,[]⟩:DRow)).length=i by simp; omega] at this
 rw[this,Kt (fun n=>(⟨n,[]⟩:DRow)) hi']
 rfl):p:=h
theorem ALc(h:p:=by simp only[go_sem,az,aC]):p:=h
theorem ALd(h:p:=by
 by_cases hids:ids = []
 ·have hx:=hemp hids
  simp only[bK] at hx
  obtain⟨_,hp0,hc0⟩:=hx
  rw[hc0,hp0]; exact bF hids
 ·have hne:=hne hids
  rw[hk',aY,Gx] at hne
  simp only[bY,bQ] at hne
  rw[hne]; exact bz hids):p:=h
theorem ALe(h:p:=by
 have g2:Dc k t+2≤Aj k t:=Ep LQ _ _
 have g3:=KY Xz t.got (Aj k t+6) (Aj k t'-Aj k t)
 show D5 Gp (Aj k t'+6) t'.got≤D5 Gp (Aj k t+6) t.got+5
 rw[hg,show Aj k t'+6=Aj k t+6+(Aj k t'-Aj k t) by omega,g3]
 omega):p:=h
theorem ALf(h:p:=by
 refine AEL (Head.same _) ?_
 simp only[go_sem,BK]
 try simp):p:=h
theorem ALg(h:p:=by
 have hr:Bz cs q=((q.col==0)&&((q.out.length:Int)==0)):=by simp[Bz,h1,k1,k2]
 rw[hr]
 rcases hA:(q.col==0) with _ | _
 ·simp only[go_sem,ae,h1,c1,k1,k2,hA,ag]
 ·simp only[go_sem,ae,h1,c1,k1,k2,hA,aj]):p:=h
theorem ALh(h:p:=by exact RdCs.glue (o:=0) (n:=1) r0 rfl (RdCs.glue (o:=1) (n:=1) r1 rfl (RdCs.last (o:=2) (n:=1) r2 hl))):p:=h
theorem ALi(h:p:=by
 cases x with
 | v y=>simp only[RdC,RdD] at h; grind [mX]
 | sl xs=>simp only[RdC,RdD] at h; obtain⟨a,cap,rfl,_⟩:=h; rfl
 | ref l=>simp only[RdC,BM] at h; grind
 | ow ty sz xs=>simp[RdC,RdD] at h):p:=h
theorem ALj(h:p:=by
 intro i hi
 have h0:listed.toList.countP (fun b=>!b)=0:=by omega
 rw[List.countP_eq_zero] at h0
 have hi':i<listed.size:=by omega
 have:=h0 listed[i] (by simp)
 simp[hi'] at this ⊢
 exact this):p:=h
theorem ALk(h:p:=by exact RdCs.glue (o:=0) (n:=1) r0 rfl (RdCs.last (o:=1) (n:=1) r1 hl)):p:=h
theorem ALl(h:p:=by
 have hi':i=l.length:=by simp at h; omega
 subst hi'
 have:typeOf l=l[0].ty:=TB hlen.1 hlen.2 fun v hv=>by
  obtain⟨m,hm,rfl⟩:=aaC hv
  exact hb m hm hm
 rw[this]
 simp only[go_sem,ae,AA _ h0]):p:=h
theorem ALm(h:p:=by
 have:typeOf l=0:=by
  cases l with
  | nil=>rfl
  | cons v r =>
   show (if(v::r).length≤64∧_ then v.ty else 0)=0
   rw[bz]
   rintro⟨q,_⟩
   simp[Ad] at h1 q; omega
 simp only[go_sem,h1,this]):p:=h
theorem ALn(h:p:=by
 refine AEO (fun e1=>?_) (fun e1=>?_)
 ·simp only[go_sem,e1]
  refine AEO (fun e2=>?_) (fun e2=>?_)<;>simp only[go_sem,e1,e2]<;>rw[← hfin',e1,e2]<;>simp
 ·simp only[go_sem,e1]
  grind):p:=h
theorem ALo(h:p:=by
 rw[aaM] at hk
 rcases bV k (ob.xs.length*n) with h' | h'
 ·grind
 ·rw[bn (by omega),hxfl] at hk
  rw[bn (by omega),holdl]
  obtain⟨u,u1,u2⟩:=n3 _ c hk
  exact⟨u,u1,(hkr _ _ u2).toB⟩):p:=h
theorem ALp(h:p:=by rw[Bc (X:=fun j=>if i=j then true else listed.getD j false) ops.size (fun k _ hk=>(hj ⟨k,hk⟩).elim),Bc (X:=fun j=>listed.getD j false) ops.size (fun k _ hk=>(hj ⟨k,hk⟩).elim)]):p:=h
theorem ALq(h:p:=by
 rw[J4,h3,h4,g4,h5,h6] at hb
 simp only[aN,aj,aP,aS,ag,aK] at hb
 simp only[go_sem,h6,wrap_i64 (n:=(k:Int)+1) (by omega) (by omega)]
 exact⟨k+1,⟨rfl,rfl⟩,rfl,⟨hk',hb⟩,by omega⟩):p:=h
theorem ALr(h:p:=by
 obtain⟨a1,a2,a3,a4,a5,a6,a7,a8⟩:=h
 exact⟨a1,a2,a3,a4,a5,a6,by show Js LeT (w1.tasks.set n _) _; rw[e]; exact OA LeT.rfl' hn hL,SY LeD.rfl' a8 (fun _ _ _=>LeD.tr) (uK _ _)⟩):p:=h
theorem ALs(h:p:=by
 simp only[go_sem,BK]
 try simp):p:=h
theorem ALt(h:p:=by
 exact⟨(i+1,out ++ [d[p]]),ABJ [(2,false)] ⟨rfl,rfl,MV _ _,trivial⟩ (by rw[GZ]; rfl),⟨hi',by simp; omega,by
  rw[← hp,aaT]; congr 1; funext y; simp⟩,by simp only; omega⟩):p:=h
theorem ALu(h:p:=by simp only[go_sem,h1,ag]):p:=h
theorem ALv(h:p:=by cases o.dst<;>simp[MS.put]; split<;>rfl):p:=h
theorem ALw(h:p:=by
 obtain⟨t,hh,hq⟩:=hq
 obtain⟨St1,β1,hc1⟩:=hs'
 obtain⟨St2,β2,hc2⟩:=hh.2 _ _ _ _ _ _ hc1
 obtain⟨us,bs,St',p1,p2,p3⟩:=Yo ⟨St2,β2,hc2⟩ hq
 exact⟨p2,_,p1,us,bs,St',p3⟩):p:=h
theorem ALx(h:p:=by repeat (first | exact Or.inl rfl | refine Or.inr ⟨rfl, ?_⟩)):p:=h
theorem ALy(h:p:=by
 refine AAM _ (Dz ⟨2,0,ByteArray.empty⟩) fun _=>?_
 have e7:((0:Int)==0)=true:=rfl
 rcases hv:BQ ⟨2,0,ByteArray.empty⟩ with _ | _<;>simp only[go_sem,hv,e7,eY,QK]):p:=h
theorem ALz(h:p:=by
 simp only[go_sem,q1,q2,q3,q4,wrap_i64 (n:=(j:Int)+1) (by omega) (by omega)]
 exact⟨j+1,⟨rfl,rfl⟩,rfl,BH hj' hj (by simp only[deed1,q1,q2,q3,q4]; rfl),by omega⟩):p:=h
theorem AL0(h:p:=by exact⟨_,_,_,St,β',hexec _ _ hr,.inl rfl,g1,g2⟩):p:=h
theorem AL1(h:p:=by
 have hxb:x≠b0:=fun e2=>hx.2.2.2.2 l ob hl hlive (by rw[hβ,e2])
 grind [setRow_other]):p:=h
theorem AL2(h:p:=by cases k<;>simp[IntKind.min,IntKind.max,IntKind.bits,IntKind.signed] at * <;> omega):p:=h
theorem AL3(h:p:=by
 obtain⟨a0,h1,e0⟩:=AZ h0
 obtain⟨g0,b0⟩:=CB a0 (by omega)
 exact⟨g0,by rw[e0]; omega⟩):p:=h
theorem AL4(h:p:=by
 refine⟨by simp[q1],fun k e hk=>?_⟩
 cases k with
 | zero=>simp only[aV,ak] at hk; subst hk; exact⟨c,rfl,h.1⟩
 | succ k=>simpa using q2 k e (by simpa using hk)):p:=h
theorem AL5(h:p:=by
 simp only[go_sem,q2,JB,aC,az,Af,Int.reduceAdd,wz (n:=k1+1),wz (n:=(i:Int)+1)]
 refine⟨(i+1,k1+1),⟨rfl,rfl⟩,rfl,hP.step hi Jf, ?mu⟩
 case mu=>simp only; omega):p:=h
theorem AL6(h:p:=by
 rcases h1:n == -1 with _ | _<;>rcases h2:decide (s≥1) with _ | _<;>rw[h2] at e <;>
  simp only[go_sem,bne,h1,e,Zh,NK,h2,aP,aS,aj,ag,Bool.and_self,bf,aX,aB]):p:=h
theorem AL7(h:p:=by
 cases hq:s.st[l']? with
 | none=>grind
 | some o2 =>
  grind):p:=h
theorem AL8(h:p:=by
 have h6':¬ m+i<b.length:=by simp at h6; omega
 rw[mV (by omega)] at hg
 simp only[go_sem,ae,h5,h6,hw1,hw2]
 simp only at hg
 rw[← hg]
 simp only[go_sem,Ve]):p:=h
theorem AL9(h:p:=by
 have e1:decide ((m:Int)≥(w.deeds.length:Int))=true:=by simp; omega
 rw[mV hml]
 simp only[go_sem,hm,e1]
 try refine AAm ?_
 try simp only[go_sem,hm,e1]):p:=h
theorem AL_(h:p:=by
 refine⟨_,_,w,St,_,hexec _ _ hrun,.inl rfl,a1, ?_⟩
 rw[← hkl]
 exact NL (b:=some b0) rfl (by simp) fun _=>⟨cap,cs,by simp,by grind,c2,by grind,hcap⟩):p:=h
theorem AMA(h:p:=by
 have hk':k=l.length:=by simp at h; omega
 subst hk'
 rw[aY] at hf
 have hn:KC l n=none:=by rw[← hf]; rfl
 simp only[go_sem,hn,Rq,XT,abx]
 trace_state):p:=h
theorem AMB(h:p:=by
 rcases hsplit l o2 hl with ⟨h1,h2⟩ | ⟨rfl,rfl⟩
 ·have hne:¬ l=s.st.length:=by omega
  simp only[hne,aX] at hβ
  exact h.nil l o2 h2 hlive hβ
 grind):p:=h
theorem AMC(h:p:=by
 have g6:(t.l[0].kind != 1)=true:=by simp[bne,h6]
 simp only[go_sem,g5,g6,AA _ h0,h0,ag]
 try refine AAm ?_
 try simp only[go_sem,g5,g6,AA _ h0,h0]):p:=h
theorem AMD(h:p:=by
 have e1:¬ l1=s.st.length:=by omega
 have e2:¬ l2=s.st.length:=by omega
 simp only[e1,e2,aX] at h5 h6
 exact h.inj l1 l2 o1 o2 b p2 q2 h3 h4 h5 h6):p:=h
theorem AME(h:p:=by
 simp only[go_sem,h1,g1,h2,wrap_i64 (n:=(k:Int)+1) (by omega) (by omega)]
 exact⟨k+1,⟨rfl,rfl⟩,rfl,OG hk' hk (by rw[hp,h1,g1,h2]; rfl),by omega⟩):p:=h
theorem AMF(h:p:=by
 have:unpack b w k=none:=by unfold unpack; rw[bz]; rintro⟨⟨q1,q2,_⟩,_⟩; simp[Ad] at h2; omega
 rw[this]
 simp only[go_sem,h1,h2,Y0]
 try simp[BJ]):p:=h
theorem AMG(h:p:=by exact⟨k+1,⟨rfl,rfl⟩,rfl,⟨hk',hb⟩,by omega⟩):p:=h
theorem AMH(h:p:=by
 simp only[go_sem,AA _ hk',hk',h1,wrap_i64 (n:=(k:Int)+1) (by omega) (by omega)]
 exact⟨k+1,⟨rfl,rfl⟩,rfl,BH hk' hk (by simp[RI,h1]),by omega⟩):p:=h
theorem AMI(h:p:=by
 have hl3:(FO (Cm l)).length+1+(En (offsets l) (DK (offsets l))).length≤2147483648:=by omega
 simp only[go_sem,hl3,F_]
 try simp[OwnL,AB,byteC]):p:=h
theorem AMJ(h:p:=by
 have:=k2 (.c c) u (by simpa only[AVR] using hc)
 simpa only[AVR] using this):p:=h
theorem AMK(h:p:=by
 have:unpack b w k=none:=by unfold unpack; rw[bz]; rintro⟨⟨q1,q2,_⟩,_⟩; simp[Ad] at h1; omega
 rw[this]
 simp only[go_sem,h1,Y0]
 try simp[BJ]):p:=h
theorem AML(h:p:=by
 have h:=KY (c:=EF) (fun k a x=>by unfold EF; omega) x.l (k+1) a
 show D5 EF (k+a+1) x.l=D5 EF (k+1) x.l+a
 rw[← h,show k+a+1=k+1+a by omega]):p:=h
theorem AMM(h:p:=by
 have:unpack b w k=none:=by unfold unpack; rw[bz]; rintro⟨⟨_,_,q⟩,_⟩; simp[q] at h3
 rw[this]
 simp only[go_sem,h1,h2,h3,ae,Y0]
 try simp[BJ]):p:=h
theorem AMN(h:p:=by exact EndH.self (by simp only[go_sem,BK]; try simp)):p:=h
theorem AMO(h:p:=by
 have hk':k=l.length:=by simp at h; omega
 subst hk'
 rw[aY] at hb
 have:out=l:=by simpa using hb
 subst this
 simp only[go_sem,BF]
 try simp):p:=h
theorem AMP(h:p:=by
 simp only[go_sem,h14,wrap_i64 (n:=(k:Int)+1) (by omega) (by omega)]
 exact⟨k+1,⟨rfl,rfl⟩,rfl,OG hk' hk (by rw[e1]; exact h14),by omega⟩):p:=h
theorem AMQ(h:p:=by
 rw[aaB] at hj
 split at hj
 ·rw[addr_add,World.cell?,c3]
  grind
 ·cases hj):p:=h
theorem AMR(h:p:=by
 rw[P6 hi' (fun q=>by have:=q.2; simp at h3; omega)]
 simp only[go_sem,AA _ hi',h2,h3,wrap_i64 (n:=base+l[i]) (by omega) (by omega),Dv]):p:=h
theorem AMS(h:p:=by
 intro l
 induction l with
 | nil=>intro _; rfl
 | cons p l ih=>intro hl; simp only[Ib,hl p (by simp),ih (fun q hq=>hl q (by simp[hq]))]):p:=h
theorem AMT(h:p:=by
 induction m with
 | zero=>intro _; rfl
 | succ m ih =>
  intro hm
  have hmk:m<k:=by omega
  simp only[Bv,ih (by omega),hmk,decide_true]):p:=h
theorem AMU(h:p:=by rw[OW,dV .i64 hx0 (by rw[← OW]; exact hx1) (by omega) (by rw[← OW]; simp[IntKind.bits]; omega),← OW,wrap_i64 (by omega) (by omega)]):p:=h
theorem AMV(h:p:=by
 obtain⟨o3,r1,r2,r3⟩:=H5 h2
 by_cases e2:l=l'
 ·grind
 ·have:=r3 e2
  subst this
  exact e2 (h.inj l l' ob o2 b0 hl r1 hlive hl2 hβ hb2)):p:=h
theorem AMW(h:p:=by
 have h1:SizeOf.sizeOf x<SizeOf.sizeOf d.l:=zg hx
 have h2:SizeOf.sizeOf d.l<SizeOf.sizeOf d:=by cases d; simp[DPred.l]; omega
 omega):p:=h
theorem AMX(h:p:=by
 simp only[go_sem,wrap_i64 (n:=(i:Int)+1) (by omega) (by omega)]
 exact⟨i+1,ABJ [(2,false)] ⟨rfl,rfl,FI _,trivial⟩ rfl,hi',by omega⟩):p:=h
theorem AMY(h:p:=by
 have h1:SizeOf.sizeOf x<SizeOf.sizeOf p.l:=zg hx
 have h2:SizeOf.sizeOf p.l<SizeOf.sizeOf p:=by cases p; simp[DPred.l]; omega
 omega):p:=h
theorem AMZ(h:p:=by
 obtain⟨a1,a2,a3,a4,a5,a6,a7,a8⟩:=h
 exact⟨a1,a2,a3,a4,a5,a6,by show Js LeT (w1.tasks.set n t) _; rw[e]; exact OA LeT.rfl' hn hL,a8⟩):p:=h
theorem AMa(h:p:=by
 refine AAM _ (AO q.col 0 _) fun _=>?_
 rcases c1:Ad q.col 0 ((cs.length:Int)-1) with _ | _
 all_goals simp only[go_sem,ae,c1,ag,aj]):p:=h
theorem AMb(h:p:=by
 simp only[go_sem,AA _ hi',h2,h3,wrap_i64 (n:=(i:Int)+1) (by omega) (by omega)]
 exact⟨i+1,⟨rfl,rfl⟩,by rw[e]; rfl,hi',by omega⟩):p:=h
theorem AMc(h:p:=by
 simp only[go_sem,e3,e4,wrap_i64 (n:=(j:Int)+1) (by omega) (by omega)]
 exact⟨j+1,⟨rfl,all1 (AU (AX _))⟩,rfl,by omega,by omega⟩):p:=h
theorem AMd(h:p:=by
 have h0:0<l.length:=by omega
 obtain⟨_,x,hx,e2⟩:=XH (ax h0)
 have:=Y2 (q3 x hx).1 ((q3 x hx).2.trans h1')
 rw[EH,e2]; exact this):p:=h
theorem AMe(h:p:=by
 simp only[ak,bK] at hf
 obtain⟨rfl,rfl⟩:=hf
 exact⟨St,h,fun _ _ h=>h,fun _ _ h=>h,fun u hu=>by simp only[AVR] at hu; exact hu⟩):p:=h
theorem AMf(h:p:=by
 refine⟨k+1,⟨rfl,rfl⟩,rfl,⟨by omega,by omega,fun i hi hik=>?_⟩,by omega⟩
 by_cases e:i=k
 ·subst e; simp only[YN]; grind
 grind):p:=h
theorem AMg(h:p:=by
 have h1:=EN x.2
 have h2:=Vk (q3 _ hx'.1).1
 simp only[XJ,bu]; omega):p:=h
theorem AMh(h:p:=by
 simp only[go_sem,Ce,setT,codeW,endW,EM,Dn,Di,A_,DV,EJ,DWorld.o_eq,bf,htm,hq1,hl1]
 simp[AB,BJ,D6,Ed,Ag,Be,Cj,BP,hm,hq1,hl1]):p:=h
theorem AMi(h:p:=by
 unfold FQ
 rw[bz (by omega)]
 have q1:((m:Int)/8).toNat=m/8:=by omega
 have q2:((m:Int)%8).toNat=m%8:=by omega
 rw[q1,q2]
 rfl):p:=h
theorem AMj(h:p:=by
 rw[Dx (BK w.b)]
 exact ACz rfl rfl rfl (AU (AX _)) (AU (BO _)) (AU (BK _)) (AU (AX _)) (AU (DY _)) (AU (AX _)) (AU (Gw _))):p:=h
theorem AMk(h:p:=by simp only[go_sem,Ve]):p:=h
theorem AMl(h:p:=by
 simp only[go_sem,DTask.o_eq,F,Ed,Ag,Be,Cj,BP,hl1]
 simp[AB,BJ,D6]):p:=h
theorem AMm(h:p:=by
 unfold YY
 by_cases h2:x+c%128*128 ^ i>2000000000
 ·rw[bF h2,bz (by simp[Ad]; omega)]
 ·rw[bz h2,bF (by simp[Ad]; omega)]):p:=h
theorem AMn(h:p:=by
 intro l i off u hu
 have hl:=xZ hu
 have hne:¬ l=s.st.length:=by omega
 simp only[AVR,hold l hl,hne,aX] at hu ⊢
 exact hu):p:=h
theorem AMo(h:p:=by
 refine⟨β',h1,NL rfl h2 fun _=>⟨cap,_,rfl,hcap,hcm,Ew w _, ?_⟩⟩
 simp only[Array.size_append,aa8,hvl,hrest,← Zm]
 grind):p:=h
theorem AMp(h:p:=by
 simp only[go_sem,DTask.o_eq,DQuery.o_eq,DPred.o_eq,BG]
 simp[AB,Gh,G7,DPred.kind,DPred.col,DPred.op,DPred.v,DPred.l]):p:=h
theorem AMq(h:p:=by
 simp only[go_sem,h5,wrap_i64 (n:=(j:Int)+1) (by omega) (by omega)]
 exact⟨j+1,⟨rfl,rfl⟩,rfl,BH hj' hj h5,by omega⟩):p:=h
theorem AMr(h:p:=by
 intro l' u hu
 unfold BM at hu ⊢
 cases hq:(Ai s.st l)[l']? with
 | none=>grind
 | some o2 =>
  grind [setRow_other]):p:=h
theorem AMs(h:p:=by
 have he:=CO h x (by simpa [Op.operands] using hc)
 simp only[Io,ak] at hy; subst hy
 exact⟨_,by simp[execOp],he⟩):p:=h
theorem AMt(h:p:=by
 obtain⟨p1,q1,r1⟩:=key l o1 h1 h3
 obtain⟨p2,q2,r2⟩:=key l' o2 h2 h4
 exact h.inj l l' p1 p2 b q1 q2 r1 r2 h5 h6):p:=h
theorem AMu(h:p:=by exact⟨i+1,ABJ [(3,false)] ⟨rfl,rfl,by rw[← GY]; exact CX _,trivial⟩ (by rw[Kt _ hi',GY]; rfl),hi',by omega⟩):p:=h
theorem AMv(h:p:=by
 simp only[Result.andThen_ok,Sem.run_pure]
 congr 1
 match rv with
 | []=>rfl
 | [u]=>rfl
 | u::u2::us=>simp[Wi]):p:=h
theorem AMw(h:p:=by
 simp only[go_sem]
 refine AEO (fun h=>?_) (fun h=>?_)<;>simp only[go_sem,h]<;>simp at h<;>simp[Ad]<;>omega):p:=h
theorem AMx(h:p:=by simp only[go_sem,ae,h1,c1,k1,k2,k3,k4,k5]):p:=h
theorem AMy(h:p:=by
 apply abE
 ·simp
 ·intro i h1 h2
  simp at h1 h2 ⊢
  simp[h2]):p:=h
theorem AMz(h:p:=by
 cases hq:s.st[l]? with
 | none=>grind
 | some o2 =>
  grind):p:=h
theorem AM0(h:p:=by
 obtain⟨a0,h1,e0⟩:=AZ h0
 obtain⟨g0,b0⟩:=Dp d.l (fun x _=>D7 x) a0 (by omega)
 exact⟨g0,by rw[e0]; omega⟩):p:=h
theorem AM1(h:p:=by
 have hk':k<ys.flatten.length:=by rw[← n1]; exact(aF.1 hk).1
 obtain⟨u,u1,u2,u3⟩:=n2 k _ (au hk')
 grind):p:=h
theorem AM2(h:p:=by
 have:f=0∨f=1∨f=2∨f=3∨f=4:=by omega
 rcases this with rfl | rfl | rfl | rfl | rfl<;>simp at hx1<;>omega):p:=h
theorem AM3(h:p:=by
 have hi':i=d.length:=by simp at h; omega
 subst hi'
 rw[aY] at hp
 rw[← hp]
 simp only[go_sem,placeOf,wF]):p:=h
theorem AM4(h:p:=by exact⟨g _,g _,g _,g1,g _,g _,g _,g _,g _,g _,g _,g _,g2,g _,g3,g _,g _,g4,g _,g _,g _,g _,g _,g _,g5⟩):p:=h
theorem AM5(h:p:=by
 simp only[go_sem,h1,aP,e2 (e3.trans h1),BO]
 try simp only[go_sem,e3,h1,e4]
 try simp[OwnL,AB,e3,h1,e4]):p:=h
theorem AM6(h:p:=by
 apply abk
 intro j
 rw[List.getElem?_modify]
 split
 ·rename_i e; subst e
  rw[mV (by omega)]; rfl
 ·simp):p:=h
theorem AM7(h:p:=by
 simp only[bf,hj,ak] at hk
 subst hk
 exact⟨_,h,fun u hu=>hr _ u (h2 u hu),fun hc=>by simp[Gm] at hc⟩):p:=h
theorem AM8(h:p:=by rw[dV .i64 hbd.1 hbd.2 h01.1 (by simp[IntKind.bits]; omega),wrap_i64 (by omega) (by omega)]; rfl):p:=h
theorem AM9(h:p:=by
 have hne:¬ l=s.st.length:=by omega
 simp only[hne,aX] at hβ
 exact h.sep l o2 b o h2 hlive hβ hbo):p:=h
theorem AM_(h:p:=by exact setRow_other w b0 b2 C' fun e2=>h4 (h.inj l l2 ob o2 b0 hl h1 hlive h2 hβ (by rw[h3,e2]))):p:=h
theorem ANA(h:p:=by
 have hi':i=l.length:=by simp at h; omega
 subst hi'
 rw[aY] at hb
 simp only[go_sem]
 rw[← hb]; rfl):p:=h
theorem ANB(h:p:=by
 have hk':k=vs.length:=by simp at h; omega
 subst hk'
 simp only[go_sem]
 rw[← hf,aY,← he,aY]; rfl):p:=h
theorem ANC(h:p:=by
 obtain⟨j,hj,rfl⟩:=aaC hx
 exact(hp.lt j _ (au hj)).1):p:=h
theorem ANE(h:p:=by simp only[go_sem,h2,Dv]):p:=h
theorem ANF(h:p:=by
 rw[ai]
 refine aJ.2 fun y hy=>?_
 rcases aaO hy with hy | rfl
 ·exact aJ.1 (EY (BF _)) y hy
 ·rfl):p:=h
theorem ANG(h:p:=by
 have g0:((w.b.length:Int) != w.c0.bufs)=true:=by simp only[bne,h0,aS]
 simp only[go_sem,g0,ag]):p:=h
theorem ANH(h:p:=by
 split at h3
 ·rename_i y st' he
  refine⟨y,st', ?_,h3⟩
  simp only[FH]
  exact he
 ·exact h3.elim):p:=h
theorem ANI(h:p:=by
 have:¬ (0≤k∧k≤64):=by simp[Ad] at h2; omega
 simp only[go_sem,FW,h1,Ya,h2,this]
 try simp[BJ]):p:=h
theorem ANJ(h:p:=by exact⟨j+1+1,ABJ [(0,false)] ⟨rfl,rfl,AAd _ _ _ _,trivial⟩ (by rw[hs,oV]; rfl),hi',by omega⟩):p:=h
theorem ANK(h:p:=by
 rw[show ((ids.take i).map fun n=>(⟨n,[]⟩:DRow)).length=i by simp; omega] at this
 exact this):p:=h
theorem ANL(h:p:=by simp[execOp,ho,resolve,hcl,ha1,ha2,invoke,builtin,Builtin.len_,run_underlying hu,hv,goInt]):p:=h
theorem ANM(h:p:=by
 obtain⟨a1,h2,e1⟩:=AZ h1
 obtain⟨g1,b1⟩:=CB a1 (by omega)
 exact⟨⟨g0,g1⟩,by rw[e0,e1]; omega⟩):p:=h
theorem ANN(h:p:=by
 simp only[go_sem]
 refine AEO (fun h=>?_) (fun h=>?_)<;>simp only[go_sem,h]<;>simp_all [BQ]):p:=h
theorem ANO(h:p:=by
 have h1:(FO n).length≤5:=Yx 4 _
 have h2:=congrArg List.length hb
 simp only[bu] at h2
 omega):p:=h
theorem ANP(h:p:=by
 have h1':typeOf l=0:=by simpa using h1
 have e:BC l = -1:=bF h1'
 rw[e]
 simp only[go_sem,h1]):p:=h
theorem ANQ(h:p:=by
 have hk':k=w.d.l.length:=by have:=hk.1; simp at h; omega
 subst hk'
 simp only[go_sem,DN hk]):p:=h
theorem ANR(h:p:=by
 by_cases e:l=l'
 ·grind
 ·grind):p:=h
theorem ANT(h:p:=by
 have:=(aF.1 u1).1
 simpa only[bu,holdl] using this):p:=h
theorem ANU(h:p:=by
 have hk':k=l.length:=by have:=hk.1; simp at h; omega
 subst hk'
 simp only[go_sem,OY,DN hk]):p:=h
theorem ANV(h:p:=by
 simp only[go_sem,hl2,hl3,F_]
 try simp[OwnL,AB,byteC,hl2,hl3]
 exact CQ (BC l::EZ (BC l) l)):p:=h
theorem ANW(h:p:=by
 have:i=0∨i=1∨i=2∨i=3∨i=4:=by omega
 rcases this with rfl | rfl | rfl | rfl | rfl<;>decide):p:=h
theorem ANX(h:p:=by
 unfold Fz at hlen
 rw[bF ⟨hk0,hw0⟩] at hlen
 have:(K:Int)*W=((K*W:Nat):Int):=by simp
 omega):p:=h
theorem ANZ(h:p:=by exact RdD.mono (fun b o hbo=>.inl hbo) (fun _ _ _=>rfl) _ _ (U_ hpc (hc.toC (LV hpc)))):p:=h
theorem ANa(h:p:=by
 cases hq:st[l']? with
 | none=>grind
 | some ob =>
  simp only[hq] at h
  rw[Nw hq]
  grind):p:=h
theorem ANb(h:p:=by
 simp only[Qs] at hv
 obtain⟨st',St',r1,r2,r3,r4,r5⟩:=VR xs rs us' st St K h h2 hv
 grind):p:=h
theorem ANc(h:p:=by
 have g3:(p.op != q.op)=true:=by simp[bne,h3]
 simp only[go_sem,h1,g1,h2,g2,h3,g3,ag,aj]):p:=h
theorem ANd(h:p:=by simp only[go_sem,AA _ hk',hk',q1,q2,q3,SH (p:=Xk id) hk' hk (by rw[e0,q1,q2,q3]; rfl)]):p:=h
theorem ANe(h:p:=by
 have hk':k=l.length:=by have:=hk.1; simp at h; omega
 subst hk'
 simp only[go_sem,SI hk]):p:=h
theorem ANf(h:p:=by
 obtain⟨cl',rs,rv,p0,p1,p2,G',p3⟩:=tY hgu hs' hq
 exact⟨p2,_,p1,cl',rs,rv,G',p0,rfl,p3⟩):p:=h
theorem ANg(h:p:=by
 rcases bV l st.length with g | g
 ·exact decide_eq_true g
 ·rw[mV g] at h; exact h.elim):p:=h
theorem ANh(h:p:=by exact⟨(k+1,out),ABJ [(0,false)] ⟨rfl,rfl,AY DVal.pure,trivial⟩ rfl,⟨hk',hb⟩,by omega⟩):p:=h
theorem ANi(h:p:=by
 rw[← EK g2]
 rcases bV (i*ob.sz+j) ob.xs.flatten.length with h' | h'
 ·exact h'
 ·grind):p:=h
theorem ANj(h:p:=by simp[DataW.trod,ht] at h):p:=h
theorem ANk(h:p:=by
 have:¬ ((0≤k∧k≤64)∧0≤w∧w≤31):=by simp[Ad] at h; omega
 simp only[go_sem,h,Fz,bz this]):p:=h
theorem ANl(h:p:=by
 refine ACI _ (GG b hl2) ?_
 simp only[go_sem,w1,g1,g2,CQ,bT]
 try simp[OwnL,AB,byteC]):p:=h
theorem ANm(h:p:=by
 rcases h2:P_ cs b.c0 with _ | _
 ·simp only[go_sem,h2,ag,aj]
 simp only[go_sem,h2,aj]):p:=h
theorem ANn(h:p:=by
 have a1:(w.tasks.length:Int)=5:=iP.1 h11
 have a2:(w.p.length:Int)=5:=iP.1 h12
 omega):p:=h
theorem ANo(h:p:=by
 have g2:(p.col != q.col)=true:=by simp[bne,h2]
 simp only[go_sem,h1,g1,h2,g2,ag,aj]):p:=h
theorem ANp(h:p:=by
 rcases aa6 b.length with h | h
 ·rw[h] at h0; exact absurd h0 (by decide)
 ·exact h):p:=h
theorem ANq(h:p:=by rw[show min (7*i) 64=7*i from Zl (by omega),← OW,wrap_i64 (by omega) (by omega)]):p:=h
theorem ANr(h:p:=by
 simp only[ak] at hc
 subst hc
 exact⟨St,h,fun _ _ h=>h,fun _ _ h=>h,fun u hu=>hu⟩):p:=h
theorem ANs(h:p:=by
 rw[← hcs']
 simp only[aa8,bu,aaN,holdl]
 omega):p:=h
theorem ANt(h:p:=by rw[BV,hset]; exact hg _):p:=h
theorem ANu(h:p:=by
 have:c%128*128 ^ i≤127*128 ^ i:=aag (by omega) (aaU (by omega))
 rw[abe]; omega):p:=h
theorem ANv(h:p:=by
 refine⟨q1,q2,cs,g1,g2,fun k c hk=>?_⟩
 grind):p:=h
theorem ANw(h:p:=by
 have:b.length≤m/8:=by simp at h1; omega
 simp only[go_sem,h0,h1,e1,ae,mV this]):p:=h
theorem ANx(h:p:=by
 have:l[0]∈DL l:=(Ld l _).2 (ax (by omega))
 exact List.length_pos_of_mem this):p:=h
theorem ANy(h:p:=by
 cases hoj:ops[j]? with
 | none=>simp[hoj] at hj
 | some oj=>exact(bP.1 hoj).1):p:=h
theorem ANz(h:p:=by
 rw[show ((1:Nat):Int)=1 from rfl] at this
 rw[this,Nat.and_one_is_mod]
 omega):p:=h
theorem AN0(h:p:=by
 have g1:(p.kind != q.kind)=true:=by simp[bne,h1]
 simp only[go_sem,h1,g1,ag]):p:=h
theorem AN1(h:p:=by simp[QN,Lit.wf,IntKind.min,IntKind.max,IntKind.signed,IntKind.bits]; omega):p:=h
theorem AN2(h:p:=by
 have:(vi+1)*n≤(vi+(ps.length+1))*n:=aaE _ (by omega)
 rw[Zm] at this; omega):p:=h
theorem AN3(h:p:=by
 cases j with
 | zero=>simp only[aV,ak] at hj; subst hj; rfl
 | succ j=>grind):p:=h
theorem AN4(h:p:=by exact⟨j+1,⟨rfl,rfl⟩,rfl,BH hk' hj (by simp only[Gi,h5,h6]; rfl),by omega⟩):p:=h
theorem AN5(h:p:=by exact⟨k+1,⟨rfl,rfl⟩,rfl,BH hk' hk (by simp only[O_,h1,h2]; rfl),by omega⟩):p:=h
theorem AN6(h:p:=by
 cases hc:E e' with
 | false=>rfl
 | true=>exact absurd ⟨e',x1,x2,hc⟩ hex):p:=h
theorem AN7(h:p:=by
 have h1:=NV hw.1.2
 have h2:=NV hw.2.1.2
 simp only[go_sem,NU,AAc h1 h2]):p:=h
theorem AN8(h:p:=by
 intro hg i hi
 by_cases e:i=k
 ·subst e; exact hg
 ·exact hf i (by omega)):p:=h
theorem AN9(h:p:=by
 simp only[go_sem,h6,aP,ag]
 try refine AAm ?_
 try simp only[go_sem,h6]):p:=h
theorem AN_(h:p:=by
 simp[hi2] at hun ⊢
 exact hun):p:=h
theorem AOA(h:p:=by
 rcases(hEE e).1 he with h' | h'
 ·have:=hI.below e h'; omega
 ·omega):p:=h
theorem AOB(h:p:=by
 rw[XI (by rw[← EH,h1]; simp)]
 simp only[go_sem,h1,Dv]
 try simp[BJ]):p:=h
theorem AOC(h:p:=by
 cases hc:E e with
 | false=>rfl
 | true=>have:=hprev e hc x2; omega):p:=h
theorem AOD(h:p:=by
 intro l o2 hl
 rcases bV l s.st.length with h1 | h1
 ·grind
 ·grind):p:=h
theorem AOE(h:p:=by
 have:=(aF.1 hl).1
 simp at this
 omega):p:=h
theorem AOF(h:p:=by
 simp only[Lp] at hq
 split at hq
 ·exact⟨_,‹_›,hq⟩
 ·exact hq.elim):p:=h
theorem AOG(h:p:=by
 have:=Dh hbt (hcl e oe this hoe)
 rw[this] at hun'; cases hun'):p:=h
theorem AOH(h:p:=by
 obtain⟨e',x1,x2,x3⟩:=hex
 have:=ihd e' (by omega) x3 x2
 omega):p:=h
theorem AOI(h:p:=by
 rcases hbd with rfl | ⟨e,he,rfl⟩
 ·omega
 ·exact hE e he):p:=h
theorem AOJ(a:q)(b:r)(h:q→r→p:=by
 intro zz zy
 simp only[go_sem]
 exact ABG zz zy):p:=h a b
theorem AOK(a:q)(b:r)(h:q→r→p:=by
 intro zz zy
 simp only[go_sem,ae]
 exact ABG zz zy):p:=h a b
theorem AOL(a:q)(b:r)(h:q→r→p:=by
 intro zz zy
 simp only[go_sem,mkS,ae,hn]
 exact ABG zz zy):p:=h a b
theorem AOM(a:q)(b:r)(h:q→r→p:=by
 intro zz zy
 simp only[go_sem,iD,ae,JK]
 exact ABG zz zy):p:=h a b
theorem AON(a:q)(h:q→p:=by
 intro zz
 simp only[go_sem,F,ai,ah,hl1,G,ae,el0,aI,aW,gx0,gx1,gx2]
 simp only[go_sem,F,ai,ah,hl1,G,ae,el0,aI,aW,gx0,gx1,gx2,hB]
 exact zz):p:=h a
theorem AOO(a:q)(h:q→p:=by
 intro zz
 simp only[VX,q1,q2,ag,aj,aB,bf,aX]
 simp only[go_sem,F,ai,ah,q1,q2]
 exact zz):p:=h a
theorem AOP(a:q)(h:q→p:=by
 intro zz
 simp only[go_sem,ae,h5,h6,hw1,hw2,AA _ h6',hc]
 simp only[go_sem,ae,h5,h6,hw1,hw2,AA _ h6',hc,hwc,hwa,hwt,hw7,hws,hwo,hwp]
 exact zz):p:=h a
theorem AOQ(h:p:=by omega):p:=h
theorem AOR(h:p:=by simp):p:=h
theorem AOS(h:p:=by simp; omega):p:=h
theorem AOT(h:p:=by grind):p:=h
theorem AOU(h:p:=by decide):p:=h
theorem AOV(h:p:=by simp only; omega):p:=h
theorem AOW(h:p:=by rw[wrap_i64 (by omega) (by omega)]; omega):p:=h
theorem AOX(h:p:=by have:=hg 0; simp only[DC,ae] at this; exact this):p:=h
theorem AOY(h:p:=by simp[Op.operands]):p:=h
theorem AOZ(h:p:=by simp only[go_sem,Ji h]):p:=h
theorem AOa(h:p:=by simp[Ad] at h2; omega):p:=h
theorem AOb(h:p:=by simp only[Dt,e9]; rfl):p:=h
theorem AOc(h:p:=by simp at h; omega):p:=h
theorem AOd(h:p:=by simp only[bi,Gn,Es,bJ,aN]):p:=h
theorem AOe(h:p:=by simpa only[OwnL] using ho):p:=h
theorem AOf(h:p:=by simp only[Fg,FN,go_sem]):p:=h
theorem AOg(h:p:=by simp[Eu] at hl; omega):p:=h
theorem AOh(h:p:=by simp at h2; omega):p:=h
theorem AOi(h:p:=by simpa using hq):p:=h
theorem AOj(h:p:=by rw[dw (by omega),wrap_i64 (by omega) (by omega)]; omega):p:=h
theorem AOk(h:p:=by simp[Eu]):p:=h
theorem AOl(h:p:=by simpa [Op.operands] using hc):p:=h
theorem AOm(h:p:=by simpa using h3):p:=h
theorem AOn(h:p:=by simpa using h1):p:=h
theorem AOo(h:p:=by simp only[A7,go_sem]):p:=h
theorem AOp(h:p:=by have:=congrArg List.toArray hct; simpa using this):p:=h
theorem AOq(h:p:=by have:=congrArg List.toArray hca; simpa using this):p:=h
theorem AOr(h:p:=by simp only[DC,ae]; rfl):p:=h
theorem AOs(h:p:=by simp only[bi,Gn,Jh,bJ,aN]):p:=h
theorem AOt(h:p:=by rw[aat (by omega),wrap_i64 (by omega) (by omega)]; omega):p:=h
theorem AOu(h:p:=by first | omega | (simp only; omega)):p:=h
theorem AOv(h:p:=by rw[au hlt,hat] at hx; cases hx; exact AG2 rfl rfl rfl rfl rfl hm hxs):p:=h
theorem AOw(h:p:=by have:=hj.1; simp at h; omega):p:=h
theorem AOx(h:p:=by simp at h):p:=h
theorem AOy(h:p:=by simp only[EW,go_sem]):p:=h
theorem AOz(h:p:=by simpa using h):p:=h
theorem AO0(h:p:=by simp only[QN]; exact Go.wf_wrap _ _):p:=h
theorem AO1(h:p:=by simpa using hk):p:=h
theorem AO2(h:p:=by simpa using h4):p:=h
theorem AO3(h:p:=by rw[aaJ _ (by omega),wrap_u64 (by omega) (by omega)]; omega):p:=h
theorem AO4(h:p:=by simp[Ad] at h1; omega):p:=h
theorem AO5(h:p:=by simp only[maxLen]; omega):p:=h
theorem AO6(h:p:=by have:=hw.1.1; simpa [Go.maxLen] using this):p:=h
theorem AO7(h:p:=by simpa only[go_sem,hm] using LG w t d hf HT):p:=h
theorem AO8(h:p:=by simp only[bu]; omega):p:=h
theorem AO9(h:p:=by have f7:=hf; rw[Ar] at f7; exact f7.2.2.1):p:=h
theorem AO_(h:p:=by simp only[EW,JF,A7,Ia,DT,DI,Ah,FN,go_sem]):p:=h
theorem APA(h:p:=by simp at hk):p:=h
theorem APB(h:p:=by simpa using hb):p:=h
theorem APC(h:p:=by simp at h3; omega):p:=h
theorem APD(h:p:=by simpa using hk0):p:=h
theorem APE(h:p:=by rw[au hlt,hat] at hx; cases hx; exact NT rfl hm hxs):p:=h
theorem APF(h:p:=by simpa using hl):p:=h
theorem APG(h:p:=by simpa using h2):p:=h
theorem APH(h:p:=by rw[hbs]; have:=Ig (m:=by') hle hby (aT _); omega):p:=h
theorem API(h:p:=by apply abl; simp):p:=h
theorem APJ(h:p:=by simpa using hk1):p:=h
theorem APK(h:p:=by rw[hb]; exact Ih .i64 q):p:=h
theorem APL(h:p:=by intro r ob; unfold J7; split<;>rfl):p:=h
theorem APM(h:p:=by simpa only[JH] using h):p:=h
theorem APN(h:p:=by simp[Ad] at h4; omega):p:=h
theorem APO(h:p:=by simp only[bne,hkr,aP]):p:=h
theorem APP(h:p:=by rw[au hq] at hx; cases hx; exact UI rfl rfl):p:=h
theorem APQ(h:p:=by simp only[AVRs] at h ⊢; exact h):p:=h
theorem APR(h:p:=by rw[Bq hk]; exact hk'):p:=h
theorem APS(h:p:=by simp at h1; omega):p:=h
theorem APT(h:p:=by rw[spread,← hp]; rfl):p:=h
theorem APU(h:p:=by simp only[AVR] at h ⊢; exact h):p:=h
theorem APV(h:p:=by exact_mod_cast aay (by omega) (by omega)):p:=h
theorem APW(h:p:=by rw[hbs]; exact Ig (.inl hle) hby (aT _)):p:=h
theorem APX(h:p:=by cases d; simp[DPred.l]; omega):p:=h
theorem APY(h:p:=by cases x; simp[DPred.l]; omega):p:=h
theorem APZ(h:p:=by simpa using h0):p:=h
theorem APa(h:p:=by show Dw _ w.tasks[n]≤_; omega):p:=h
theorem APb(h:p:=by simpa using hzl0):p:=h
theorem APc(h:p:=by simp[hx]):p:=h
theorem APd(h:p:=by rw[hbt,aj] at hs1; exact hs1):p:=h
theorem APe(h:p:=by unfold J7; split<;>rfl):p:=h
theorem APf(h:p:=by cases d; simp at h):p:=h
theorem APg(h:p:=by rw[← hp,aaT]; congr 1; funext y; simp):p:=h
theorem APh(h:p:=by cases h):p:=h
theorem APi(h:p:=by simp[hy]):p:=h
theorem APj(h:p:=by simp_all):p:=h
theorem APk(h:p:=by rw[Bg] at hp; exact hp.2.1):p:=h
theorem APl(h:p:=by rw[Df _ hq]; exact Qh.symm):p:=h
theorem APm(h:p:=by simpa [inA] using hc):p:=h
theorem APn(h:p:=by rw[hsz,n1,hcap,← Zm]; exact hcapm):p:=h
theorem APo(h:p:=by simp only[AVR,tJ] at h ⊢; exact h):p:=h
theorem APp(h:p:=by simpa [I8] using hc):p:=h
theorem APq(h:p:=by simp[Ad] at h1 h2; omega):p:=h
theorem APr(h:p:=by simp at hl):p:=h
theorem APs(h:p:=by rw[offsets,bz (by omega)]; simp):p:=h
theorem APt(h:p:=by simpa using hk2):p:=h
theorem APu(h:p:=by rw[size_zeroCells,hzs]):p:=h
theorem APv(h:p:=by simp only[abj,di,aaH,bQ]; rfl):p:=h
theorem APw(h:p:=by have:=hx.2.2.1; omega):p:=h
theorem APx(h:p:=by simp[Ad] at h3; omega):p:=h
theorem APy(h:p:=by simp[OwnL] at ho):p:=h
theorem APz(h:p:=by rw[← hxfl]; exact hk):p:=h
theorem AP0(h:p:=by simp only[bne,h5,aP]):p:=h
theorem AP1(h:p:=by simp[hi]):p:=h
theorem AP2(h:p:=by simp[bne,h1]):p:=h
theorem AP3(h:p:=by simp[l0,hl1]):p:=h
end
theorem ae:type_of% @List.length_map:=@List.length_map
theorem ag:type_of% @Bool.false_and:=@Bool.false_and
theorem ah:type_of% @List.length_set:=@List.length_set
theorem ai:type_of% @List.set_set:=@List.set_set
theorem aj:type_of% @Bool.true_and:=@Bool.true_and
theorem ak:type_of% @Option.some.injEq:=@Option.some.injEq
theorem au:type_of% @List.getElem?_eq_getElem:=@List.getElem?_eq_getElem
theorem ax:type_of% @List.getElem_mem:=@List.getElem_mem
theorem ay:type_of% @Bool.and_eq_true:=@Bool.and_eq_true
theorem az:type_of% @bne_self_eq_false:=@bne_self_eq_false
theorem aA:type_of% @Nat.zero_le:=@Nat.zero_le
theorem aB:type_of% @Bool.false_eq_true:=@Bool.false_eq_true
theorem aC:type_of% @beq_self_eq_true:=@beq_self_eq_true
theorem aF:type_of% @List.getElem?_eq_some_iff:=@List.getElem?_eq_some_iff
theorem aG:type_of% @List.drop_eq_getElem_cons:=@List.drop_eq_getElem_cons
theorem aH:type_of% @Option.getD_some:=@Option.getD_some
theorem aI:type_of% @List.length_cons:=@List.length_cons
theorem aJ:type_of% @List.all_eq_true:=@List.all_eq_true
theorem aK:type_of% @Bool.and_false:=@Bool.and_false
theorem aN:type_of% @Bool.and_true:=@Bool.and_true
theorem aO:type_of% @List.nil_append:=@List.nil_append
theorem aP:type_of% @Bool.not_true:=@Bool.not_true
theorem aQ:type_of% @Int.eq_ofNat_of_zero_le:=@Int.eq_ofNat_of_zero_le
theorem aS:type_of% @Bool.not_false:=@Bool.not_false
theorem aT:type_of% @Nat.le_refl:=@Nat.le_refl
theorem aU:type_of% @List.cons_append:=@List.cons_append
theorem aV:type_of% @List.getElem?_cons_zero:=@List.getElem?_cons_zero
theorem aW:type_of% @List.length_nil:=@List.length_nil
theorem aX:type_of% @if_false:=@if_false
theorem aY:type_of% @List.drop_length:=@List.drop_length
theorem aZ:type_of% @decide_eq_true_eq:=@decide_eq_true_eq
theorem bf:type_of% @if_true:=@if_true
theorem bi:type_of% @List.all_cons:=@List.all_cons
theorem bn:type_of% @List.getElem?_append_right:=@List.getElem?_append_right
theorem bu:type_of% @List.length_append:=@List.length_append
theorem bz:type_of% @if_neg:=@if_neg
theorem bC:type_of% @List.mem_of_getElem?:=@List.mem_of_getElem?
theorem bD:type_of% @List.append_eq:=@List.append_eq
theorem bF:type_of% @if_pos:=@if_pos
theorem bG:type_of% @List.getElem?_set_self:=@List.getElem?_set_self
theorem bH:type_of% @List.getElem?_append_left:=@List.getElem?_append_left
theorem bI:type_of% @List.length_take:=@List.length_take
theorem bJ:type_of% @List.all_nil:=@List.all_nil
theorem bK:type_of% @Prod.mk.injEq:=@Prod.mk.injEq
theorem bM:type_of% @List.take_length:=@List.take_length
theorem bP:type_of% @Array.getElem?_eq_some_iff:=@Array.getElem?_eq_some_iff
theorem bQ:type_of% @List.append_nil:=@List.append_nil
theorem bT:type_of% @List.append_assoc:=@List.append_assoc
theorem bU:type_of% @List.length_replicate:=@List.length_replicate
theorem bV:type_of% @Nat.lt_or_ge:=@Nat.lt_or_ge
theorem bW:type_of% @Int.toNat_natCast:=@Int.toNat_natCast
theorem bY:type_of% @Option.map_some:=@Option.map_some
theorem bZ:type_of% @Bool.false_or:=@Bool.false_or
theorem cu:type_of% @List.map_take:=@List.map_take
theorem cO:type_of% @Nat.lt_of_lt_of_le:=@Nat.lt_of_lt_of_le
theorem cZ:type_of% @List.map_drop:=@List.map_drop
theorem df:type_of% @List.flatten_cons:=@List.flatten_cons
theorem dh:type_of% @Bool.true_or:=@Bool.true_or
theorem di:type_of% @List.map_nil:=@List.map_nil
theorem dw:type_of% @Int.tdiv_eq_ediv_of_nonneg:=@Int.tdiv_eq_ediv_of_nonneg
theorem mV:type_of% @List.getElem?_eq_none:=@List.getElem?_eq_none
theorem SK:type_of% @List.mem_cons:=@List.mem_cons
theorem Yi:type_of% @of_decide_eq_true:=@of_decide_eq_true
theorem WB:type_of% @Option.map_none:=@Option.map_none
theorem WU:type_of% @List.map_append:=@List.map_append
theorem aag:type_of% @Int.mul_le_mul_of_nonneg_right:=@Int.mul_le_mul_of_nonneg_right
theorem Qh:type_of% @List.map_set:=@List.map_set
theorem ru:type_of% @List.mem_of_mem_take:=@List.mem_of_mem_take
theorem Zl:type_of% @Nat.min_eq_left:=@Nat.min_eq_left
theorem mW:type_of% @List.getElem?_map:=@List.getElem?_map
theorem zf:type_of% @Option.map_eq_some_iff:=@Option.map_eq_some_iff
theorem aam:type_of% @List.eq_nil_of_length_eq_zero:=@List.eq_nil_of_length_eq_zero
theorem xR:type_of% @List.mem_of_mem_drop:=@List.mem_of_mem_drop
theorem zg:type_of% @List.sizeOf_lt_of_mem:=@List.sizeOf_lt_of_mem
theorem YR:type_of% @List.map_cons:=@List.map_cons
theorem jU:type_of% @List.all_append:=@List.all_append
theorem pX:type_of% @Nat.lt_succ_self:=@Nat.lt_succ_self
theorem aas:type_of% @List.take_succ_eq_append_getElem:=@List.take_succ_eq_append_getElem
theorem aat:type_of% @Int.tmod_eq_emod_of_nonneg:=@Int.tmod_eq_emod_of_nonneg
theorem wE:type_of% @List.getElem?_set:=@List.getElem?_set
theorem ry:type_of% @Option.some.inj:=@Option.some.inj
theorem wF:type_of% @Option.getD_none:=@Option.getD_none
theorem aax:type_of% @Array.getElem?_append_left:=@Array.getElem?_append_left
theorem aay:type_of% @Nat.pow_le_pow_right:=@Nat.pow_le_pow_right
theorem r_:type_of% @Bool.or_eq_true:=@Bool.or_eq_true
theorem aaA:type_of% @decide_eq_false_iff_not:=@decide_eq_false_iff_not
theorem aaB:type_of% @List.getElem?_take:=@List.getElem?_take
theorem aaC:type_of% @List.getElem_of_mem:=@List.getElem_of_mem
theorem aaD:type_of% @List.take_of_length_le:=@List.take_of_length_le
theorem aaE:type_of% @Nat.mul_le_mul_right:=@Nat.mul_le_mul_right
theorem Zm:type_of% @Nat.add_mul:=@Nat.add_mul
theorem jV:type_of% @Nat.sub_self:=@Nat.sub_self
theorem aaH:type_of% @List.flatten_nil:=@List.flatten_nil
theorem sD:type_of% @List.mem_map:=@List.mem_map
theorem aaJ:type_of% @Int.fdiv_eq_ediv_of_nonneg:=@Int.fdiv_eq_ediv_of_nonneg
theorem aaK:type_of% @List.map_congr_left:=@List.map_congr_left
theorem aaL:type_of% @Array.toList_append:=@Array.toList_append
theorem aaM:type_of% @List.flatten_append:=@List.flatten_append
theorem aaN:type_of% @List.length_drop:=@List.length_drop
theorem aaO:type_of% @List.mem_or_eq_of_mem_set:=@List.mem_or_eq_of_mem_set
theorem sF:type_of% @Nat.zero_add:=@Nat.zero_add
theorem iP:type_of% @beq_iff_eq:=@beq_iff_eq
theorem aaR:type_of% @Nat.zero_lt_one:=@Nat.zero_lt_one
theorem aaS:type_of% @Nat.le_of_ble_eq_true:=@Nat.le_of_ble_eq_true
theorem aaT:type_of% @Option.map_map:=@Option.map_map
theorem aaU:type_of% @Int.pow_nonneg:=@Int.pow_nonneg
theorem aaV:type_of% @Bool.not_eq_true':=@Bool.not_eq_true'
theorem aaW:type_of% @List.getElem?_cons_succ:=@List.getElem?_cons_succ
theorem sG:type_of% @Int.le_refl:=@Int.le_refl
theorem aaY:type_of% @List.getElem?_drop:=@List.getElem?_drop
theorem aaZ:type_of% @Int.mul_nonneg:=@Int.mul_nonneg
theorem aa0:type_of% @Nat.mul_le_mul:=@Nat.mul_le_mul
theorem aa1:type_of% @List.mem_append:=@List.mem_append
theorem aa2:type_of% @List.mem_flatten:=@List.mem_flatten
theorem aa3:type_of% @List.length_pos_iff:=@List.length_pos_iff
theorem aa4:type_of% @List.getElem?_toArray:=@List.getElem?_toArray
theorem aa5:type_of% @Array.getElem?_replicate:=@Array.getElem?_replicate
theorem aa6:type_of% @Nat.eq_zero_or_pos:=@Nat.eq_zero_or_pos
theorem aa7:type_of% @Array.getD_eq_getD_getElem?:=@Array.getD_eq_getD_getElem?
theorem aa8:type_of% @List.size_toArray:=@List.size_toArray
theorem aa9:type_of% @List.take_succ_cons:=@List.take_succ_cons
theorem aba:type_of% @List.drop_zero:=@List.drop_zero
theorem abb:type_of% @List.mem_iff_getElem?:=@List.mem_iff_getElem?
theorem abd:type_of% @Nat.sub_zero:=@Nat.sub_zero
theorem abe:type_of% @Int.pow_succ:=@Int.pow_succ
theorem abf:type_of% @Int.mul_le_mul_of_nonneg_left:=@Int.mul_le_mul_of_nonneg_left
theorem abg:type_of% @List.mem_cons_of_mem:=@List.mem_cons_of_mem
theorem abh:type_of% @List.getElem?_replicate:=@List.getElem?_replicate
theorem abj:type_of% @List.take_zero:=@List.take_zero
theorem abk:type_of% @List.ext_getElem?:=@List.ext_getElem?
theorem abl:type_of% @Array.ext':=@Array.ext'
theorem abm:type_of% @List.set_append_right:=@List.set_append_right
theorem abn:type_of% @List.set_getElem_self:=@List.set_getElem_self
theorem abo:type_of% @List.mem_singleton:=@List.mem_singleton
theorem abp:type_of% @Array.mapM_eq_mapM_toList:=@Array.mapM_eq_mapM_toList
theorem abq:type_of% @List.getElem?_eq_none_iff:=@List.getElem?_eq_none_iff
theorem abr:type_of% @Option.bind_some:=@Option.bind_some
theorem abt:type_of% @Nat.ne_of_beq_eq_false:=@Nat.ne_of_beq_eq_false
theorem abu:type_of% @List.getElem_cons_zero:=@List.getElem_cons_zero
theorem abv:type_of% @List.getElem_cons_succ:=@List.getElem_cons_succ
theorem xU:type_of% @and_true:=@and_true
theorem abx:type_of% @Option.isSome_none:=@Option.isSome_none
theorem aby:type_of% @List.pairwise_cons:=@List.pairwise_cons
theorem abz:type_of% @Bool.eq_iff_iff:=@Bool.eq_iff_iff
theorem abA:type_of% @Nat.add_zero:=@Nat.add_zero
theorem abB:type_of% @List.foldl_cons:=@List.foldl_cons
theorem abC:type_of% @Bool.or_false:=@Bool.or_false
theorem abD:type_of% @List.mem_range:=@List.mem_range
theorem abE:type_of% @List.ext_getElem:=@List.ext_getElem
theorem abG:type_of% @Nat.mod_eq_of_lt:=@Nat.mod_eq_of_lt
theorem abH:type_of% @Int.natCast_zero:=@Int.natCast_zero
theorem abI:type_of% @decide_false:=@decide_false
open Go.RowKit
inductive Cl where
 | v (x:Value)
 | sl (xs:List (List Cl))
 | ref (l:Nat)
 | ow (ty:TypeId) (sz:Nat) (xs:List (List Cl))
 deriving Inhabited
inductive AV where
 | c (x:Cl)
 | agg (xs:List Cl)
 | lp (l i off:Nat)
 | ip (xs:List Cl)
 | tup (xs:List AV)
 | undef
 | un
 | pin (x:AV) (u:Value)
 | clo (f:FuncId) (xs:List (List Cl))
 | vw (x:AV) (i n m:Nat)
 deriving Inhabited
structure Ob where
 ty:TypeId
 sz:Nat
 xs:List (List Cl)
 wr:Bool
 live:Bool
 deriving Inhabited
structure MS where
 n:Nat
 env:List (Nat×AV)
 st:List Ob
def Bi:List (Nat×AV)→Nat→AV
 | [],_=>.un
 | (k,v)::r,i=>if k=i then v else Bi r i
def MS.put (s:MS) (d:Option Nat) (v:AV):MS:=match d with
 | some d=>if d<s.n then⟨s.n,(d,v)::s.env,s.st⟩ else s
 | none=>s
def QN:Value→Bool
 | .agg _ | .tuple _=>false
 | .int k n=>(Lit.int k n).wf
 | .string s=>decide (s.size≤maxLen)
 | _=>true
theorem mX {x:Value} (h:QN x=true):x.oneCell'=true:=by cases x<;>simp_all [QN,Value.oneCell']
mutual
def RdD (w:World) (St:Nat→Nat→Prop):Cl→Value→Prop
 | .v x,u=>u=x∧QN x=true
 | .ref _,_=>False
 | .ow _ _ _,_=>False
 | .sl xs,u=>∃ a cap,u = .slice a xs.length cap∧xs.length≤cap∧cap≤maxLen∧(∃ sz,∀ x∈xs,x.length=sz)∧(xs = []∨∃ b off,a=some ⟨b,off,none⟩∧RdE w St xs b off)
def RdE (w:World) (St:Nat→Nat→Prop):List (List Cl)→Nat→Nat→Prop
 | [],_,_=>True
 | x::xs,b,off=>RdL w St x b off∧RdE w St xs b (off+x.length)
def RdL (w:World) (St:Nat→Nat→Prop):List Cl→Nat→Nat→Prop
 | [],_,_=>True
 | c::cs,b,off=>(St b off∧∃ u,w.cell? ⟨b,off,none⟩=some u∧RdD w St c u)∧RdL w St cs b (off+1)
end
mutual
theorem RdD.mono {w w':World} {St St':Nat→Nat→Prop} (hS:∀ b o,St b o→St' b o) (hw:∀ b o,St b o→w'.cell? ⟨b,o,none⟩=w.cell? ⟨b,o,none⟩) :
  ∀ (c:Cl) (u:Value),RdD w St c u→RdD w' St' c u
 | .v x,u,h=>by simp only[RdD] at h ⊢; exact h
 | .ref _,_,h=>by simp[RdD] at h
 | .ow _ _ _,_,h=>by simp[RdD] at h
 | .sl xs,u,h=>by
  simp only[RdD] at h ⊢
  obtain⟨a,cap,h1,h2,h3,h4,h5⟩:=h
  refine⟨a,cap,h1,h2,h3,h4, ?_⟩
  rcases h5 with h5 | ⟨b,off,h5,h6⟩
  ·exact .inl h5
  ·exact .inr ⟨b,off,h5,RdE.mono hS hw xs b off h6⟩
theorem RdE.mono {w w':World} {St St':Nat→Nat→Prop} (hS:∀ b o,St b o→St' b o) (hw:∀ b o,St b o→w'.cell? ⟨b,o,none⟩=w.cell? ⟨b,o,none⟩) :
  ∀ (xs:List (List Cl)) (b off:Nat),RdE w St xs b off→RdE w' St' xs b off
 | [],_,_,_=>by simp[RdE]
 | x::xs,b,off,h=>by
  simp only[RdE] at h ⊢
  exact⟨RdL.mono hS hw x b off h.1,RdE.mono hS hw xs b _ h.2⟩
theorem RdL.mono {w w':World} {St St':Nat→Nat→Prop} (hS:∀ b o,St b o→St' b o) (hw:∀ b o,St b o→w'.cell? ⟨b,o,none⟩=w.cell? ⟨b,o,none⟩) :
  ∀ (cs:List Cl) (b off:Nat),RdL w St cs b off→RdL w' St' cs b off
 | [],_,_,_=>by simp[RdL]
 | c::cs,b,off,h=>by
  simp only[RdL] at h ⊢
  obtain⟨⟨h1,u,h2,h3⟩,h4⟩:=h
  exact⟨⟨hS _ _ h1,u,by rw[hw _ _ h1]; exact h2,RdD.mono hS hw c u h3⟩,RdL.mono hS hw cs b _ h4⟩
end
theorem RdL.at {w:World} {St:Nat→Nat→Prop}:∀ {cs:List Cl} {b off:Nat},RdL w St cs b off→∀ j c,cs[j]?=some c →
  St b (off+j)∧∃ u,w.cell? ⟨b,off+j,none⟩=some u∧RdD w St c u
 | [],_,_,_,j,c,h=>AOx
 | c0::cs,b,off,h,j,c,hj=>by
  simp only[RdL] at h
  cases j with
  | zero=>simp only[aV,ak] at hj; subst hj; exact h.1
  | succ j =>
   simp only[aaW] at hj
   have:=RdL.at h.2 j c hj
   rwa [show off+1+j=off+(j+1) from AOQ] at this
theorem AEM {w:World} {St:Nat→Nat→Prop}:∀ {cs:List Cl} {b off:Nat},(∀ j c,cs[j]?=some c→St b (off+j)∧∃ u,w.cell? ⟨b,off+j,none⟩=some u∧RdD w St c u)→RdL w St cs b off
 | [],_,_,_=>by simp[RdL]
 | c0::cs,b,off,h=>by
  simp only[RdL]
  refine⟨by simpa using h 0 c0 rfl,AEM fun j c hj=>?_⟩
  have:=h (j+1) c (by simpa using hj)
  rwa [show off+(j+1)=off+1+j from AOQ] at this
theorem RdL.drop {w:World} {St:Nat→Nat→Prop} {cs:List Cl} {b off:Nat} (h:RdL w St cs b off) (n:Nat):RdL w St (cs.drop n) b (off+n):=
 AEM fun j c hj=>by
  have:=h.at (n+j) c AOT
  grind
theorem RdL.take {w:World} {St:Nat→Nat→Prop} {cs:List Cl} {b off:Nat} (h:RdL w St cs b off) (n:Nat):RdL w St (cs.take n) b off:=
 AEM fun j c hj=>by
  rw[aaB] at hj
  split at hj
  ·exact h.at j c hj
  ·simp at hj
theorem RdE.at {w:World} {St:Nat→Nat→Prop} (sz:Nat):∀ {xs:List (List Cl)} {b off:Nat},RdE w St xs b off→(∀ x∈xs,x.length=sz)→∀ i x,xs[i]?=some x→RdL w St x b (off+i*sz)
 | [],_,_,_,_,i,x,h=>AOx
 | x0::xs,b,off,h,hl,i,x,hi=>by
  simp only[RdE] at h
  cases i with
  | zero=>simp only[aV,ak] at hi; subst hi; simpa using h.1
  | succ i =>
   simp only[aaW] at hi
   have:=RdE.at sz h.2 (fun y hy=>hl y APi) i x hi
   rw[hl x0 AOR] at this
   rwa [show off+sz+i*sz=off+(i+1)*sz by rw[Zm]; omega] at this
theorem AEK {w:World} {St:Nat→Nat→Prop} (sz:Nat):∀ {xs:List (List Cl)} {b off:Nat},(∀ x∈xs,x.length=sz)→(∀ i x,xs[i]?=some x→RdL w St x b (off+i*sz))→RdE w St xs b off
 | [],_,_,_,_=>by simp[RdE]
 | x0::xs,b,off,hl,h=>by
  simp only[RdE]
  refine⟨by simpa using h 0 x0 rfl,AEK sz (fun y hy=>hl y APi) fun i x hi=>?_⟩
  have:=h (i+1) x AOT
  grind
def AB:Cl→Bool
 | .v (.slice _ _ _)=>false
 | .v (.agg _)=>false
 | .v (.tuple _)=>false
 | .v _=>true
 | .sl _=>true
 | .ref _=>false
 | .ow _ _ _=>false
def C_ (cs:List Cl):Bool:=cs.all AB
def Gq (xs:List (List Cl)):Bool:=xs.all C_
def BM (w:World) (st:List Ob) (β:Nat→Option Nat) (l:Nat) (u:Value):Prop:=
 match st[l]? with
 | none=>False
 | some ob=>u.oneCell'=true∧(ob.live=true→match β l with
  | none=>u = .slice none 0 0∧ob.xs = []
  | some b=>∃ cap cs,u = .slice (some ⟨b,0,none⟩) ob.xs.length cap∧ob.xs.length≤cap∧cap≤maxLen∧w.heap[b]?=some (.cells cs ob.ty (0,0))∧cs.size=cap*ob.sz)
def RdC (w:World) (St:Nat→Nat→Prop) (st:List Ob) (β:Nat→Option Nat):Cl→Value→Prop
 | .ref l,u=>BM w st β l u
 | c,u=>RdD w St c u
mutual
def AVR (w:World) (St:Nat→Nat→Prop) (st:List Ob) (β:Nat→Option Nat):AV→Value→Prop
 | .c x,u=>RdC w St st β x u
 | .agg xs,u=>∃ us:List Value,u = .agg us.toArray∧us.length=xs.length∧∀ (k:Nat) (c:Cl),xs[k]?=some c→∃ y,us[k]?=some y∧RdC w St st β c y
 | .lp l i off,u=>match st[l]? with
  | none=>False
  | some ob=>ob.live=true→∃ b,β l=some b∧u = .pointer (some ⟨b,i*ob.sz+off,none⟩)
 | .ip xs,u=>∃ b off,u = .pointer (some ⟨b,off,none⟩)∧RdL w St xs b off
 | .tup xs,u=>∃ us:List Value,u = .tuple us.toArray∧AVRs w St st β xs us
 | .undef,u=>u=Go.undef
 | .un,_=>True
 | .pin x u0,u=>u=u0∧AVR w St st β x u
 | .clo f xs,u=>∃ us:List Value,u = .func (.func f) #[] us.toArray∧us.length=xs.length∧∀ (k:Nat) (c:List Cl),xs[k]?=some c→∃ b off,us[k]?=some (.pointer (some ⟨b,off,none⟩))∧RdL w St c b off
 | .vw x i n m,u=>∃ b len cap cap',u = .slice (some ⟨b,i*n,none⟩) m cap'∧m≤cap'∧cap'≤maxLen∧AVR w St st β x (.slice (some ⟨b,0,none⟩) len cap)
def AVRs (w:World) (St:Nat→Nat→Prop) (st:List Ob) (β:Nat→Option Nat):List AV→List Value→Prop
 | [],us=>us = []
 | x::xs,us=>∃ y ys,us=y::ys∧AVR w St st β x y∧AVRs w St st β xs ys
end
def RdB (w:World) (St:Nat→Nat→Prop) (st:List Ob) (β:Nat→Option Nat):Cl→Value→Prop
 | .ow _ _ _,u=>u.oneCell'=true
 | c,u=>RdC w St st β c u
def ObR (w:World) (St:Nat→Nat→Prop) (st:List Ob) (β:Nat→Option Nat) (ob:Ob) (b:Nat):Prop:=
 ∃ cs:Array Value,w.heap[b]?=some (.cells cs ob.ty (0,0))∧(∀ x∈ob.xs,x.length=ob.sz) ∧
  ∀ (k:Nat) (c:Cl),ob.xs.flatten[k]?=some c→∃ u,cs[k]?=some u∧RdB w St st β c u
def Gm:Cl→Bool
 | .ow _ _ _=>true
 | _=>false
mutual
def RdO (w:World) (St:Nat→Nat→Prop):Cl→Value→(Nat→Prop)→Prop
 | .ow ty sz xs,u,F=>(u = .slice none 0 0∧xs = [])∨∃ (b cap:Nat) (cs:Array Value) (G:Nat→Nat→Prop),u = .slice (some ⟨b,0,none⟩) xs.length cap∧xs.length≤cap∧cap≤maxLen ∧
   w.heap[b]?=some (.cells cs ty (0,0))∧cs.size=cap*sz∧(∀ x∈xs,x.length=sz)∧F b∧(∀ k x,G k x→F x∧x≠b)∧(∀ k k' x,G k x→G k' x→k=k')∧RdOE w St xs 0 cs G
 | .v x,u,_=>u=x∧QN x=true
 | .sl xs,u,_=>RdD w St (.sl xs) u
 | .ref _,_,_=>False
def RdOE (w:World) (St:Nat→Nat→Prop):List (List Cl)→Nat→Array Value→(Nat→Nat→Prop)→Prop
 | [],_,_,_=>True
 | x::xs,n,cs,G=>RdOL w St x n cs G∧RdOE w St xs (n+x.length) cs G
def RdOL (w:World) (St:Nat→Nat→Prop):List Cl→Nat→Array Value→(Nat→Nat→Prop)→Prop
 | [],_,_,_=>True
 | c::cl,n,cs,G=>(∃ y,cs[n]?=some y∧RdO w St c y (G n))∧RdOL w St cl (n+1) cs G
end
mutual
theorem RdO.mono {w w':World} {St St':Nat→Nat→Prop} (hS:∀ b o,St b o→St' b o) (hw:∀ b o,St b o→w'.cell? ⟨b,o,none⟩=w.cell? ⟨b,o,none⟩) :
  ∀ (c:Cl) (u:Value) (F F':Nat→Prop),(∀ x,F x→F' x)→(∀ x,F x→w'.heap[x]?=w.heap[x]?)→RdO w St c u F→RdO w' St' c u F'
 | .v x,u,F,F',_,_,h=>by simp only[RdO] at h ⊢; exact h
 | .ref _,_,_,_,_,_,h=>by simp[RdO] at h
 | .sl xs,u,F,F',_,_,h=>by simp only[RdO] at h ⊢; exact RdD.mono hS hw _ _ h
 | .ow ty sz xs,u,F,F',hF,hh,h=>by
  simp only[RdO] at h ⊢
  rcases h with h | ⟨b,cap,cs,G,h1,h2,h3,h4,h5,h6,h7,h8,h9,h10⟩
  ·exact .inl h
  ·exact .inr ⟨b,cap,cs,G,h1,h2,h3,AOT,h5,h6,hF b h7,fun k x hx=>⟨hF x (h8 k x hx).1,(h8 k x hx).2⟩,h9,RdOE.mono hS hw xs 0 cs G (fun k x hx=>hh x (h8 k x hx).1) h10⟩
theorem RdOE.mono {w w':World} {St St':Nat→Nat→Prop} (hS:∀ b o,St b o→St' b o) (hw:∀ b o,St b o→w'.cell? ⟨b,o,none⟩=w.cell? ⟨b,o,none⟩) :
  ∀ (xs:List (List Cl)) (n:Nat) (cs:Array Value) (G:Nat→Nat→Prop),(∀ k x,G k x→w'.heap[x]?=w.heap[x]?)→RdOE w St xs n cs G→RdOE w' St' xs n cs G
 | [],_,_,_,_,_=>by simp[RdOE]
 | x::xs,n,cs,G,hh,h=>by
  simp only[RdOE] at h ⊢
  exact⟨RdOL.mono hS hw x n cs G hh h.1,RdOE.mono hS hw xs _ cs G hh h.2⟩
theorem RdOL.mono {w w':World} {St St':Nat→Nat→Prop} (hS:∀ b o,St b o→St' b o) (hw:∀ b o,St b o→w'.cell? ⟨b,o,none⟩=w.cell? ⟨b,o,none⟩) :
  ∀ (cl:List Cl) (n:Nat) (cs:Array Value) (G:Nat→Nat→Prop),(∀ k x,G k x→w'.heap[x]?=w.heap[x]?)→RdOL w St cl n cs G→RdOL w' St' cl n cs G
 | [],_,_,_,_,_=>by simp[RdOL]
 | c::cl,n,cs,G,hh,h=>by
  simp only[RdOL] at h ⊢
  obtain⟨⟨y,h1,h2⟩,h3⟩:=h
  exact⟨⟨y,h1,RdO.mono hS hw c y (G n) (G n) (fun _ h=>h) (fun x hx=>hh n x hx) h2⟩,RdOL.mono hS hw cl _ cs G hh h3⟩
end
structure Bs where
 w:World
 own:Nat→Prop
 gs:Nat→Value
def Bs.heap (b:Bs):Array Obj:=b.w.heap
def Bs.may (b:Bs) (x:Nat):Prop:=b.heap.size≤x∨b.own x
def wG (w:World) (k:Nat):Nat:=match w.heap[k]? with
 | some (.cells cs _ _)=>cs.size
 | _=>0
theorem xW {w w':World} {k:Nat} (h:w'.heap[k]?=w.heap[k]?):wG w' k=wG w k:=by simp only[wG,h]
theorem AC4 {w w':World} {k:Nat} {cs cs':Array Value} {ty ty':TypeId} {x x':Nat×Nat} (h:w.heap[k]?=some (.cells cs ty x)) (h':w'.heap[k]?=some (.cells cs' ty' x')):wG w' k=wG w k↔cs'.size=cs.size:=by simp only[wG,h,h']
structure BelowB (w0:Bs) (w:World):Prop where
 rest:Below 0 w0.w w
 blk:∀ k,k<w0.heap.size→¬ w0.own k→w.heap[k]?=w0.heap[k]?
 siz:∀ k,k<w0.heap.size→wG w k=wG w0.w k
theorem BelowB.size {w0:Bs} {w:World} (h:BelowB w0 w):w0.heap.size≤w.heap.size:=h.rest.size
theorem BelowB.refl (w:World) (O:Nat→Prop) {g:Nat→Value}:BelowB ⟨w,O,g⟩ w:=⟨Below.refl _ _,fun _ _ _=>rfl,fun _ _=>rfl⟩
theorem BelowB.step {w0:Bs} {w w':World} (h:BelowB w0 w) {n:Nat} (hb:Below n w w') (hk:∀ k,k<w0.heap.size→¬ w0.own k→w'.heap[k]?=w.heap[k]?) (hs:∀ k,k<w0.heap.size→wG w' k=wG w k):BelowB w0 w':=
 ⟨h.rest.trans (hb.mono (aA _)),fun k h1 h2=>(hk k h1 h2).trans (h.blk k h1 h2),fun k h1=>(hs k h1).trans (h.siz k h1)⟩
theorem BelowB.grow {w0:Bs} {w w':World} (h:BelowB w0 w) (hb:Below w.heap.size w w'):BelowB w0 w':=
 h.step hb (fun k h1 _=>hb.block k (cO h1 h.size)) fun k h1=>xW (hb.block k (cO h1 h.size))
theorem BelowB.plain {w w':World} (h:BelowB ⟨w,fun _=>False,fun _=>Go.undef⟩ w'):Below w.heap.size w w':=
 ⟨h.rest.os,h.rest.tape,h.rest.output,h.rest.size,fun k hk=>h.blk k hk fun h=>h⟩
def Ot (w0:Bs) (R:Nat→Prop) (w:World) (St:Nat→Nat→Prop) (st:List Ob) (β:Nat→Option Nat) (x:Nat):Prop:=w0.may x∧¬ R x∧x<w.heap.size∧(∀ o,¬ St x o)∧∀ (l:Nat) (ob:Ob),st[l]?=some ob→ob.live=true→β l≠some x
def Own (w0:Bs) (R:Nat→Prop) (w:World) (St:Nat→Nat→Prop) (st:List Ob) (β:Nat→Option Nat):Prop:=∃ φ:Nat→Nat→Nat→Prop,
 (∀ (l:Nat) (ob:Ob) (b k:Nat) (c:Cl),st[l]?=some ob→ob.live=true→β l=some b→ob.xs.flatten[k]?=some c→Gm c=true→∃ u,w.cell? ⟨b,k,none⟩=some u∧RdO w St c u (φ l k)) ∧
 (∀ l k x,φ l k x→(∃ ob b,st[l]?=some ob∧ob.live=true∧β l=some b)∧Ot w0 R w St st β x) ∧
 ∀ l l' k k' x,φ l k x→φ l' k' x→l=l'∧k=k'
theorem Own.move {w0:Bs} {R R':Nat→Prop} {w w':World} {St St':Nat→Nat→Prop} {st st':List Ob} {β β':Nat→Option Nat} (h:Own w0 R w St st β) (σ:Nat→Nat)
  (hx:∀ x,Ot w0 R w St st β x→Ot w0 R' w' St' st' β' x∧w'.heap[x]?=w.heap[x]?) (hS:∀ b o,St b o→St' b o) (hw:∀ b o,St b o→w'.cell? ⟨b,o,none⟩=w.cell? ⟨b,o,none⟩)
  (hob:∀ (l':Nat) (ob':Ob) (b k:Nat) (c:Cl),st'[l']?=some ob'→ob'.live=true→β' l'=some b→ob'.xs.flatten[k]?=some c→Gm c=true →
   ∃ ob b0,st[σ l']?=some ob∧ob.live=true∧β (σ l')=some b0∧ob.xs.flatten[k]?=some c∧w'.cell? ⟨b,k,none⟩=w.cell? ⟨b0,k,none⟩)
  (hσ:∀ (l1 l2:Nat) (o1 o2:Ob),st'[l1]?=some o1→st'[l2]?=some o2→o1.live=true→o2.live=true→σ l1=σ l2→l1=l2):Own w0 R' w' St' st' β':=by
 obtain⟨φ,h1,h2,h3⟩:=h
 refine⟨fun l k x=>(∃ ob b,st'[l]?=some ob∧ob.live=true∧β' l=some b)∧φ (σ l) k x, ?_, ?_, ?_⟩
 ·grind [RdO.mono]
 ·grind
 grind
def nm (w0:Bs) (a:Act) (i:Nat):Value:=if i<1000000 then a.tmps.getD i undef else w0.gs (i-1000000)
theorem xX {w0:Bs} {a:Act} (h:a.tmps.size≤1000000) (hg:w0.gs=fun _=>undef) (i:Nat):nm w0 a i=a.tmps.getD i undef:=by
 unfold nm
 split
 ·rfl
 ·rw[hg]
  have:¬ i<a.tmps.size:=AOQ
  simp[this]
theorem AGH {w0:Bs} {a:Act} {i:Nat} (h:¬ i<1000000):nm w0 a i=w0.gs (i-1000000):=bz h
theorem U7 {w0:Bs} {a:Act} {i:Nat} (h:i<1000000):nm w0 a i=a.tmps.getD i undef:=bF h
structure Core (w0:Bs) (St0 St:Nat→Nat→Prop) (β:Nat→Option Nat) (s:MS) (a:Act) (w:World):Prop where
 defers:a.defers = []
 size:a.tmps.size=s.n
 lim:s.n≤1000000
 env:∀ i,AVR w St s.st β (Bi s.env i) (nm w0 a i)
 below:BelowB w0 w
 st0:∀ b o,St0 b o→St b o
 stOld:∀ b o,St b o→b<w0.heap.size→¬ w0.own b→St0 b o
 stIn:∀ b o,St b o→b<w.heap.size
 obs:∀ l ob b,s.st[l]?=some ob→ob.live=true→β l=some b→w0.may b∧b<w.heap.size∧ObR w St s.st β ob b
 nil:∀ l ob,s.st[l]?=some ob→ob.live=true→β l=none→ob.xs = []
 inj:∀ l l' ob ob' b,s.st[l]?=some ob→s.st[l']?=some ob'→ob.live=true→ob'.live=true→β l=some b→β l'=some b→l=l'
 sep:∀ l ob b o,s.st[l]?=some ob→ob.live=true→β l=some b→St b o→ob.wr=false∧o<ob.xs.length*ob.sz
 own:Own w0 (fun _=>False) w St s.st β
def Sim (w0:Bs) (St0:Nat→Nat→Prop) (s:MS) (a:Act) (w:World):Prop:=∃ St β,Core w0 St0 St β s a w
theorem RdC.mono {w w':World} {St St':Nat→Nat→Prop} {st st':List Ob} {β β':Nat→Option Nat} (hS:∀ b o,St b o→St' b o) (hw:∀ b o,St b o→w'.cell? ⟨b,o,none⟩=w.cell? ⟨b,o,none⟩)
  (hr:∀ l u,BM w st β l u→BM w' st' β' l u) (c:Cl) (u:Value) (h:RdC w St st β c u):RdC w' St' st' β' c u:=by
 cases c with
 | ref l=>exact hr l u h
 | v x=>exact RdD.mono hS hw _ _ h
 | sl xs=>exact RdD.mono hS hw _ _ h
 | ow ty sz xs=>simp[RdC,RdD] at h
theorem RdC.toB {w:World} {St:Nat→Nat→Prop} {st:List Ob} {β:Nat→Option Nat} {c:Cl} {u:Value} (h:RdC w St st β c u):RdB w St st β c u:=by
 cases c with
 | ow ty sz xs=>simp[RdC,RdD] at h
 | _=>exact h
theorem RdB.toC {w:World} {St:Nat→Nat→Prop} {st:List Ob} {β:Nat→Option Nat} {c:Cl} {u:Value} (hc:Gm c=false) (h:RdB w St st β c u):RdC w St st β c u:=by
 cases c with
 | ow ty sz xs=>simp[Gm] at hc
 | _=>exact h
theorem RdC.notOw {w:World} {St:Nat→Nat→Prop} {st:List Ob} {β:Nat→Option Nat} {c:Cl} {u:Value} (h:RdC w St st β c u):Gm c=false:=by
 cases c with
 | ow ty sz xs=>simp[RdC,RdD] at h
 | _=>rfl
theorem RdB.mono {w w':World} {St St':Nat→Nat→Prop} {st st':List Ob} {β β':Nat→Option Nat} (hS:∀ b o,St b o→St' b o) (hw:∀ b o,St b o→w'.cell? ⟨b,o,none⟩=w.cell? ⟨b,o,none⟩)
  (hr:∀ l u,BM w st β l u→BM w' st' β' l u) (c:Cl) (u:Value) (h:RdB w St st β c u):RdB w' St' st' β' c u:=by
 cases c with
 | ow ty sz xs=>exact h
 | v x=>exact RdC.mono hS hw hr (.v x) u h
 | sl xs=>exact RdC.mono hS hw hr (.sl xs) u h
 | ref l=>exact RdC.mono hS hw hr (.ref l) u h
mutual
theorem AVR.mono {w w':World} {St St':Nat→Nat→Prop} {st st':List Ob} {β β':Nat→Option Nat} (hS:∀ b o,St b o→St' b o) (hw:∀ b o,St b o→w'.cell? ⟨b,o,none⟩=w.cell? ⟨b,o,none⟩)
  (hr:∀ l u,BM w st β l u→BM w' st' β' l u) (hp:∀ l i off u,AVR w St st β (.lp l i off) u→AVR w' St' st' β' (.lp l i off) u) :
  ∀ (x:AV) (u:Value),AVR w St st β x u→AVR w' St' st' β' x u
 | .c x,u,h=>by simp only[AVR] at h ⊢; exact RdC.mono hS hw hr x u h
 | .agg xs,u,h=>by
  simp only[AVR] at h ⊢
  obtain⟨us,h1,h2,h3⟩:=h
  refine⟨us,h1,h2,fun k c hk=>?_⟩
  obtain⟨y,hy,hc⟩:=h3 k c hk
  exact⟨y,hy,RdC.mono hS hw hr c y hc⟩
 | .lp l i off,u,h=>hp l i off u h
 | .ip xs,u,h=>by
  simp only[AVR] at h ⊢
  obtain⟨b,off,h1,h2⟩:=h
  exact⟨b,off,h1,RdL.mono hS hw xs b off h2⟩
 | .tup xs,u,h=>by
  simp only[AVR] at h ⊢
  obtain⟨us,h1,h2⟩:=h
  exact⟨us,h1,AVRs.mono hS hw hr hp xs us h2⟩
 | .undef,_,h=>APU
 | .un,_,_=>by simp only[AVR]
 | .pin x u0,u,h=>by
  simp only[AVR] at h ⊢
  exact⟨h.1,AVR.mono hS hw hr hp x u h.2⟩
 | .clo f xs,u,h=>by
  simp only[AVR] at h ⊢
  obtain⟨us,h1,h2,h3⟩:=h
  refine⟨us,h1,h2,fun k c hk=>?_⟩
  obtain⟨b,off,hy,hc⟩:=h3 k c hk
  exact⟨b,off,hy,RdL.mono hS hw c b off hc⟩
 | .vw x i n m,u,h=>by
  simp only[AVR] at h ⊢
  obtain⟨b,len,cap,cap',h1,h2,h3,h4⟩:=h
  exact⟨b,len,cap,cap',h1,h2,h3,AVR.mono hS hw hr hp x _ h4⟩
theorem AVRs.mono {w w':World} {St St':Nat→Nat→Prop} {st st':List Ob} {β β':Nat→Option Nat} (hS:∀ b o,St b o→St' b o) (hw:∀ b o,St b o→w'.cell? ⟨b,o,none⟩=w.cell? ⟨b,o,none⟩)
  (hr:∀ l u,BM w st β l u→BM w' st' β' l u) (hp:∀ l i off u,AVR w St st β (.lp l i off) u→AVR w' St' st' β' (.lp l i off) u) :
  ∀ (xs:List AV) (us:List Value),AVRs w St st β xs us→AVRs w' St' st' β' xs us
 | [],us,h=>APQ
 | x::xs,us,h=>by
  simp only[AVRs] at h ⊢
  obtain⟨y,ys,h1,h2,h3⟩:=h
  exact⟨y,ys,h1,AVR.mono hS hw hr hp x y h2,AVRs.mono hS hw hr hp xs ys h3⟩
end
theorem ObR.mono {w w':World} {St St':Nat→Nat→Prop} {st st':List Ob} {β β':Nat→Option Nat} (hS:∀ b o,St b o→St' b o) (hw:∀ b o,St b o→w'.cell? ⟨b,o,none⟩=w.cell? ⟨b,o,none⟩)
  (hr:∀ l u,BM w st β l u→BM w' st' β' l u) {ob:Ob} {b:Nat} (hb:w'.heap[b]?=w.heap[b]?) (h:ObR w St st β ob b):ObR w' St' st' β' ob b:=by
 obtain⟨cs,h1,h2,h3⟩:=h
 refine⟨cs,AOT,h2,fun k c hk=>?_⟩
 grind [RdB.mono]
theorem cell_of_block {w w':World} {b o:Nat} (h:w'.heap[b]?=w.heap[b]?):w'.cell? ⟨b,o,none⟩=w.cell? ⟨b,o,none⟩:=by simp[World.cell?,h]
theorem Own.grow {w0:Bs} {R R':Nat→Prop} {w w':World} {St St':Nat→Nat→Prop} {st:List Ob} {β:Nat→Option Nat} (h:Own w0 R w St st β) (hb:Below w.heap.size w w')
  (hS:∀ b o,St b o→St' b o) (hS':∀ b o,St' b o→b<w.heap.size→St b o) (hin:∀ b o,St b o→b<w.heap.size)
  (hob:∀ (l:Nat) (ob:Ob) (b:Nat),st[l]?=some ob→ob.live=true→β l=some b→b<w.heap.size) (hR:∀ x,x<w.heap.size→R' x→R x):Own w0 R' w' St' st β:=by
 refine h.move id (fun x hx=>?_) hS (fun b o hbo=>cell_of_block (hb.block b (hin b o hbo))) (fun l ob b k c h1 h2 h3 h4 h5=>?_) (fun _ _ _ _ _ _ _ _ e=>e)
 ·obtain⟨q1,q2,q3,q4,q5⟩:=hx
  exact⟨⟨q1,fun h=>q2 (hR x q3 h),cO q3 hb.size,fun o ho=>q4 o (hS' x o ho q3),q5⟩,hb.block x q3⟩
 ·exact⟨ob,b,h1,h2,h3,h4,cell_of_block (hb.block b (hob l ob b h1 h2 h3))⟩
theorem Core.grow {w0:Bs} {St0 St:Nat→Nat→Prop} {β:Nat→Option Nat} {s:MS} {a:Act} {w w':World} (h:Core w0 St0 St β s a w) (hb:Below w.heap.size w w')
  {St':Nat→Nat→Prop} (hS:∀ b o,St b o→St' b o) (hS':∀ b o,St' b o→b<w.heap.size→St b o) (hin:∀ b o,St' b o→b<w'.heap.size):Core w0 St0 St' β s a w':=by
 have hw0:w0.heap.size≤w.heap.size:=h.below.size
 have hblk:∀ k,k<w.heap.size→w'.heap[k]?=w.heap[k]?:=hb.block
 have hw:∀ b o,St b o→w'.cell? ⟨b,o,none⟩=w.cell? ⟨b,o,none⟩:=fun b o hbo=>cell_of_block (hblk b (h.stIn b o hbo))
 have hr:∀ l u,BM w s.st β l u→BM w' s.st β l u:=by
  intro l u hu
  unfold BM at hu ⊢
  cases hl:s.st[l]? with
  | none=>grind
  | some ob =>
   grind
 have hp:∀ l i off u,AVR w St s.st β (.lp l i off) u→AVR w' St' s.st β (.lp l i off) u:=by
  intro l i off u hu; simpa only[AVR] using hu
 exact {
  defers:=h.defers
  size:=h.size
  lim:=h.lim
  env:=fun i=>AVR.mono hS hw hr hp _ _ (h.env i)
  below:=h.below.grow hb
  st0:=fun b o hbo=>hS b o (h.st0 b o hbo)
  stOld:=fun b o hbo hlt=>h.stOld b o (hS' b o hbo (cO hlt hw0)) hlt
  stIn:=hin
  obs:=fun l ob b hl hlive hβ=>by
   obtain⟨h1,h2,h3⟩:=h.obs l ob b hl hlive hβ
   grind [cO,ObR.mono]
  nil:=h.nil
  inj:=h.inj
  sep:=fun l ob b o hl hlive hβ hbo=>h.sep l ob b o hl hlive hβ (hS' b o hbo (h.obs l ob b hl hlive hβ).2.1)
  own:=h.own.grow hb hS hS' h.stIn (fun l ob b h1 h2 h3=>(h.obs l ob b h1 h2 h3).2.1) (fun _ _ h=>h) }
theorem Core.put {w0:Bs} {St0 St:Nat→Nat→Prop} {β:Nat→Option Nat} {s:MS} {a:Act} {w:World} (h:Core w0 St0 St β s a w) (d:Option Nat) {x:AV} {u:Value} (hx:AVR w St s.st β x u) :
  Core w0 St0 St β (s.put d x) (a.put d u) w:=by
 cases d with
 | none=>exact h
 | some d =>
  by_cases hd:d<s.n
  ·have e1:s.put (some d) x=⟨s.n,(d,x)::s.env,s.st⟩:=by simp[MS.put,hd]
   rw[e1]
   exact {
    defers:=h.defers
    size:=by simpa [Act.put] using h.size
    lim:=h.lim
    env:=fun i=>by
     simp only[Bi,Act.put]
     by_cases hi:d=i
     ·subst hi
      have:d<a.tmps.size:=by rw[h.size]; exact hd
      rw[U7 (cO hd h.lim)]
      simpa [this] using hx
     ·have:=h.env i
      unfold nm at this ⊢
      simpa [hi,Array.getElem?_setIfInBounds] using this
    below:=h.below,st0:=h.st0,stOld:=h.stOld,stIn:=h.stIn,obs:=h.obs,nil:=h.nil,inj:=h.inj,sep:=h.sep,own:=h.own }
  ·have e1:s.put (some d) x=s:=by simp[MS.put,hd]
   rw[e1]
   have e2:a.put (some d) u=a:=by
    have:¬ d<a.tmps.size:=by rw[h.size]; exact hd
    cases a
    simp only[Act.put,Act.mk.injEq,xU]
    simp only at this
    exact Array.setIfInBounds_eq_of_size_le AOQ
   grind
theorem AVR.un {w:World} {St:Nat→Nat→Prop} {st:List Ob} {β:Nat→Option Nat} {u:Value}:AVR w St st β .un u:=by simp only[AVR]
def Ac (P:Program) (t:TypeId):Option Nat:=(P.info? t).map (·.size)
def Bl (P:Program) (t:TypeId):Option Bool:=(P.underlying t).map fun d=>match d with | .struct _ | .array _ _=>true | _=>false
def OJ (P:Program) (t:TypeId):Option (List Value):=(P.info? t).bind fun i=>i.zero.map fun z=>z.cells.toList
def mY (zs:List Value):Bool:=zs.all QN
def Tt (P:Program) (t:TypeId):Option (List Cl):=match OJ P t with
 | some zs=>if mY zs then some (zs.map .v) else none
 | none=>none
theorem OL {P:Program} {t:TypeId} {cs:List Cl} (h:Tt P t=some cs):∃ zs,OJ P t=some zs∧mY zs=true∧cs=zs.map .v:=by
 unfold Tt at h
 grind
def AC (P:Program) (t:TypeId) (f:Nat):Option (Nat×TypeId):=match P.underlying t with
 | some (.struct fs)=>(fs[f]?).map fun x=>(x.offset,x.type)
 | _=>none
def D_ (P:Program) (t:TypeId):Option TypeId:=match P.underlying t with
 | some (.slice e)=>some e
 | _=>none
theorem IB {P:Program} {t:TypeId} {n:Nat} (h:Ac P t=some n) (w:World):(sizeOf t).run P w = .ok n w:=by
 unfold Ac at h
 cases hi:P.info? t with
 | none=>grind
 | some i=>simp[hi] at h; simp[sizeOf,typeInfo,hi,h]
theorem U8 {P:Program} {t:TypeId} {g:Bool} (h:Bl P t=some g) (w:World):(isAgg t).run P w = .ok g w:=by
 unfold Bl at h
 cases hu:P.underlying t with
 | none=>grind
 | some d =>
  simp only[hu,bY,ak] at h
  subst h
  simp only[isAgg,Sem.run_bind,run_underlying hu,Result.andThen_ok]
  cases d<;>rfl
theorem U9 {P:Program} {t:TypeId} {cs:List Value} (h:OJ P t=some cs) (w:World):∃ z,(zeroValue t).run P w = .ok z w∧z.cells.toList=cs:=by
 unfold OJ at h
 cases hi:P.info? t with
 | none=>grind
 | some i =>
  cases hz:i.zero with
  | none=>grind
  | some z=>simp[hi,hz] at h; exact⟨z,by simp[zeroValue,typeInfo,hi,hz],h⟩
def WV (v:Value):AV:=match v with
 | .agg cs=>.agg (cs.toList.map .v)
 | .tuple vs=>if vs.toList.isEmpty then .undef else .un
 | v=>.c (.v v)
def mZ (v:Value):Bool:=match v with
 | .agg cs=>cs.toList.all QN
 | .tuple _=>true
 | v=>QN v
def Ak:Operand→Bool
 | .tmp t=>decide (t<1000000)
 | .const v=>mZ v
 | _=>true
def unpin:AV→AV
 | .pin x _=>x
 | .c x=>.c x
 | .agg xs=>.agg xs
 | .lp l i off=>.lp l i off
 | .ip xs=>.ip xs
 | .tup xs=>.tup xs
 | .undef=>.undef
 | .un=>.un
 | .clo f xs=>.clo f xs
 | .vw x i n m=>.vw x i n m
theorem AVR.unpin {w:World} {St:Nat→Nat→Prop} {st:List Ob} {β:Nat→Option Nat} {x:AV} {u:Value} (h:AVR w St st β x u):AVR w St st β (unpin x) u:=by
 cases x with
 | pin x u0=>simp only[AVR] at h; exact h.2
 | _=>exact h
def Ei (s:MS):Operand→AV
 | .tmp t=>unpin (Bi s.env t)
 | .const v=>WV v
 | .global g=>.c (.v (.pointer (some ⟨g,0,none⟩)))
 | .func f=>.c (.v (.func (.func f) #[] #[]))
theorem ABM {w:World} {St:Nat→Nat→Prop} {st:List Ob} {β:Nat→Option Nat} (v:Value) (hv:mZ v=true):AVR w St st β (WV v) v:=by
 cases v with
 | agg cs =>
  simp only[WV,AVR]
  simp only[mZ] at hv
  refine⟨cs.toList,AOR,AOR,fun k c hk=>?_⟩
  simp only[mW,zf] at hk
  obtain⟨y,hy,rfl⟩:=hk
  refine⟨y,hy, ?_⟩
  simp only[RdC,RdD,true_and]
  grind
 | tuple vs =>
  simp only[WV]
  split
  ·rename_i h
   have:vs = #[]:=by cases vs; simp_all
   subst this
   simp only[AVR]; rfl
  ·simp only[AVR]
 | _=>simp only[WV,AVR,RdC,RdD,true_and]; exact hv
theorem CO {w0:Bs} {St0 St:Nat→Nat→Prop} {β:Nat→Option Nat} {s:MS} {a:Act} {w:World} (h:Core w0 St0 St β s a w) (x:Operand) (hx:Ak x=true):AVR w St s.st β (Ei s x) (a.eval x):=by
 cases x with
 | tmp t =>
  have:=h.env t
  rw[U7 (by simpa [Ak] using hx)] at this
  exact this.unpin
 | const v=>exact ABM v hx
 | global g=>simp[Ei,AVR,RdC,RdD,Act.eval,QN]
 | func f=>simp[Ei,AVR,RdC,RdD,Act.eval,QN]
def cellsA:AV→Option (List Cl)
 | .c x=>some [x]
 | .agg xs=>some xs
 | _=>none
theorem SL {w:World} {St:Nat→Nat→Prop} {st:List Ob} {β:Nat→Option Nat} {x:AV} {u:Value} {cs:List Cl} (h:AVR w St st β x u) (hc:cellsA x=some cs) :
  u.cells.toList.length=cs.length∧∀ (k:Nat) (c:Cl),cs[k]?=some c→∃ y,u.cells.toList[k]?=some y∧RdC w St st β c y:=by
 cases x with
 | c x =>
  simp only[cellsA,ak] at hc
  subst hc
  simp only[AVR] at h
  have h1:u.oneCell'=true:=by
   exact ALi
  have h2:u.cells = #[u]:=by cases u<;>first | rfl | simp[Value.oneCell'] at h1
  grind
 | agg xs =>
  simp only[cellsA,ak] at hc
  subst hc
  simp only[AVR] at h
  obtain⟨us,rfl,h2,h3⟩:=h
  exact⟨by simpa [Value.cells] using h2,fun k c hk=>by simpa [Value.cells] using h3 k c hk⟩
 | _=>simp[cellsA] at hc
theorem RdC.one {w:World} {St:Nat→Nat→Prop} {st:List Ob} {β:Nat→Option Nat} {x:Cl} {u:Value} (h:RdC w St st β x u):u.oneCell'=true:=by
 exact ALi
theorem RdB.one {w:World} {St:Nat→Nat→Prop} {st:List Ob} {β:Nat→Option Nat} {x:Cl} {u:Value} (h:RdB w St st β x u):u.oneCell'=true:=by
 cases x with
 | ow ty sz xs=>exact h
 | v y=>exact RdC.one (w:=w) (St:=St) (st:=st) (β:=β) (x:=.v y) h
 | sl xs=>exact RdC.one (w:=w) (St:=St) (st:=st) (β:=β) (x:=.sl xs) h
 | ref l=>exact RdC.one (w:=w) (St:=St) (st:=st) (β:=β) (x:=.ref l) h
def Cf (st:List Ob) (l:Nat):Option Ob:=match st[l]? with
 | some ob=>if ob.live then some ob else none
 | none=>none
theorem Bo {st:List Ob} {l:Nat} {ob:Ob} (h:Cf st l=some ob):st[l]?=some ob∧ob.live=true:=by
 unfold Cf at h
 grind
def TL (st:List Ob):Cl→Option (List (List Cl))
 | .v (.slice none 0 0)=>some []
 | .v _=>none
 | .sl xs=>some xs
 | .ref l=>(Cf st l).map (·.xs)
 | .ow _ _ _=>none
def fzC (st:List Ob):Cl→Option Cl
 | .v (.slice none 0 0)=>some (.sl [])
 | .v (.slice _ _ _)=>none
 | .v x=>some (.v x)
 | .sl xs=>some (.sl xs)
 | .ref l=>match Cf st l with
  | some ob=>if Gq ob.xs then some (.sl ob.xs) else none
  | none=>none
 | .ow _ _ _=>none
def QO (st:List Ob) (l:Nat):List Ob:=st.modify l fun ob=>{ ob with wr:=false }
def sH (st:List Ob):Cl→List Ob
 | .ref l=>QO st l
 | _=>st
theorem Fh {xs:List (List Cl)} {sz:Nat} (hl:∀ x∈xs,x.length=sz):∀ (i j:Nat) (x:List Cl) (c:Cl),xs[i]?=some x→x[j]?=some c→xs.flatten[i*sz+j]?=some c:=by
 induction xs with
 | nil=>grind
 | cons x0 xs ih =>
  intro i j x c hi hj
  have h0:x0.length=sz:=hl x0 AOR
  simp only[df]
  cases i with
  | zero =>
   grind
  | succ i =>
   grind
theorem EK {xs:List (List Cl)} {sz:Nat} (hl:∀ x∈xs,x.length=sz):xs.flatten.length=xs.length*sz:=by
 induction xs with
 | nil=>simp
 | cons x xs ih =>
  grind
theorem U_ {w:World} {St:Nat→Nat→Prop} {st:List Ob} {β:Nat→Option Nat} {c:Cl} {u:Value} (hp:AB c=true) (h:RdC w St st β c u):RdD w St c u:=by
 cases c with
 | ref l=>simp[AB] at hp
 | v x=>exact h
 | sl xs=>exact h
 | ow ty sz xs=>simp[AB] at hp
theorem LV {c:Cl} (hp:AB c=true):Gm c=false:=by
 cases c<;>simp_all [AB,Gm]
theorem WW {w:World} {st:List Ob} {β:Nat→Option Nat} {l:Nat} (l':Nat) (u:Value):BM w (QO st l) β l' u↔BM w st β l' u:=by
 unfold BM QO
 grind
theorem Core.freeze {w0:Bs} {St0 St:Nat→Nat→Prop} {β:Nat→Option Nat} {s:MS} {a:Act} {w:World} (h:Core w0 St0 St β s a w) (l:Nat) {ob:Ob} (hl:Cf s.st l=some ob) (hp:Gq ob.xs=true) :
  ∃ St',Core w0 St0 St' β ⟨s.n,s.env,QO s.st l⟩ a w∧(∀ b o,St b o→St' b o)∧(∀ u,BM w s.st β l u→RdD w St' (.sl ob.xs) u)∧∀ b,β l=some b→(∀ x∈ob.xs,x.length=ob.sz)∧RdE w St' ob.xs b 0:=by
 obtain⟨hl1,hlive⟩:=Bo hl
 refine⟨fun b o=>St b o∨(β l=some b∧o<ob.xs.length*ob.sz), ?_,fun b o hbo=>.inl hbo, ?_, ?_⟩
 ·have hget:∀ l' ob',(QO s.st l)[l']?=some ob'→∃ ob'',s.st[l']?=some ob''∧ob'.ty=ob''.ty∧ob'.sz=ob''.sz∧ob'.xs=ob''.xs∧ob'.live=ob''.live∧(l=l'→ob'.wr=false)∧(l≠l'→ob'=ob''):=by
   intro l' ob' h'
   unfold QO at h'
   rw[List.getElem?_modify] at h'
   simp only[Option.map_eq_map,zf] at h'
   obtain⟨ob'',h1,h2⟩:=h'
   refine⟨ob'',h1, ?_⟩
   exact ANR
  have hS:∀ b o,St b o→St b o∨(β l=some b∧o<ob.xs.length*ob.sz):=fun b o hbo=>.inl hbo
  have hr:∀ l' u,BM w s.st β l' u→BM w (QO s.st l) β l' u:=fun l' u hu=>(WW l' u).2 hu
  have hp':∀ l' i off u,AVR w St s.st β (.lp l' i off) u→AVR w (fun b o=>St b o∨(β l=some b∧o<ob.xs.length*ob.sz)) (QO s.st l) β (.lp l' i off) u:=by
   intro l' i off u hu
   simp only[AVR] at hu ⊢
   cases hq:(QO s.st l)[l']? with
   | none =>
    unfold QO at hq
    grind
   | some ob' =>
    grind
  exact {
   defers:=h.defers
   size:=h.size
   lim:=h.lim
   env:=fun i=>AVR.mono hS (fun _ _ _=>rfl) hr hp' _ _ (h.env i)
   below:=h.below
   st0:=fun b o hbo=>.inl (h.st0 b o hbo)
   stOld:=fun b o hbo hlt hno=>by
    rcases hbo with hbo | ⟨hβ,_⟩
    ·exact h.stOld b o hbo hlt hno
    ·rcases(h.obs l ob b hl1 hlive hβ).1 with h' | h'
     ·omega
     grind
   stIn:=fun b o hbo=>by
    rcases hbo with hbo | ⟨hβ,_⟩
    ·exact h.stIn b o hbo
    ·exact(h.obs l ob b hl1 hlive hβ).2.1
   obs:=fun l' ob' b hl' hlive' hβ=>by
    obtain⟨ob'',h1,h2,h3,h4,h5,_⟩:=hget l' ob' hl'
    obtain⟨h6,h7,h8⟩:=h.obs l' ob'' b h1 AOT hβ
    refine⟨h6,h7, ?_⟩
    obtain⟨cs,g1,g2,g3⟩:=ObR.mono hS (fun _ _ _=>rfl) hr rfl h8
    exact⟨cs,AOT,AOT,AOT⟩
   nil:=fun l' ob' hl' hlive' hβ=>by
    obtain⟨ob'',h1,_,_,h4,h5,_⟩:=hget l' ob' hl'
    rw[h4]; exact h.nil l' ob'' h1 AOT hβ
   inj:=fun l1 l2 o1 o2 b h1 h2 h3 h4 h5 h6=>by
    obtain⟨p1,q1,_,_,_,r1,_⟩:=hget l1 o1 h1
    obtain⟨p2,q2,_,_,_,r2,_⟩:=hget l2 o2 h2
    exact h.inj l1 l2 p1 p2 b q1 q2 AOT AOT h5 h6
   sep:=fun l' ob' b o hl' hlive' hβ hbo=>by
    obtain⟨ob'',h1,_,h3,h4,h5,h6,h7⟩:=hget l' ob' hl'
    rcases hbo with hbo | ⟨hβl,ho⟩
    ·have:=h.sep l' ob'' b o h1 AOT hβ hbo
     grind
    ·have e:l=l':=h.inj l l' ob ob'' b hl1 h1 hlive AOT hβl hβ
     grind
   own:=by
    refine h.own.move id (fun x hx=>⟨⟨hx.1,hx.2.1,hx.2.2.1,fun o ho=>?_,fun l' o' hl' hlv=>by
     obtain⟨o2,g1,_,_,_,g5,_⟩:=hget l' o' hl'
     exact hx.2.2.2.2 l' o2 g1 AOT⟩,rfl⟩) hS (fun _ _ _=>rfl) (fun l' ob' b k c h1 h2 h3 h4 h5=>?_) (fun _ _ _ _ _ _ _ _ e=>e)
    ·rcases ho with ho | ⟨hβ,_⟩
     ·exact hx.2.2.2.1 o ho
     ·exact hx.2.2.2.2 l ob hl1 hlive hβ
    grind }
 ·intro u hu
  unfold BM at hu
  simp only[hl1] at hu
  have hu2:=hu.2 hlive
  cases hβ:β l with
  | none =>
   simp only[hβ] at hu2
   obtain⟨rfl,hx⟩:=hu2
   simp only[RdD]
   exact⟨none,0,APc,APc,by simp[maxLen],⟨0,APc⟩,.inl hx⟩
  | some b =>
   simp only[hβ] at hu2
   obtain⟨cap,cs,rfl,h2,h3,h4,h5⟩:=hu2
   obtain⟨_,_,cs',g1,g2,g3⟩:=h.obs l ob b hl1 hlive hβ
   simp only[RdD]
   refine⟨some ⟨b,0,none⟩,cap,rfl,h2,h3,⟨ob.sz,g2⟩,.inr ⟨b,0,rfl, ?_⟩⟩
   refine AEK ob.sz g2 fun i x hi=>AEM fun j c hj=>?_
   have hf:=Fh g2 i j x c hi hj
   obtain⟨v,hv,hc⟩:=g3 _ c hf
   have hlt:i*ob.sz+j<ob.xs.length*ob.sz:=by
    exact ANi
   have hpc:AB c=true:=by
    have h1:C_ x=true:=aJ.1 hp x (bC hi)
    exact aJ.1 h1 c (bC hj)
   refine⟨.inr ⟨rfl,AOQ⟩,v, ?_, ?_⟩
   ·rw[World.cell?,g1]
    grind
   ·exact ANZ
 ·intro b hβ
  obtain⟨_,_,cs',g1,g2,g3⟩:=h.obs l ob b hl1 hlive hβ
  refine⟨g2, ?_⟩
  refine AEK ob.sz g2 fun i x hi=>AEM fun j c hj=>?_
  have hf:=Fh g2 i j x c hi hj
  obtain⟨v,hv,hc⟩:=g3 _ c hf
  have hlt:i*ob.sz+j<ob.xs.length*ob.sz:=by
   exact ANi
  have hpc:AB c=true:=by
   have h1:C_ x=true:=aJ.1 hp x (bC hi)
   exact aJ.1 h1 c (bC hj)
  refine⟨.inr ⟨hβ,AOQ⟩,v, ?_, ?_⟩
  ·rw[World.cell?,g1]
   grind
  ·exact ANZ
def Zn (k:IntKind) (x y:Int):Int:=((BitVec.ofInt k.bits x &&& BitVec.ofInt k.bits y).toNat:Int)
def orK (k:IntKind) (x y:Int):Int:=((BitVec.ofInt k.bits x ||| BitVec.ofInt k.bits y).toNat:Int)
def AG_ (op:BinOp) (k:IntKind) (x y:Int):Option Value:=match op with
 | .add=>some (.int k (k.wrap (x+y)))
 | .sub=>some (.int k (k.wrap (x-y)))
 | .mul=>some (.int k (k.wrap (x*y)))
 | .quo=>if y=0 then none else some (.int k (k.wrap (x.tdiv y)))
 | .rem=>if y=0 then none else some (.int k (k.wrap (x.tmod y)))
 | .and=>some (.int k (k.wrap (Zn k x y)))
 | .or=>some (.int k (k.wrap (orK k x y)))
 | .eql=>some (.bool (x==y))
 | .neq=>some (.bool (x != y))
 | .lss=>some (.bool (decide (x<y)))
 | .leq=>some (.bool (decide (x≤y)))
 | .gtr=>some (.bool (decide (x>y)))
 | .geq=>some (.bool (decide (x≥y)))
 | _=>none
def AHA (op:BinOp) (x y:ByteArray):Option Value:=match op with
 | .add=>if x.size+y.size≤maxLen then some (.string (x++y)) else none
 | .eql=>some (.bool (x.toList==y.toList))
 | .neq=>some (.bool (!(x.toList==y.toList)))
 | .lss=>some (.bool (Op.bytesLess x.toList y.toList))
 | .leq=>some (.bool (Op.bytesLess x.toList y.toList||x.toList==y.toList))
 | .gtr=>some (.bool (!(Op.bytesLess x.toList y.toList||x.toList==y.toList)))
 | .geq=>some (.bool (!(Op.bytesLess x.toList y.toList)))
 | _=>none
def AEx (P:Program) (op:BinOp) (T:TypeId) (a b:Value):Option Value:=match a,b with
 | .int k x,.int k' y=>match op with
  | .shl=>if y<0 then none else some (.int k (k.wrap (x*2 ^ min y.toNat k.bits)))
  | .shr=>if y<0 then none else some (.int k (k.wrap (x.fdiv (2 ^ min y.toNat k.bits))))
  | op=>if k=k' then AG_ op k x y else none
 | .string x,.string y=>AHA op x y
 | .bool x,.bool y=>match P.underlying T with
  | some .bool=>(match op with
   | .eql=>some (.bool (x==y))
   | .neq=>some (.bool (!(x==y)))
   | _=>none)
  | _=>none
 | _,_=>none
theorem KT {k:IntKind} {n:Int} (h:(Lit.int k n).wf=true):k.wrap n=n:=by
 simp only[Lit.wf,ay,aZ] at h
 obtain⟨h1,h2⟩:=h
 unfold IntKind.wrap
 exact AL2
theorem AEy {k:IntKind} {x y:Int} (h:(Lit.int k x).wf=true):(Lit.int k (x.tmod y)).wf=true:=by
 have h2:(x.tmod y).natAbs≤x.natAbs:=by
  rw[Int.natAbs_tmod]; exact Nat.mod_le _ _
 have h3:0≤x→0≤x.tmod y:=fun h=>Int.tmod_nonneg y h
 have h6:x≤0→x.tmod y≤0:=fun h=>by
  have:=Int.tmod_nonneg (a:=-x) y AOQ
  simp_all
 have h4:x.tmod y≤x∨x.tmod y≤ -x:=AOQ
 have h5:x≤x.tmod y∨ -x≤x.tmod y:=AOQ
 generalize x.tmod y=z at *
 clear h2
 simp only[Lit.wf,ay,aZ] at *
 exact AL2
theorem AEz {k:IntKind} {x:Int} {n:Nat} (h:(Lit.int k x).wf=true):(Lit.int k (x.fdiv (2 ^ n))).wf=true:=by
 have hp:(1:Int)≤2 ^ n:=by
  have:(0:Int)<2 ^ n:=Int.pow_pos AOU
  omega
 have e:x.fdiv (2 ^ n)=x/(2 ^ n):=by
  rw[aaJ _ AOQ]
 have h1:0≤x→0≤x/(2 ^ n)∧x/(2 ^ n)≤x:=fun hx=>⟨Int.ediv_nonneg hx AOQ,Int.ediv_le_self _ hx⟩
 have h2:x<0→x≤x/(2 ^ n)∧x/(2 ^ n)<0:=fun hx=>by
  refine⟨?_,Int.ediv_neg_of_neg_of_pos hx AOQ⟩
  rw[Int.le_ediv_iff_mul_le AOQ]
  have h:=aaZ (show 0≤ -x from AOQ) (show (0:Int)≤2 ^ n-1 from AOQ)
  grind
 rw[e]
 simp only[Lit.wf,ay,aZ] at *
 exact AL2
theorem AE0 {P:Program} {op:BinOp} {T:TypeId} {a b r:Value} (ha:QN a=true) (h:AEx P op T a b=some r) (x y:Operand) (w:World) :
  (do eqGuard op T x y a b; binOp op T a b:Sem Value).run P w = .ok r w∧QN r=true:=by
 unfold AEx at h
 split at h
 ·rename_i k x' k' y'
  have hg:(eqGuard op T x y (.int k x') (.int k' y')).run P w = .ok () w:=by
   unfold eqGuard; cases op<;>simp
  simp only[Sem.run_bind,hg,Result.andThen_ok]
  simp only[QN] at ha
  split at h
  ·split at h
   ·cases h
   ·simp only[ak] at h; subst h
    rename_i hy
    refine⟨?_,AO0⟩
    simp[binOp,Op.shift,hy]
  ·split at h
   ·cases h
   ·simp only[ak] at h; subst h
    rename_i hy
    refine⟨?_,AO0⟩
    have:=KT (AEz (n:=min y'.toNat k.bits) ha)
    simp[binOp,Op.shift,hy,this]
  ·split at h
   ·rename_i hn1 hn2 hk
    subst hk
    unfold AG_ at h
    cases op<;>simp only[ak] at h<;>first
     | (cases h; done)
     | (subst h; refine⟨by simp[binOp,Op.intArith,Op.intCmp,Op.intBits,Zn,orK], ?_⟩; first | rfl | exact Go.wf_wrap _ _)
     | (
       split at h
       ·cases h
       ·simp only[ak] at h; subst h
        rename_i hy
        refine⟨?_,AO0⟩
        have:=KT (AEy (y:=y') ha)
        simp[binOp,Op.intDiv,hy,this])
     | skip
   ·cases h
 ·rename_i x' y'
  have hg:(eqGuard op T x y (.string x') (.string y')).run P w = .ok () w:=by
   unfold eqGuard; cases op<;>simp
  simp only[Sem.run_bind,hg,Result.andThen_ok]
  unfold AHA at h
  cases op<;>simp only[ak] at h<;>first
   | (cases h; done)
   | (subst h; refine⟨by simp[binOp,Op.stringOp],rfl⟩)
   | (
     split at h
     ·rename_i hs
      simp only[ak] at h; subst h
      have hs':¬ (IntKind.i64.max<((x'.size+y'.size:Nat):Int)):=by simp only[maxLen] at hs; simp[IntKind.max,IntKind.signed,IntKind.bits]; omega
      refine⟨?_, ?_⟩
      ·simp only[binOp,Op.stringOp,gt_iff_lt,bz hs',Sem.run_pure]
      ·simp only[QN,aZ]; grind
     ·cases h)
 ·rename_i x' y'
  have hg:(eqGuard op T x y (.bool x') (.bool y')).run P w = .ok () w:=by
   unfold eqGuard; cases op<;>simp
  simp only[Sem.run_bind,hg,Result.andThen_ok]
  split at h
  ·rename_i hu
   cases op<;>simp only[ak] at h<;>first
    | (cases h; done)
    | (
      subst h
      refine⟨?_,rfl⟩
      have he:(Op.equal T (.bool x') (.bool y')).run P w = .ok (x'==y') w:=by
       unfold Op.equal Op.maxDepth
       rw[Op.equalIn]
       simp[run_underlying hu]
      first
       | (show ((do pure (.bool (← Op.equal T (.bool x') (.bool y')))):Sem Value).run P w=_; simp_all)
       | (show ((do pure (.bool (!(← Op.equal T (.bool x') (.bool y'))))):Sem Value).run P w=_; simp_all))
  ·cases h
 ·cases h
def aUn (op:UnOp) (a:Value):Option Value:=match op,a with
 | .neg,.int k n=>some (.int k (k.wrap (0-n)))
 | .not,.bool b=>some (.bool !b)
 | _,_=>none
theorem AHB {P:Program} {op:UnOp} {a r:Value} (h:aUn op a=some r) (w:World):(Op.unary op a).run P w = .ok r w∧QN r=true:=by
 unfold aUn at h
 split at h<;>(try simp only[ak] at h)<;>first
  | (subst h; exact⟨by simp[Op.unary,Op.intArith],AO0⟩)
  | (subst h; exact⟨by simp[Op.unary],rfl⟩)
  | cases h
inductive Kd where
 | bool
 | int (k:IntKind)
 | str
def AC6 (P:Program) (t:TypeId):Option Kd:=match P.underlying t with
 | some .bool=>some .bool
 | some (.int k)=>some (.int k)
 | some .string=>some .str
 | _=>none
def flatK (P:Program):List Field→Nat→Option (List Kd)
 | [],_=>some []
 | f::fs,i=>match AC6 P f.type,flatK P fs (i+1) with
  | some k, some ks => if f.offset = i ∧ f.name ≠ "_" then some (k :: ks) else none
  | _,_=>none
def Yj (P:Program) (T:TypeId):Option (List Kd):=match P.underlying T with
 | some (.struct fs)=>if P.eqGuardType P.depth T=false∧P.stoodInHeld T=false then flatK P fs.toList 0 else none
 | _=>none
def IL:Kd→Cl→Cl→Option Bool
 | .bool,.v (.bool a),.v (.bool b)=>some (a==b)
 | .int k,.v (.int k1 a),.v (.int k2 b)=>if k1=k∧k2=k then some (a==b) else none
 | .str,.v (.string a),.v (.string b)=>some (a.toList==b.toList)
 | _,_,_=>none
def ES:List Kd→List Cl→List Cl→Option Bool
 | [],[],[]=>some true
 | k::ks,c::cs,d::ds=>match IL k c d,ES ks cs ds with
  | some b,some r=>some (b&&r)
  | _,_=>none
 | _,_,_=>none
theorem xY {P:Program} {t:TypeId} {k:Kd} (h:AC6 P t=some k):P.plainKey t=true:=by
 unfold AC6 at h
 unfold Program.plainKey
 grind
theorem AHC {P:Program} {w:World} {t:TypeId} {k:Kd} {c d:Cl} {b:Bool} (hk:AC6 P t=some k) (h:IL k c d=some b) (n:Nat):∃ x y,c = .v x∧d = .v y∧(Op.equalIn (n+1) t x y).run P w = .ok b w:=by
 unfold IL at h
 unfold AC6 at hk
 split at h
 ·grind [ak,run_equalIn_bool]
 ·rename_i q k1 a k2 a'
  split at h
  ·rename_i hkk
   obtain⟨rfl,rfl⟩:=hkk
   simp only[ak] at h
   subst h
   split at hk<;>simp_all
   rename_i hu
   simp[Op.equalIn,run_underlying hu]
  ·cases h
 ·rename_i a a'
  simp only[ak] at h
  subst h
  split at hk<;>simp_all
  rename_i hu
  rw[← beq_toListBytes]
  simp[Op.equalIn,run_underlying hu]
 ·cases h
theorem Xm {P:Program} {w:World} (n:Nat) {us vs:List Value}:∀ (fs:List Field) (i:Nat) (ks:List Kd) (cs ds:List Cl) (r:Bool),flatK P fs i=some ks→ES ks cs ds=some r →
  (∀ (k:Nat) (x:Value),cs[k]?=some (.v x)→us[i+k]?=some x)→(∀ (k:Nat) (x:Value),ds[k]?=some (.v x)→vs[i+k]?=some x)→(Op.eqFields (n+1) us.toArray vs.toArray fs).run P w = .ok r w
 | [],i,ks,cs,ds,r,hf,hb,hu,hv=>by
  simp only[flatK,ak] at hf
  subst hf
  unfold ES at hb
  split at hb
  ·simp only[ak] at hb
   subst hb
   simp[Op.eqFields]
  ·rename_i he; cases he
  ·cases hb
 | f::fs,i,ks,cs,ds,r,hf,hb,hu,hv=>by
  simp only[flatK] at hf
  split at hf
  ·rename_i k ks' hk hks
   split at hf
   ·rename_i hc
    obtain⟨hoff,hname⟩:=hc
    simp only[ak] at hf
    subst hf
    cases cs with
    | nil=>simp[ES] at hb
    | cons c cs =>
     cases ds with
     | nil=>simp[ES] at hb
     | cons d ds =>
      simp only[ES] at hb
      split at hb
      ·rename_i b r' hb1 hb2
       simp only[ak] at hb
       subst hb
       obtain⟨x,y,rfl,rfl,heq⟩:=AHC (w:=w) hk hb1 n
       have hp:=xY hk
       have p1:(part f.type us.toArray f.offset).run P w = .ok x w:=run_part_plain w hp (by rw[hoff]; simpa using hu 0 x rfl)
       have p2:(part f.type vs.toArray f.offset).run P w = .ok y w:=run_part_plain w hp (by rw[hoff]; simpa using hv 0 y rfl)
       have ih:=Xm (w:=w) n fs (i+1) ks' cs ds r' hks hb2 (fun k z hz=>by
        have:=hu (k+1) z (by simpa using hz)
        rwa [show i+(k+1)=i+1+k from AOQ] at this) (fun k z hz=>by
        have:=hv (k+1) z (by simpa using hz)
        rwa [show i+(k+1)=i+1+k from AOQ] at this)
       simp only[Op.eqFields,hname,ne_eq,not_false_eq_true,bf,Sem.run_bind,p1,p2,heq,Result.andThen_ok,Sem.run_ite]
       cases b with
       | true=>simpa using ih
       | false=>simp
      ·cases hb
   ·cases hf
  ·cases hf
theorem sJ {P:Program} {w:World} {T:TypeId} {ks:List Kd} {cs ds:List Cl} {r:Bool} {us vs:List Value} (hs:Yj P T=some ks) (hb:ES ks cs ds=some r) (hu:∀ (k:Nat) (x:Value),cs[k]?=some (.v x)→us[k]?=some x) (hv:∀ (k:Nat) (x:Value),ds[k]?=some (.v x)→vs[k]?=some x) (x y:Operand) :
  (do eqGuard .eql T x y (.agg us.toArray) (.agg vs.toArray); binOp .eql T (.agg us.toArray) (.agg vs.toArray):Sem Value).run P w = .ok (.bool r) w ∧
   (do eqGuard .neq T x y (.agg us.toArray) (.agg vs.toArray); binOp .neq T (.agg us.toArray) (.agg vs.toArray):Sem Value).run P w = .ok (.bool (!r)) w:=by
 unfold Yj at hs
 split at hs
 ·rename_i fs hut
  split at hs
  ·rename_i hc
   obtain⟨hg,hst⟩:=hc
   have hfo:P.fieldsOf T=fs:=by simp[Program.fieldsOf,hut]
   have heq:(Op.equal T (.agg us.toArray) (.agg vs.toArray)).run P w = .ok r w:=by
    unfold Op.equal Op.maxDepth
    rw[run_equalIn_struct w 9999 T us.toArray vs.toArray AOT hst,hfo]
    exact Xm 9998 fs.toList 0 ks cs ds r hs hb (fun k x hx=>AOT) (fun k x hx=>AOT)
   constructor
   ·simp[eqGuard,run_program,hg,binOp,heq]
   ·simp[eqGuard,run_program,hg,binOp,heq]
  ·cases hs
 ·cases hs
def OM (row:List Cl) (off n:Nat) (g:Bool):Option AV:=
 if g then(if off+n≤row.length then some (.agg ((row.drop off).take n)) else none)
 else match row[off]? with
  | some c=>some (.c c)
  | none=>none
def J_:AV→Bool
 | .c x=>!Gm x
 | .agg xs=>xs.all fun c=>!Gm c
 | _=>true
def KU (x:AV):Option Nat:=match x with
 | .c (.v (.int _ n))=>if 0≤n then some n.toNat else none
 | _=>none
def AGJ (t:Bool) (x y:AV):AV:=match t with
 | true=>x
 | false=>y
def Qi:List (List Cl)→Option (List Int)
 | []=>some []
 | [.v (.int .u8 n)]::r=>match Qi r with
  | some ns=>some (n::ns)
  | none=>none
 | _::_=>none
def Io (P:Program) (s:MS) (op:Op):Option AV:=match op with
 | .move x=>some (Ei s x)
 | .assign x=>some (Ei s x)
 | .pick c x y=>match Ei s c with
  | .c (.v (.bool t))=>some (AGJ t (Ei s x) (Ei s y))
  | _=>none
 | .load T a=>match Ac P T,Bl P T with
  | some n,some g=>match Ei s a with
   | .lp l i off=>match Cf s.st l with
    | some ob=>match ob.xs[i]? with
     | some row=>match OM row off n g with
      | some y=>if J_ y=true then some y else none
      | none=>none
     | none=>none
    | none=>none
   | .ip row=>OM row 0 n g
   | _=>none
  | _,_=>none
 | .nilCheck x=>match Ei s x with
  | .lp l i off=>match Cf s.st l with
   | some _=>some (.lp l i off)
   | none=>none
  | .ip row=>some (.ip row)
  | .c (.v (.func (.func f) a b))=>some (.c (.v (.func (.func f) a b)))
  | _=>none
 | .binOp op T x y _=>match Ei s x,Ei s y with
  | .c (.v a),.c (.v b)=>match AEx P op T a b with
   | some r=>some (.c (.v r))
   | none=>none
  | .agg cs,.agg ds=>match Yj P T with
   | some ks=>match ES ks cs ds with
    | some r=>match op with
     | .eql=>some (.c (.v (.bool r)))
     | .neq=>some (.c (.v (.bool (!r))))
     | _=>none
    | none=>none
   | none=>none
  | _,_=>none
 | .unOp op _ x=>match Ei s x with
  | .c (.v a)=>match aUn op a with
   | some r=>some (.c (.v r))
   | none=>none
  | _=>none
 | .convert src dst x=>match P.underlying src,P.underlying dst,Ei s x with
  | some _,some (.int k),.c (.v (.int _ n))=>some (.c (.v (.int k (k.wrap n))))
  | some _,some .string,.c (.v (.string b))=>some (.c (.v (.string b)))
  | some (.slice e),some .string,.c d=>match P.underlying e,TL s.st d with
   | some (.int .u8),some xs=>match Qi xs with
    | some ns=>some (.c (.v (.string (strOfNums ns))))
    | none=>none
   | _,_=>none
  | _,_,_=>none
 | .fieldAddr T x f=>match AC P T f with
  | some (fo,ft)=>match Ac P ft with
   | some (_+1)=>match Ei s x with
    | .lp l i off=>match Cf s.st l with
     | some _=>some (.lp l i (off+fo))
     | none=>none
    | .ip row=>some (.ip (row.drop fo))
    | _=>none
   | _=>none
  | none=>none
 | .field T x f=>match AC P T f with
  | some (fo,ft)=>match Ac P ft,Bl P ft,Ei s x with
   | some n,some g,.agg row=>OM row fo n g
   | _,_,_=>none
  | none=>none
 | .indexAddr T x ix=>match D_ P T with
  | some e=>match Ac P e,KU (Ei s ix) with
   | some n,some k=>match Ei s x with
    | .c (.sl xs)=>match xs[k]? with
     | some row=>if row.length=n then some (.ip row) else none
     | none=>none
    | .c (.ref l)=>match Cf s.st l with
     | some ob=>if k<ob.xs.length∧ob.sz=n then some (.lp l k 0) else none
     | none=>none
    | _=>none
   | _,_=>none
  | none=>none
 | .index T x ix=>match P.underlying T with
  | some .string=>match Ei s x,KU (Ei s ix) with
   | .c (.v (.string b)),some k=>match b[k]? with
    | some c=>some (.c (.v (.int .u8 c.toNat)))
    | none=>none
   | _,_=>none
  | _=>none
 | .extract x ix=>match Ei s x with
  | .tup xs=>xs[ix]?
  | _=>none
 | .call c=>match c.callee with
  | .builtin .len=>match c.argTypes.toList,c.args.toList with
   | [t],[x]=>match P.underlying t,Ei s x with
    | some .string,.c (.v (.string b))=>some (.c (.v (.int .i64 b.size)))
    | some (.slice _),.c d=>match TL s.st d with
     | some xs=>some (.c (.v (.int .i64 xs.length)))
     | none=>none
    | _,_=>none
   | _,_=>none
  | .builtin .min=>match c.args.toList with
   | [x,y]=>match Ei s x,Ei s y with
    | .c (.v (.int .i64 a)),.c (.v (.int .i64 b))=>some (.c (.v (.int .i64 (if b<a then b else a))))
    | _,_=>none
   | _=>none
  | .builtin .max=>match c.args.toList with
   | [x,y]=>match Ei s x,Ei s y with
    | .c (.v (.int .i64 a)),.c (.v (.int .i64 b))=>some (.c (.v (.int .i64 (if a<b then b else a))))
    | _,_=>none
   | _=>none
  | _=>none
 | _=>none
theorem addr_add (b o j:Nat):(⟨b,o,none⟩:Addr).add j=⟨b,o+j,none⟩:=by
 unfold Addr.add; grind
theorem Jn {R:Cl→Value→Prop} {w:World} {b:Nat}:∀ (xs:List Cl) (o:Nat),(∀ (j:Nat) (c:Cl),xs[j]?=some c→∃ u,w.cell? ⟨b,o+j,none⟩=some u∧R c u) →
  ∃ us:List Value,us.length=xs.length∧∀ (j:Nat) (c:Cl),xs[j]?=some c→∃ u,us[j]?=some u∧w.cell? ⟨b,o+j,none⟩=some u∧R c u
 | [],_,_=>⟨[],rfl,fun j c h=>AOx⟩
 | x::xs,o,h=>by
  obtain⟨us,h1,h2⟩:=Jn xs (o+1) fun j c hj=>by
   have:=h (j+1) c AOT
   rwa [show o+(j+1)=o+1+j from AOQ] at this
  obtain⟨u,hu⟩:=h 0 x rfl
  refine⟨u::us,by simp[h1],fun j c hj=>?_⟩
  grind
section
variable {P:Program} {w:World} {St:Nat→Nat→Prop} {st:List Ob} {β:Nat→Option Nat}
theorem ABN {row:List Cl} {off n:Nat} {g:Bool} {x:AV} (h:∀ (j:Nat) (c:Cl),row[j]?=some c→Gm c=false) (hx:OM row off n g=some x):J_ x=true:=by
 unfold OM at hx
 cases g with
 | true =>
  simp only[bf] at hx
  split at hx
  ·simp only[ak] at hx
   subst hx
   simp only[J_,aJ]
   grind [abb,xR,ru]
  ·cases hx
 | false =>
  simp only[aB,aX] at hx
  split at hx
  ·rename_i c hc
   simp only[ak] at hx
   subst hx
   simp[J_,h _ c hc]
  ·cases hx
theorem zh {row:List Cl} {b o off n:Nat} {g:Bool} {T:TypeId} {x:AV} (hcells:∀ (j:Nat) (c:Cl),row[j]?=some c→∃ u,w.cell? ⟨b,o+j,none⟩=some u∧RdB w St st β c u)
  (hs:Ac P T=some n) (hg:Bl P T=some g) (hx:OM row off n g=some x) (hno:J_ x=true) :
  ∃ v,(Instr.loadAt T (.pointer (some ⟨b,o+off,none⟩))).run P w = .ok v w∧AVR w St st β x v:=by
 unfold OM at hx
 cases g with
 | true =>
  simp only[bf] at hx
  split at hx
  ·rename_i hle
   simp only[ak] at hx
   subst hx
   obtain⟨us,h1,h2⟩:=Jn (R:=RdC w St st β) (w:=w) (b:=b) ((row.drop off).take n) (o+off) (fun j c hj=>by
    rw[aaB] at hj
    split at hj
    ·rw[aaY] at hj
     obtain⟨u,hu,hr⟩:=hcells _ c hj
     rw[show o+(off+j)=o+off+j from AOQ] at hu
     refine⟨u,hu,hr.toC ?_⟩
     simp only[J_,aJ] at hno
     have hcm:=hno c (bC (i:=j) AOT)
     grind
    ·cases hj)
   have hlen:us.length=n:=by rw[h1]; simp; omega
   have hl:(loadCells ⟨b,o+off,none⟩ us.length).run P w = .ok us.toArray w:=
    run_loadCells_list (P:=P) w ⟨b,o+off,none⟩ us (fun j v hv=>by
     rw[addr_add]
     have hj:j<((row.drop off).take n).length:=by
      rw[← h1]
      rcases bV j us.length with h' | h'
      ·exact h'
      ·grind
     obtain⟨u,hu1,hu2,_⟩:=h2 j _ (au hj)
     grind)
   refine⟨.agg us.toArray, ?_, ?_⟩
   ·rw[hlen] at hl
    simp[Instr.loadAt,Instr.sureAddr,loadVar,U8 hg,IB hs,hl]
   ·simp only[AVR]
    grind
  ·cases hx
 | false =>
  simp only[aB,aX] at hx
  split at hx
  ·rename_i c hc
   simp only[ak] at hx
   subst hx
   obtain⟨u,hu1,hu2⟩:=hcells off c hc
   have hu3:=hu2.toC (by simpa [J_] using hno)
   refine⟨u, ?_,by simpa only[AVR] using hu3⟩
   simp[Instr.loadAt,Instr.sureAddr,loadVar,U8 hg,hu1]
  ·cases hx
theorem AE1 {row:List Cl} {us:List Value} {off n:Nat} {g:Bool} {T:TypeId} {x:AV} (hl:us.length=row.length) (hcells:∀ (j:Nat) (c:Cl),row[j]?=some c→∃ u,us[j]?=some u∧RdC w St st β c u)
  (hs:Ac P T=some n) (hg:Bl P T=some g) (hx:OM row off n g=some x) :
  ∃ v,(part T us.toArray off).run P w = .ok v w∧AVR w St st β x v:=by
 unfold OM at hx
 cases g with
 | true =>
  simp only[bf] at hx
  split at hx
  ·rename_i hle
   simp only[ak] at hx
   subst hx
   refine⟨.agg (us.toArray.extract off (off+n)),by simp[part,U8 hg,IB hs], ?_⟩
   simp only[AVR]
   grind
  ·cases hx
 | false =>
  simp only[aB,aX] at hx
  split at hx
  ·rename_i c hc
   simp only[ak] at hx
   subst hx
   obtain⟨u,hu1,hu2⟩:=hcells off c hc
   refine⟨u, ?_,by simpa only[AVR] using hu2⟩
   simp[part,U8 hg,hu1]
  ·cases hx
theorem mf:∀ {xs:List AV} {us:List Value},AVRs w St st β xs us→∀ (j:Nat) (x:AV),xs[j]?=some x→∃ u,us[j]?=some u∧AVR w St st β x u
 | [],_,_,j,x,h=>AOx
 | x0::xs,us,h,j,x,hj=>by
  simp only[AVRs] at h
  obtain⟨y,ys,rfl,h1,h2⟩:=h
  cases j with
  | zero=>simp at hj; subst hj; exact⟨y,rfl,h1⟩
  | succ j=>simpa using mf h2 j x (by simpa using hj)
theorem mg {x:AV} {u:Value} {k:Nat} (h:AVR w St st β x u) (hk:KU x=some k):∃ kd,u = .int kd (k:Int):=by
 unfold KU at hk
 split at hk
 ·rename_i kd n
  split at hk
  ·rename_i hn
   simp only[ak] at hk
   simp only[AVR,RdC,RdD] at h
   grind
  ·cases hk
 ·cases hk
theorem OO {v u:Value} (h:AVR w St st β (.c (.v v)) u):u=v∧QN v=true:=by
 simp only[AVR,RdC,RdD] at h
 omega
theorem WX {v:Value} (h:QN v=true):AVR w St st β (.c (.v v)) v:=by
 simp only[AVR,RdC,RdD]
 grind
end
theorem AE2 (c:UInt8):QN (.int .u8 (c.toNat:Int))=true:=by
 have:=c.toNat_lt
 exact AN1
theorem AC7 {n:Nat} (h:n≤maxLen):QN (.int .i64 (n:Int))=true:=by
 simp only[maxLen] at h
 exact AN1
theorem sK {w0:Bs} {St0 St:Nat→Nat→Prop} {β:Nat→Option Nat} {s:MS} {a:Act} {w:World} (_:Core w0 St0 St β s a w) {d:Cl} {u:Value} {xs:List (List Cl)} (hd:RdC w St s.st β d u) (hx:TL s.st d=some xs) :
  ∃ ad cap,u = .slice ad xs.length cap∧xs.length≤cap∧cap≤maxLen:=by
 unfold TL at hx
 split at hx
 ·simp only[ak] at hx
  subst hx
  simp only[RdC,RdD] at hd
  grind
 ·cases hx
 ·simp only[ak] at hx
  subst hx
  simp only[RdC,RdD] at hd
  grind
 ·rename_i l
  cases ho:Cf s.st l with
  | none=>grind
  | some ob =>
   simp only[ho,bY,ak] at hx
   subst hx
   obtain⟨hl,hlive⟩:=Bo ho
   simp only[RdC,BM,hl] at hd
   grind
 ·cases hx
theorem zi {w0:Bs} {St0 St:Nat→Nat→Prop} {β:Nat→Option Nat} {s:MS} {a:Act} {w:World} (h:Core w0 St0 St β s a w) {l i off:Nat} {u:Value} {ob:Ob} (hu:AVR w St s.st β (.lp l i off) u) (ho:Cf s.st l=some ob) :
  ∃ b cs,β l=some b∧u = .pointer (some ⟨b,i*ob.sz+off,none⟩)∧w.heap[b]?=some (.cells cs ob.ty (0,0))∧(∀ x∈ob.xs,x.length=ob.sz) ∧
   (∀ (k:Nat) (c:Cl),ob.xs.flatten[k]?=some c→∃ u,cs[k]?=some u∧RdB w St s.st β c u):=by
 obtain⟨hl,hlive⟩:=Bo ho
 simp only[AVR,hl] at hu
 obtain⟨b,hb,rfl⟩:=hu hlive
 obtain⟨_,_,cs,g1,g2,g3⟩:=h.obs l ob b hl hlive hb
 grind
theorem ABO {w:World} {St:Nat→Nat→Prop} {st:List Ob} {β:Nat→Option Nat} {ob:Ob} {b:Nat} {cs:Array Value} (g1:w.heap[b]?=some (.cells cs ob.ty (0,0))) (g2:∀ x∈ob.xs,x.length=ob.sz)
  (g3:∀ (k:Nat) (c:Cl),ob.xs.flatten[k]?=some c→∃ u,cs[k]?=some u∧RdB w St st β c u) {i:Nat} {row:List Cl} (hi:ob.xs[i]?=some row) :
  ∀ (j:Nat) (c:Cl),row[j]?=some c→∃ u,w.cell? ⟨b,i*ob.sz+j,none⟩=some u∧RdB w St st β c u:=fun j c hj=>by
 obtain⟨u,hu,hc⟩:=g3 _ c (Fh g2 i j row c hi hj)
 exact⟨u,by simp[World.cell?,g1,hu],hc⟩
theorem RdD.toC {w:World} {St:Nat→Nat→Prop} {st:List Ob} {β:Nat→Option Nat} {c:Cl} {u:Value} (h:RdD w St c u):RdC w St st β c u:=by
 cases c with
 | ref l=>simp[RdD] at h
 | v x=>exact h
 | sl xs=>exact h
 | ow ty sz xs=>simp[RdD] at h
theorem Tu {w0:Bs} {St0 St:Nat→Nat→Prop} {β:Nat→Option Nat} {s:MS} {a:Act} {w:World} (h:Core w0 St0 St β s a w) {d:Cl} {u:Value} {xs:List (List Cl)} (hd:RdC w St s.st β d u) (hx:TL s.st d=some xs) :
  ∃ ad cap,u = .slice ad xs.length cap∧(∃ sz,∀ x∈xs,x.length=sz)∧(xs = []∨∃ b off,ad=some ⟨b,off,none⟩∧∀ (k:Nat) (c:Cl),xs.flatten[k]?=some c→∃ v,w.cell? ⟨b,off+k,none⟩=some v∧RdB w St s.st β c v):=by
 unfold TL at hx
 split at hx
 ·simp only[ak] at hx
  subst hx
  simp only[RdC,RdD] at hd
  simp_all
 ·cases hx
 ·simp only[ak] at hx
  subst hx
  simp only[RdC,RdD] at hd
  obtain⟨ad,cap,h1,h2,h3,⟨sz,h4⟩,h5⟩:=hd
  refine⟨ad,cap,h1,⟨sz,h4⟩, ?_⟩
  rcases h5 with rfl | ⟨b,off,rfl,h6⟩
  ·grind
  ·refine .inr ⟨b,off,rfl, ?_⟩
   have key:∀ (xs:List (List Cl)) (off:Nat),RdE w St xs b off→∀ (k:Nat) (c:Cl),xs.flatten[k]?=some c→∃ v,w.cell? ⟨b,off+k,none⟩=some v∧RdB w St s.st β c v:=by
    intro xs
    induction xs with
    | nil=>grind
    | cons x xs ih =>
     intro off hr k c hk
     simp only[RdE] at hr
     simp only[df] at hk
     rcases bV k x.length with h' | h'
     ·rw[bH h'] at hk
      obtain⟨_,v,hv,hc⟩:=hr.1.at k c hk
      exact⟨v,hv,hc.toC.toB⟩
     grind
   grind
 ·rename_i l
  cases ho:Cf s.st l with
  | none=>grind
  | some ob =>
   simp only[ho,bY,ak] at hx
   subst hx
   obtain⟨hl,hlive⟩:=Bo ho
   simp only[RdC,BM,hl] at hd
   have h2:=hd.2 hlive
   split at h2
   ·simp_all
   ·rename_i b hb
    obtain⟨cap,cs,h1,h3,h4,_⟩:=h2
    obtain⟨_,_,cs',g1,g2,g3⟩:=h.obs l ob b hl hlive hb
    refine⟨_,cap,h1,⟨ob.sz,g2⟩,.inr ⟨b,0,rfl,fun k c hk=>?_⟩⟩
    obtain⟨v,hv,hc⟩:=g3 k c hk
    exact⟨v,by simp[World.cell?,g1,hv],hc⟩
 ·cases hx
theorem jW:∀ {xs:List (List Cl)} {ns:List Int},Qi xs=some ns→ns.length=xs.length∧∀ (k:Nat) (n:Int),ns[k]?=some n→xs.flatten[k]?=some (.v (.int .u8 n))
 | [],ns,h=>by
  simp only[Qi,ak] at h
  subst h
  exact⟨rfl,fun k n hk=>APA⟩
 | x::r,ns,h=>by
  unfold Qi at h
  split at h
  ·rename_i he; cases he
  ·rename_i n r' he
   cases he
   split at h
   ·rename_i ns' h'
    simp only[ak] at h
    subst h
    obtain⟨q1,q2⟩:=jW h'
    refine⟨by simp[q1],fun k m hk=>?_⟩
    cases k with
    | zero=>simp only[aV,ak] at hk; subst hk; rfl
    | succ k=>simpa using q2 k m AO1
   ·cases h
  ·cases h
end Go.Vm
namespace Go.Vm
open Go.RowKit
theorem Tv {P:Program} {T:TypeId} {f fo:Nat} {ft:TypeId} (h:AC P T f=some (fo,ft)):∃ (fs:Array Field) (x:Field),P.underlying T=some (.struct fs)∧fs[f]?=some x∧x.offset=fo∧x.type=ft:=by
 unfold AC at h
 grind
theorem Ja {P:Program} {T e:TypeId} (h:D_ P T=some e):P.underlying T=some (.slice e):=by
 unfold D_ at h
 grind
def Gives (P:Program) (a:Act) (w:World) (St:Nat→Nat→Prop) (st:List Ob) (β:Nat→Option Nat) (o:Oper) (x:AV):Prop:=
 ∃ v,(execOp a.eval o).run P w = .ok (.value v) w∧AVR w St st β x v
variable {P:Program} {w0:Bs} {St0 St:Nat→Nat→Prop} {β:Nat→Option Nat} {s:MS} {a:Act} {w:World}
theorem AHD (h:Core w0 St0 St β s a w) (o:Oper) (T:TypeId) (x:Operand) (ho:o.op = .load T x) (hc:Ak x=true) {y:AV} (hy:Io P s (.load T x)=some y):Gives P a w St s.st β o y:=by
 have he:=CO h x hc
 simp only[Io] at hy
 split at hy
 ·rename_i n g hs hg
  split at hy
  ·rename_i l i off hev
   split at hy
   ·rename_i ob hob
    split at hy
    ·rename_i row hrow
     split at hy
     ·rename_i y0 hcut
      split at hy
      ·rename_i hno
       simp only[ak] at hy
       subst hy
       rw[hev] at he
       obtain⟨b,cs,hb,hu,g1,g2,g3⟩:=zi h he hob
       obtain⟨v,hv,hr⟩:=zh (P:=P) (T:=T) (ABO g1 g2 g3 hrow) hs hg hcut hno
       exact⟨v,by simp[execOp,ho,hu,hv],hr⟩
      ·cases hy
     ·cases hy
    ·cases hy
   ·cases hy
  ·rename_i row hev
   rw[hev] at he
   simp only[AVR] at he
   obtain⟨b,off,hu,hr⟩:=he
   obtain⟨v,hv,hr2⟩:=zh (P:=P) (w:=w) (St:=St) (st:=s.st) (β:=β) (T:=T) (row:=row) (b:=b) (o:=off) (off:=0) (fun j c hj=>by
    obtain⟨_,u,hu1,hu2⟩:=hr.at j c hj
    refine⟨u,hu1, ?_⟩
    cases c with
    | ref l=>simp[RdD] at hu2
    | v x=>exact hu2
    | sl xs=>exact hu2
    | ow ty sz xs=>simp[RdD] at hu2) hs hg hy (ABN (fun j c hj=>by
     obtain⟨_,u,hu1,hu2⟩:=hr.at j c hj
     cases c with
     | ow ty sz xs=>simp[RdD] at hu2
     | _=>rfl) hy)
   exact⟨v,by simp only[abA] at hv; simp[execOp,ho,hu,hv],hr2⟩
  ·cases hy
 ·cases hy
theorem AE3 (h:Core w0 St0 St β s a w) (o:Oper) (T:TypeId) (x:Operand) (f:Nat) (ho:o.op = .field T x f) (hc:Ak x=true) {y:AV} (hy:Io P s (.field T x f)=some y):Gives P a w St s.st β o y:=by
 have he:=CO h x hc
 simp only[Io] at hy
 split at hy
 ·rename_i fo ft hf
  split at hy
  ·rename_i n g row hs hg hev
   rw[hev] at he
   simp only[AVR] at he
   obtain⟨us,hu,h1,h2⟩:=he
   obtain⟨fs,fx,q1,q2,q3,q4⟩:=Tv hf
   obtain⟨v,hv,hr⟩:=AE1 (P:=P) h1 h2 hs hg hy
   subst q3 q4
   exact⟨v,by simp[execOp,ho,Instr.field,run_underlying q1,q2,hu,asAgg,hv],hr⟩
  ·cases hy
 ·cases hy
theorem sN (h:Core w0 St0 St β s a w) (o:Oper) (T:TypeId) (x:Operand) (f:Nat) (ho:o.op = .fieldAddr T x f) (hc:Ak x=true) {y:AV} (hy:Io P s (.fieldAddr T x f)=some y):Gives P a w St s.st β o y:=by
 have he:=CO h x hc
 simp only[Io] at hy
 split at hy
 ·rename_i fo ft hf
  obtain⟨fs,fx,q1,q2,q3,q4⟩:=Tv hf
  subst q3 q4
  split at hy
  ·rename_i m hs
   have hrun:∀ b off,(Instr.fieldAt T (.pointer (some ⟨b,off,none⟩)) f).run P w = .ok (.pointer (some ⟨b,off+fx.offset,none⟩)) w:=by
    intro b off
    simp[Instr.fieldAt,run_underlying q1,q2,Instr.sureAddr,fieldPlace,IB hs,addr_add]
   split at hy
   ·rename_i l i off hev
    split at hy
    ·rename_i ob hob
     simp only[ak] at hy
     subst hy
     rw[hev] at he
     obtain⟨b,cs,hb,hu,_⟩:=zi h he hob
     refine⟨_,by simp[execOp,ho,hu,hrun]; rfl, ?_⟩
     obtain⟨hl,_⟩:=Bo hob
     simp only[AVR,hl]
     grind
    ·cases hy
   ·rename_i row hev
    simp only[ak] at hy
    subst hy
    rw[hev] at he
    simp only[AVR] at he
    obtain⟨b,off,hu,hr⟩:=he
    refine⟨_,by simp[execOp,ho,hu,hrun]; rfl, ?_⟩
    simp only[AVR]
    exact⟨b,_,rfl,hr.drop _⟩
   ·cases hy
  ·cases hy
 ·cases hy
theorem run_indexAt {T e:TypeId} {n:Nat} (ht:P.underlying T=some (.slice e)) (hs:Ac P e=some n) {b off len cap k:Nat} {kd:IntKind} (hk:k<len) :
  (Instr.indexAt T (.slice (some ⟨b,off,none⟩) len cap) (.int kd (k:Int))).run P w = .ok (.pointer (some ⟨b,off+k*n,none⟩)) w:=by
 have h1:¬ len≤k:=AOQ
 simp[Instr.indexAt,asIntOf,run_underlying ht,IB hs,addr_add,h1]
theorem sO (h:Core w0 St0 St β s a w) (o:Oper) (T:TypeId) (x ix:Operand) (ho:o.op = .indexAddr T x ix) (hc:Ak x=true) (hc2:Ak ix=true) {y:AV} (hy:Io P s (.indexAddr T x ix)=some y):Gives P a w St s.st β o y:=by
 have he:=CO h x hc
 have hi:=CO h ix hc2
 simp only[Io] at hy
 split at hy
 ·rename_i e hte
  have ht:=Ja hte
  split at hy
  ·rename_i n k hs hk
   obtain⟨kd,hi2⟩:=mg hi hk
   split at hy
   ·rename_i xs hev
    split at hy
    ·rename_i row hrow
     split at hy
     ·rename_i hlen
      simp only[ak] at hy
      subst hy
      rw[hev] at he
      simp only[AVR,RdC,RdD] at he
      obtain⟨ad,cap,hu,h2,h3,⟨sz,h4⟩,h5⟩:=he
      have hkl:k<xs.length:=(aF.1 hrow).1
      rcases h5 with rfl | ⟨b,off,rfl,h6⟩
      ·simp at hkl
      ·have hsz:sz=n:=by rw[← hlen]; exact(h4 row (bC hrow)).symm
       subst hsz
       refine⟨_,by simp[execOp,ho,hu,hi2,run_indexAt ht hs hkl]; rfl, ?_⟩
       simp only[AVR]
       exact⟨b,_,rfl,h6.at sz h4 k row hrow⟩
     ·cases hy
    ·cases hy
   ·rename_i l hev
    split at hy
    ·rename_i ob hob
     split at hy
     ·rename_i hkl
      obtain⟨hkl,hsz⟩:=hkl
      simp only[ak] at hy
      subst hy
      rw[hev] at he
      obtain⟨hl,hlive⟩:=Bo hob
      simp only[AVR,RdC,BM,hl] at he
      have h2:=he.2 hlive
      split at h2
      ·grind
      ·rename_i b hb
       obtain⟨cap,cs,hu,h3,h4,_⟩:=h2
       refine⟨_,by simp[execOp,ho,hu,hi2,run_indexAt ht hs hkl]; rfl, ?_⟩
       simp only[AVR,hl]
       grind
     ·cases hy
    ·cases hy
   ·cases hy
  ·cases hy
 ·cases hy
theorem AI8 (h:Core w0 St0 St β s a w) (o:Oper) (c:Call) (ho:o.op = .call c) (hcl:c.callee = .builtin .len) (hc:c.args.toList.all Ak=true) {y:AV} (hy:Io P s (.call c)=some y):Gives P a w St s.st β o y:=by
 simp only[Io,hcl] at hy
 split at hy
 ·rename_i t x hat hax
  have hx:Ak x=true:=by rw[hax] at hc; simpa using hc
  have he:=CO h x hx
  have ha1:c.argTypes = #[t]:=by have:=congrArg List.toArray hat; simpa using this
  have ha2:c.args = #[x]:=by have:=congrArg List.toArray hax; simpa using this
  split at hy
  ·rename_i b hu hev
   simp only[ak] at hy
   subst hy
   rw[hev] at he
   obtain⟨hv,hw⟩:=OO he
   refine⟨.int .i64 b.size, ?_,WX (AC7 (by simpa [QN] using hw))⟩
   exact ANL
  ·rename_i e d hu hev
   split at hy
   ·rename_i xs hd
    simp only[ak] at hy
    subst hy
    rw[hev] at he
    simp only[AVR] at he
    obtain⟨ad,cap,hv,h1,h2⟩:=sK h he hd
    refine⟨.int .i64 xs.length, ?_,WX (AC7 AOQ)⟩
    exact ANL
   ·cases hy
  ·cases hy
 ·cases hy
theorem AC8 (h:Core w0 St0 St β s a w) (o:Oper) (c:Call) (ho:o.op = .call c) (hcl:c.callee = .builtin .min∨c.callee = .builtin .max) (hc:c.args.toList.all Ak=true) {y:AV} (hy:Io P s (.call c)=some y):Gives P a w St s.st β o y:=by
 rcases hcl with hcl | hcl
 all_goals
  simp only[Io,hcl] at hy
  split at hy
  ·rename_i x x2 hax
   have hx:Ak x=true∧Ak x2=true:=by rw[hax] at hc; simpa using hc
   have he:=CO h x hx.1
   have he2:=CO h x2 hx.2
   have ha2:c.args = #[x,x2]:=by have:=congrArg List.toArray hax; simpa using this
   split at hy
   ·rename_i p q hev hev2
    simp only[ak] at hy
    subst hy
    rw[hev] at he
    rw[hev2] at he2
    obtain⟨hv,hw⟩:=OO he
    obtain⟨hv2,hw2⟩:=OO he2
    refine⟨_, ?_,WX ?_⟩
    rotate_left
    ·grind
    ·simp[execOp,ho,resolve,hcl,ha2,invoke,builtin,Builtin.min_,Builtin.max_,Builtin.min2,Builtin.max2,hv,hv2]
   ·cases hy
  ·cases hy
theorem AE4 (h:Core w0 St0 St β s a w) (o:Oper) (T:TypeId) (x ix:Operand) (ho:o.op = .index T x ix) (hc:Ak x=true) (hc2:Ak ix=true) {y:AV} (hy:Io P s (.index T x ix)=some y):Gives P a w St s.st β o y:=by
 have he:=CO h x hc
 have hi:=CO h ix hc2
 simp only[Io] at hy
 split at hy
 ·rename_i hu
  split at hy
  ·rename_i b k hev hk
   obtain⟨kd,hi2⟩:=mg hi hk
   split at hy
   ·rename_i c hb
    simp only[ak] at hy
    subst hy
    rw[hev] at he
    obtain⟨hv,hw⟩:=OO he
    refine⟨_, ?_,WX (AE2 c)⟩
    simp[execOp,ho,Instr.index,asIntOf,hi2,run_underlying hu,hv,hb]
   ·cases hy
  ·cases hy
 ·cases hy
theorem mi (h:Core w0 St0 St β s a w) (o:Oper) (hc:o.op.operands.toList.all Ak=true) {y:AV} (hy:Io P s o.op=some y):Gives P a w St s.st β o y:=by
 obtain⟨dst,op,type,pos,after,guard⟩:=o
 simp only at hc hy
 cases op with
 | move x =>
  exact AMs
 | assign x =>
  exact AMs
 | pick c x1 x2 =>
  simp[Op.operands] at hc
  have he:=CO h c hc.1
  have h1:=CO h x1 hc.2.1
  have h2:=CO h x2 hc.2.2
  simp only[Io] at hy
  split at hy
  ·rename_i t hev
   simp only[ak] at hy; subst hy
   rw[hev] at he
   obtain⟨hv,_⟩:=OO he
   cases t with
   | true=>exact⟨_,by simp[execOp,hv,asBool],h1⟩
   | false=>exact⟨_,by simp[execOp,hv,asBool],h2⟩
  ·cases hy
 | load T x=>exact AHD h _ T x rfl AOl hy
 | nilCheck x =>
  have he:=CO h x AOl
  simp only[Io] at hy
  split at hy
  ·rename_i l i off hev
   split at hy
   ·rename_i ob hob
    simp only[ak] at hy; subst hy
    rw[hev] at he
    obtain⟨b,cs,hb,hu,_⟩:=zi h he hob
    exact⟨_,by simp[execOp,hu]; rfl,AOT⟩
   ·cases hy
  ·rename_i row hev
   simp only[ak] at hy; subst hy
   rw[hev] at he
   have he':=he
   simp only[AVR] at he'
   obtain⟨b,off,hu,_⟩:=he'
   exact⟨_,by simp[execOp,hu]; rfl,AOT⟩
  ·rename_i f x1 x2 hev
   simp only[ak] at hy; subst hy
   rw[hev] at he
   obtain⟨hv,hw⟩:=OO he
   exact⟨.func (.func f) x1 x2,by simp[execOp,hv],WX hw⟩
  ·cases hy
 | binOp op T x1 x2 T2 =>
  simp[Op.operands] at hc
  have h1:=CO h x1 hc.1
  have h2:=CO h x2 hc.2
  simp only[Io] at hy
  split at hy
  ·rename_i p q hev1 hev2
   split at hy
   ·rename_i r hr
    simp only[ak] at hy; subst hy
    rw[hev1] at h1
    rw[hev2] at h2
    obtain⟨hv1,hw1⟩:=OO h1
    obtain⟨hv2,hw2⟩:=OO h2
    obtain⟨hrun,hwf⟩:=AE0 (P:=P) hw1 hr x1 x2 w
    refine⟨r, ?_,WX hwf⟩
    simp only[execOp,hv1,hv2]
    rw[Sem.run_bind,hrun]
    rfl
   ·cases hy
  ·rename_i cs ds hev1 hev2
   rw[hev1] at h1
   rw[hev2] at h2
   simp only[AVR] at h1 h2
   obtain⟨us,hu1,hu2,hu3⟩:=h1
   obtain⟨vs,hv1,hv2,hv3⟩:=h2
   split at hy
   ·rename_i ks hks
    split at hy
    ·rename_i r hr
     obtain⟨k1,k2⟩:=sJ (w:=w) hks hr (us:=us) (vs:=vs) (fun k x hk=>by
      obtain⟨z,hz,hc⟩:=hu3 k _ hk
      simp only[RdC,RdD] at hc
      rw[hz,hc.1]) (fun k x hk=>by
      obtain⟨z,hz,hc⟩:=hv3 k _ hk
      simp only[RdC,RdD] at hc
      rw[hz,hc.1]) x1 x2
     split at hy
     ·simp only[ak] at hy; subst hy
      refine⟨.bool r, ?_,WX rfl⟩
      simp only[execOp,hu1,hv1]
      rw[Sem.run_bind,k1]
      rfl
     ·simp only[ak] at hy; subst hy
      refine⟨.bool (!r), ?_,WX rfl⟩
      simp only[execOp,hu1,hv1]
      rw[Sem.run_bind,k2]
      rfl
     ·cases hy
    ·cases hy
   ·cases hy
  ·cases hy
 | unOp op T x =>
  have he:=CO h x AOl
  simp only[Io] at hy
  split at hy
  ·rename_i p hev
   split at hy
   ·rename_i r hr
    simp only[ak] at hy; subst hy
    rw[hev] at he
    obtain⟨hv,hw⟩:=OO he
    obtain⟨hrun,hwf⟩:=AHB (P:=P) hr w
    exact⟨r,by simp[execOp,hv,hrun],WX hwf⟩
   ·cases hy
  ·cases hy
 | convert src dst x =>
  have he:=CO h x AOl
  simp only[Io] at hy
  split at hy
  ·rename_i d1 k kd n hs1 hs2 hev
   simp only[ak] at hy; subst hy
   rw[hev] at he
   obtain⟨hv,hw⟩:=OO he
   refine⟨_, ?_,WX (v:=.int k (k.wrap n)) AO0⟩
   simp[execOp,hv,convert,run_underlying hs1,run_underlying hs2,Conv.intToInt]
  ·rename_i d1 b hs1 hs2 hev
   simp only[ak] at hy; subst hy
   rw[hev] at he
   obtain⟨hv,hw⟩:=OO he
   refine⟨_, ?_,WX (v:=.string b) hw⟩
   simp[execOp,hv,convert,run_underlying hs1,run_underlying hs2]
  ·rename_i e d _ hs1 hs2 hev
   split at hy
   ·rename_i xs he1 hdx
    split at hy
    ·rename_i ns hns
     simp only[ak] at hy; subst hy
     rw[hev] at he
     simp only[AVR] at he
     obtain⟨q1,q2⟩:=jW hns
     obtain⟨ad0,cap0,e0,e1,e2⟩:=sK h he hdx
     obtain⟨ad,cap,hu,_,hcells⟩:=Tu h he hdx
     have hsz:(strOfNums ns).size≤maxLen:=by rw[strOfNums_size,q1]; omega
     refine⟨.string (strOfNums ns), ?_,WX (v:=.string (strOfNums ns)) (by simp only[QN,aZ]; exact hsz)⟩
     have key:(convert src dst (a.eval x)).run P w = .ok (.string (strOfNums ns)) w:=by
      rw[hu]
      rcases hcells with rfl | ⟨b,off,rfl,hc2⟩
      ·have:ns = []:=aam q1
       subst this
       rw[hu] at e0
       cases ad with
       | none=>exact run_convert_bytes_nil w src e hs1 he1 _ _ dst hs2
       | some ad =>
        have:=run_convert_bytes_string (P:=P) w src dst e (some ad) 0 cap hs1 he1 hs2
        simp only[aW]
        rw[this,run_bytesToString w ad 0 cap [] (run_loadCells_list (P:=P) w ad [] (fun j v hj=>by simp at hj))]
        rfl
      ·refine run_convert_bytes_arg w src e hs1 he1 b off xs.length cap ns q1 (fun i hi=>?_) dst hs2
       have hin:i<ns.length:=AOQ
       have hf:=q2 i ns[i] (by simp[hin])
       obtain⟨v,hv,hr⟩:=hc2 i _ hf
       have hr2:=hr.toC rfl
       simp only[RdC,RdD] at hr2
       grind
     simp only[execOp,Sem.run_bind,key,Result.andThen_ok,Sem.run_pure]
    ·cases hy
   ·cases hy
  ·cases hy
 | fieldAddr T x f=>exact sN h _ T x f rfl AOl hy
 | field T x f=>exact AE3 h _ T x f rfl AOl hy
 | indexAddr T x ix =>
  simp[Op.operands] at hc
  grind [sO]
 | index T x ix =>
  simp[Op.operands] at hc
  grind [AE4]
 | extract x ix =>
  have he:=CO h x AOl
  simp only[Io] at hy
  split at hy
  ·rename_i xs hev
   rw[hev] at he
   simp only[AVR] at he
   obtain⟨us,hu,h1⟩:=he
   obtain⟨u,hu1,hu2⟩:=mf h1 ix y hy
   exact⟨u,by simp[execOp,hu,Instr.extract,hu1],hu2⟩
  ·cases hy
 | call c =>
  have hca:c.args.toList.all Ak=true:=by
   exact ALN
  by_cases h1:c.callee = .builtin .len
  ·grind [AI8]
  ·by_cases h2:c.callee = .builtin .min∨c.callee = .builtin .max
   ·grind [AC8]
   ·simp only[Io] at hy
    grind
 | _=>simp[Io] at hy
theorem mr {l:Nat} {u:Value} {st:List Ob} (h:BM w st β l u):l<st.length:=by
 unfold BM at h
 grind
theorem xZ {l i off:Nat} {u:Value} {st:List Ob} (h:AVR w St st β (.lp l i off) u):l<st.length:=by
 simp only[AVR] at h
 grind
theorem Core.newObB (h:Core w0 St0 St β s a w) {w':World} (hb:Below w.heap.size w w') (ob:Ob) (ob':Option Nat) (hwr:ob.live=true)
  (hnone:ob'=none→ob.xs = []) (hsome:∀ b,ob'=some b→w.heap.size≤b∧b<w'.heap.size∧∃ cs:Array Value,w'.heap[b]?=some (.cells cs ob.ty (0,0))∧(∀ x∈ob.xs,x.length=ob.sz) ∧
   ∀ (k:Nat) (c:Cl),ob.xs.flatten[k]?=some c→∃ u,cs[k]?=some u∧RdB w St s.st β c u)
  (hown:Own w0 (fun _=>False) w' St (s.st ++ [ob]) (fun l=>if l=s.st.length then ob' else β l)) :
  ∃ β',Core w0 St0 St β' ⟨s.n,s.env,s.st ++ [ob]⟩ a w'∧β' s.st.length=ob'∧(∀ x u,AVR w St s.st β x u→AVR w' St (s.st ++ [ob]) β' x u)∧(∀ x u,RdC w St s.st β x u→RdC w' St (s.st ++ [ob]) β' x u):=by
 refine⟨fun l=>if l=s.st.length then ob' else β l, ?_⟩
 have hw0:w0.heap.size≤w.heap.size:=h.below.size
 have hblk:∀ k,k<w.heap.size→w'.heap[k]?=w.heap[k]?:=hb.block
 have hcell:∀ b o,St b o→w'.cell? ⟨b,o,none⟩=w.cell? ⟨b,o,none⟩:=fun b o hbo=>cell_of_block (hblk b (h.stIn b o hbo))
 have hold:∀ l,l<s.st.length→(s.st ++ [ob])[l]?=s.st[l]?:=fun l hl=>AOT
 have hr:∀ l u,BM w s.st β l u→BM w' (s.st ++ [ob]) (fun l=>if l=s.st.length then ob' else β l) l u:=by
  intro l u hu
  have hl:=mr hu
  unfold BM at hu ⊢
  rw[hold l hl]
  have hne:¬ l=s.st.length:=AOQ
  simp only[hne,aX]
  exact AMz
 have hp:∀ l i off u,AVR w St s.st β (.lp l i off) u→AVR w' St (s.st ++ [ob]) (fun l=>if l=s.st.length then ob' else β l) (.lp l i off) u:=by
  exact AMn
 have hA:∀ x u,AVR w St s.st β x u→AVR w' St (s.st ++ [ob]) (fun l=>if l=s.st.length then ob' else β l) x u:=fun x u hx=>AVR.mono (fun _ _ h=>h) hcell hr hp x u hx
 have hC:∀ x u,RdC w St s.st β x u→RdC w' St (s.st ++ [ob]) (fun l=>if l=s.st.length then ob' else β l) x u:=fun x u hx=>RdC.mono (fun _ _ h=>h) hcell hr x u hx
 have hBB:∀ x u,RdB w St s.st β x u→RdB w' St (s.st ++ [ob]) (fun l=>if l=s.st.length then ob' else β l) x u:=fun x u hx=>RdB.mono (fun _ _ h=>h) hcell hr x u hx
 have hsplit:∀ l o2,(s.st ++ [ob])[l]?=some o2→(l<s.st.length∧s.st[l]?=some o2)∨(l=s.st.length∧o2=ob):=by
  exact AOD
 refine⟨?_,AOR,hA,hC⟩
 exact {
  defers:=h.defers
  size:=h.size
  lim:=h.lim
  env:=fun i=>hA _ _ (h.env i)
  below:=h.below.grow hb
  st0:=h.st0
  stOld:=h.stOld
  stIn:=fun b o hbo=>cO (h.stIn b o hbo) hb.size
  obs:=fun l o2 b hl hlive hβ=>by
   rcases hsplit l o2 hl with ⟨h1,h2⟩ | ⟨rfl,rfl⟩
   ·have hne:¬ l=s.st.length:=by omega
    simp only[hne,aX] at hβ
    obtain⟨q1,q2,q3⟩:=h.obs l o2 b h2 hlive hβ
    refine⟨q1,cO q2 hb.size, ?_⟩
    obtain⟨cs,g1,g2,g3⟩:=q3
    refine⟨cs,AOT,g2,fun k c hk=>?_⟩
    grind
   ·simp only[bf] at hβ
    obtain⟨q1,q2,cs,g1,g2,g3⟩:=hsome b hβ
    refine⟨.inl (Nat.le_trans hw0 q1),q2,cs,g1,g2,fun k c hk=>?_⟩
    grind
  nil:=fun l o2 hl hlive hβ=>by
   exact AMB
  inj:=fun l1 l2 o1 o2 b h1 h2 h3 h4 h5 h6=>by
   rcases hsplit l1 o1 h1 with ⟨p1,p2⟩ | ⟨rfl,rfl⟩<;>rcases hsplit l2 o2 h2 with ⟨q1,q2⟩ | ⟨rfl,rfl⟩
   ·exact AMD
   ·have e1:¬ l1=s.st.length:=by omega
    simp only[e1,aX,bf] at h5 h6
    have:=(h.obs l1 o1 b p2 h3 h5).2.1
    grind
   ·have e1:¬ l2=s.st.length:=by omega
    simp only[e1,aX,bf] at h5 h6
    have:=(h.obs l2 o2 b q2 h4 h6).2.1
    grind
   ·rfl
  sep:=fun l o2 b o hl hlive hβ hbo=>by
   rcases hsplit l o2 hl with ⟨h1,h2⟩ | ⟨rfl,rfl⟩
   ·exact AM9
   ·simp only[bf] at hβ
    have:=(hsome b hβ).1
    have:=h.stIn b o hbo
    omega
  own:=hown }
theorem Core.newOb (h:Core w0 St0 St β s a w) {w':World} (hb:Below w.heap.size w w') (ob:Ob) (ob':Option Nat) (hwr:ob.live=true)
  (hnone:ob'=none→ob.xs = []) (hsome:∀ b,ob'=some b→w.heap.size≤b∧b<w'.heap.size∧∃ cs:Array Value,w'.heap[b]?=some (.cells cs ob.ty (0,0))∧(∀ x∈ob.xs,x.length=ob.sz) ∧
   ∀ (k:Nat) (c:Cl),ob.xs.flatten[k]?=some c→∃ u,cs[k]?=some u∧RdC w St s.st β c u) :
  ∃ β',Core w0 St0 St β' ⟨s.n,s.env,s.st ++ [ob]⟩ a w'∧β' s.st.length=ob'∧(∀ x u,AVR w St s.st β x u→AVR w' St (s.st ++ [ob]) β' x u)∧(∀ x u,RdC w St s.st β x u→RdC w' St (s.st ++ [ob]) β' x u):=by
 refine h.newObB hb ob ob' hwr hnone (fun b hb'=>?_) ?_
 ·obtain⟨q1,q2,cs,g1,g2,g3⟩:=hsome b hb'
  refine⟨q1,q2,cs,g1,g2,fun k c hk=>?_⟩
  obtain⟨u,hu,hc⟩:=g3 k c hk
  exact⟨u,hu,hc.toB⟩
 ·refine h.own.move id (fun x hx=>⟨⟨hx.1,fun h=>h,cO hx.2.2.1 hb.size,hx.2.2.2.1,fun l o2 hl hlv=>?_⟩,hb.block x hx.2.2.1⟩) (fun _ _ h=>h)
   (fun b o hbo=>cell_of_block (hb.block b (h.stIn b o hbo))) (fun l o2 b k c hl hlive hβ hk hc=>?_) (fun _ _ _ _ _ _ _ _ e=>e)
  ·by_cases e:l=s.st.length
   ·simp only[e,bf]
    intro hb'
    have:=(hsome x hb').1
    have:=hx.2.2.1
    omega
   ·simp only[e,aX]
    have hlt:l<s.st.length:=by
     exact AOE
    rw[bH hlt] at hl
    exact hx.2.2.2.2 l o2 hl hlv
  ·by_cases e:l=s.st.length
   ·subst e
    rw[bn (aT _)] at hl
    simp only[jV,aV,ak] at hl
    subst hl
    simp only[bf] at hβ
    obtain⟨_,_,cs,_,_,g3⟩:=hsome b hβ
    obtain⟨u,_,hr⟩:=g3 k c hk
    rw[hr.notOw] at hc
    cases hc
   ·simp only[e,aX] at hβ
    have hlt:l<s.st.length:=by
     exact AOE
    rw[bH hlt] at hl
    exact⟨o2,b,hl,hlive,hβ,hk,cell_of_block (hb.block b (h.obs l o2 b hl hlive hβ).2.1)⟩
theorem Xn (w:World) (o:Obj):Below w.heap.size w (w.alloc o):=(Below.refl _ _).alloc (aT _) o
theorem alloc_at (w:World) (o:Obj):(w.alloc o).heap[w.heap.size]?=some o:=by
 show (w.heap.push o)[w.heap.size]?=_
 simp
theorem Core.newCells (h:Core w0 St0 St β s a w) (ty:TypeId) (sz:Nat) (xs:List (List Cl)) (cs:Array Value) (hl:∀ x∈xs,x.length=sz)
  (hc:∀ (k:Nat) (c:Cl),xs.flatten[k]?=some c→∃ u,cs[k]?=some u∧RdC w St s.st β c u) :
  ∃ β',Core w0 St0 St β' ⟨s.n,s.env,s.st ++ [⟨ty,sz,xs,true,true⟩]⟩ a (w.alloc (.cells cs ty))∧β' s.st.length=some w.heap.size∧(∀ x u,AVR w St s.st β x u→AVR (w.alloc (.cells cs ty)) St (s.st ++ [⟨ty,sz,xs,true,true⟩]) β' x u):=by
 obtain⟨β',h1,h2,h3,_⟩:=h.newOb (Xn w (.cells cs ty)) ⟨ty,sz,xs,true,true⟩ (some w.heap.size) rfl AOR (fun b hb=>by
  grind [ak,alloc_at])
 grind
def Does (P:Program) (a:Act) (w:World) (w0:Bs) (St0:Nat→Nat→Prop) (s:MS) (o:Oper) (y:AV) (st':List Ob):Prop:=
 ∃ nx v w' St' β',(execOp a.eval o).run P w = .ok nx w'∧(nx = .value v∨(nx = .skip∧v=Go.undef))∧Core w0 St0 St' β' ⟨s.n,s.env,st'⟩ a w'∧AVR w' St' st' β' y v
def PZ (P:Program) (s:MS) (T:TypeId):Option (AV×List Ob):=match Tt P T with
 | some cs=>some (.lp s.st.length 0 0,s.st ++ [⟨T,cs.length,[cs],true,true⟩])
 | none=>none
def AC9 (s:MS) (T:TypeId) (x:AV):Option (AV×List Ob):=match cellsA x with
 | some cs=>some (.lp s.st.length 0 0,s.st ++ [⟨T,cs.length,[cs],true,true⟩])
 | none=>none
def Zo (P:Program) (s:MS) (T:TypeId) (p x:AV):Option (AV×List Ob):=match Ac P T,p,cellsA x with
 | some n,.lp l i off,some cs=>match Cf s.st l with
  | some ob=>if ob.wr=true∧cs.length=n then match ob.xs[i]? with
   | some row=>if off+n≤row.length then some (.undef,s.st.set l { ob with xs:=ob.xs.set i (row.take off++(cs++row.drop (off+n))) }) else none
   | none=>none
   else none
  | none=>none
 | _,_,_=>none
theorem AC_ (h:Core w0 St0 St β s a w) (o:Oper) (T:TypeId) (ho:o.op = .alloc T) {y:AV} {st':List Ob} (hy:PZ P s T=some (y,st')):Does P a w w0 St0 s o y st':=by
 unfold PZ at hy
 split at hy
 ·rename_i cs0 hz0
  ·obtain⟨zs,hz,hwf,rfl⟩:=OL hz0
   simp only[ak,bK] at hy
   obtain⟨rfl,rfl⟩:=hy
   obtain⟨z,hz1,hz2⟩:=U9 hz w
   obtain⟨β',h1,h2,_⟩:=h.newCells T (zs.map Cl.v).length [zs.map .v] z.cells AOR (fun k c hk=>by
    simp only[df,aaH,bQ,mW,zf] at hk
    obtain⟨v,hv,rfl⟩:=hk
    refine⟨v,AOT, ?_⟩
    simp only[RdC,RdD,true_and]
    exact aJ.1 hwf v (bC hv))
   refine⟨_,.pointer (some ⟨w.heap.size,0,none⟩),_,St,β', ?_,.inl rfl,h1, ?_⟩
   ·simp[execOp,ho,Instr.alloc,hz1,newVar,newRow]
   ·simp[AVR,h2]
 ·cases hy
theorem AHE (h:Core w0 St0 St β s a w) (o:Oper) (T:TypeId) (x:Operand) (ho:o.op = .box T x) (hc:Ak x=true) {y:AV} {st':List Ob} (hy:AC9 s T (Ei s x)=some (y,st')):Does P a w w0 St0 s o y st':=by
 have he:=CO h x hc
 unfold AC9 at hy
 split at hy
 ·rename_i cs hcs
  simp only[ak,bK] at hy
  obtain⟨rfl,rfl⟩:=hy
  obtain⟨q1,q2⟩:=SL he hcs
  obtain⟨β',h1,h2,_⟩:=h.newCells T cs.length [cs] (a.eval x).cells AOR (fun k c hk=>by
   grind)
  refine⟨_,.pointer (some ⟨w.heap.size,0,none⟩),_,St,β', ?_,.inl rfl,h1, ?_⟩
  ·simp[execOp,ho,Instr.box,newVar,newRow]
  ·simp[AVR,h2]
 ·cases hy
theorem Core.write (h:Core w0 St0 St β s a w) {l:Nat} {ob:Ob} (hob:Cf s.st l=some ob) (hwr:ob.wr=true) {b:Nat} (hb:β l=some b) (xs':List (List Cl)) (hlen:xs'.length=ob.xs.length) (hsz:∀ x∈xs',x.length=ob.sz)
  {cs cs':Array Value} (hcs:w.heap[b]?=some (.cells cs ob.ty (0,0))) (hsize:cs'.size=cs.size) (hc:∀ (k:Nat) (c:Cl),xs'.flatten[k]?=some c→∃ u,cs'[k]?=some u∧RdB w St s.st β c u)
  (how:∀ (k:Nat) (c:Cl),xs'.flatten[k]?=some c→Gm c=true→ob.xs.flatten[k]?=some c∧cs'[k]?=cs[k]?) :
  Core w0 St0 St β ⟨s.n,s.env,s.st.set l { ob with xs:=xs' }⟩ a (w.setRow b cs'):=by
 obtain⟨hl,hlive⟩:=Bo hob
 obtain⟨hB,hlt,_⟩:=h.obs l ob b hl hlive hb
 have hnew:(w.setRow b cs').heap[b]?=some (.cells cs' ob.ty (0,0)):=setRow_heap w b cs cs' ob.ty (0,0) hcs
 have hoth:∀ k,k≠b→(w.setRow b cs').heap[k]?=w.heap[k]?:=fun k hk=>setRow_other w b k cs' hk
 have hbelow:BelowB w0 (w.setRow b cs'):=h.below.step (n:=0) ⟨rfl,rfl,rfl,APj,fun k hk=>absurd hk (Nat.not_lt_zero _)⟩ (fun k h1 h2=>hoth k fun e=>by
  subst e
  rcases hB with h' | h'
  ·omega
  grind) fun k hk=>by
  grind [AC4,xW]
 have hcell:∀ b' o,St b' o→(w.setRow b cs').cell? ⟨b',o,none⟩=w.cell? ⟨b',o,none⟩:=fun b' o hbo=>by
  have hne:b'≠b:=fun e=>by
   subst e
   have:=(h.sep l ob b' o hl hlive hb hbo).1
   grind
  grind [cell_of_block]
 have hll:l<s.st.length:=(aF.1 hl).1
 have hget:∀ l',(s.st.set l { ob with xs:=xs' })[l']?=if l=l' then some { ob with xs:=xs' } else s.st[l']?:=fun l'=>by
  grind
 have hr:∀ l' u,BM w s.st β l' u→BM (w.setRow b cs') (s.st.set l { ob with xs:=xs' }) β l' u:=by
  intro l' u hu
  unfold BM at hu ⊢
  rw[hget l']
  by_cases e:l=l'
  ·grind
  ·simp only[e,aX]
   exact AL7
 have hp:∀ l' i off u,AVR w St s.st β (.lp l' i off) u→AVR (w.setRow b cs') St (s.st.set l { ob with xs:=xs' }) β (.lp l' i off) u:=by
  intro l' i off u hu
  simp only[AVR,hget l'] at hu ⊢
  exact ANR
 have hC:∀ x u,RdC w St s.st β x u→RdC (w.setRow b cs') St (s.st.set l { ob with xs:=xs' }) β x u:=fun x u hx=>RdC.mono (fun _ _ h=>h) hcell hr x u hx
 have hBB:∀ x u,RdB w St s.st β x u→RdB (w.setRow b cs') St (s.st.set l { ob with xs:=xs' }) β x u:=fun x u hx=>RdB.mono (fun _ _ h=>h) hcell hr x u hx
 have hsp:∀ l' o2,(s.st.set l { ob with xs:=xs' })[l']?=some o2→∃ o3,s.st[l']?=some o3∧o2.live=o3.live∧o2.wr=o3.wr∧o2.sz=o3.sz∧o2.ty=o3.ty∧o2.xs.length=o3.xs.length∧(l≠l'→o2=o3)∧(l=l'→o3=ob∧o2.xs=xs'):=by
  intro l' o2 h2
  rw[hget l'] at h2
  exact ANR
 exact {
  defers:=h.defers
  size:=h.size
  lim:=h.lim
  env:=fun i=>AVR.mono (fun _ _ h=>h) hcell hr hp _ _ (h.env i)
  below:=hbelow
  st0:=h.st0
  stOld:=h.stOld
  stIn:=fun b' o hbo=>by simpa [World.setRow] using h.stIn b' o hbo
  obs:=fun l' o2 b2 hl2 hlive2 hβ=>by
   obtain⟨o3,r1,r2,r3,r4,r5,r6,r7,r8⟩:=hsp l' o2 hl2
   obtain⟨q1,q2,cs2,g1,g2,g3⟩:=h.obs l' o3 b2 r1 AOT hβ
   refine⟨q1,AOT, ?_⟩
   by_cases e:l=l'
   ·obtain⟨e1,e2⟩:=r8 e
    subst e
    have:b2=b:=by rw[hb] at hβ; exact(ry hβ).symm
    subst this
    refine⟨cs',AOT,AOT,fun k c hk=>?_⟩
    grind
   ·have:=r7 e
    subst this
    have hne:b2≠b:=fun e2=>by subst e2; exact e (h.inj l l' ob o2 b2 hl r1 hlive hlive2 hb hβ)
    refine⟨cs2,AOT,g2,fun k c hk=>?_⟩
    grind
  nil:=fun l' o2 hl2 hlive2 hβ=>by
   obtain⟨o3,r1,r2,r3,r4,r5,r6,r7,r8⟩:=hsp l' o2 hl2
   have:=h.nil l' o3 r1 AOT hβ
   grind
  inj:=fun l1 l2 o1 o2 b' h1 h2 h3 h4 h5 h6=>by
   obtain⟨p1,q1,r1,_⟩:=hsp l1 o1 h1
   obtain⟨p2,q2,r2,_⟩:=hsp l2 o2 h2
   exact h.inj l1 l2 p1 p2 b' q1 q2 AOT AOT h5 h6
  sep:=fun l' o2 b' o hl2 hlive2 hβ hbo=>by
   obtain⟨o3,r1,r2,r3,r4,r5,r6,r7,r8⟩:=hsp l' o2 hl2
   have:=h.sep l' o3 b' o r1 AOT hβ hbo
   grind
  own:=by
   refine h.own.move id (fun x hx=>?_) (fun _ _ h=>h) hcell (fun l' o2 b2 k c hl2 hlive2 hβ hk hcw=>?_) (fun _ _ _ _ _ _ _ _ e=>e)
   ·have hxb:x≠b:=fun e=>hx.2.2.2.2 l ob hl hlive (by rw[hb,e])
    exact⟨⟨hx.1,fun h=>h,by simpa [World.setRow] using hx.2.2.1,hx.2.2.2.1,fun l' o2 hl' hlv=>by
     obtain⟨o3,r1,r2,_⟩:=hsp l' o2 hl'
     exact hx.2.2.2.2 l' o3 r1 AOT⟩,hoth x hxb⟩
   ·obtain⟨o3,r1,r2,r3,r4,r5,r6,r7,r8⟩:=hsp l' o2 hl2
    by_cases e:l=l'
    ·obtain⟨e1,e2⟩:=r8 e
     subst e
     have eb:b2=b:=by rw[hb] at hβ; exact(ry hβ).symm
     subst eb
     rw[e2] at hk
     obtain⟨g1,g2⟩:=how k c hk hcw
     refine⟨ob,b2,hl,hlive,hb,g1, ?_⟩
     simp[World.cell?,hnew,hcs,g2]
    ·have:=r7 e
     subst this
     have hne:b2≠b:=fun e2=>by subst e2; exact e (h.inj l l' ob o2 b2 hl r1 hlive hlive2 hb hβ)
     grind [cell_of_block] }
theorem Qj {xs:List (List Cl)} {sz i off n:Nat} {row cs:List Cl} (hl:∀ x∈xs,x.length=sz) (hi:xs[i]?=some row) (hle:off+n≤row.length) :
  (xs.set i (row.take off++(cs++row.drop (off+n)))).flatten=xs.flatten.take (i*sz+off)++(cs++xs.flatten.drop (i*sz+(off+n))):=by
 have hil:i<xs.length:=(aF.1 hi).1
 have hx:xs=xs.take i++row::xs.drop (i+1):=by
  have:row=xs[i]:=by rw[au hil] at hi; exact(ry hi).symm
  rw[this,← aG hil,List.take_append_drop]
 have hA:(xs.take i).flatten.length=i*sz:=by
  rw[EK (sz:=sz) (fun x hx=>hl x (ru hx)),bI,Zl AOQ]
 have hF:xs.flatten=(xs.take i).flatten++(row++(xs.drop (i+1)).flatten):=by
  conv=>lhs; rw[hx]
  simp
 rw[List.set_eq_take_append_cons_drop,bF hil]
 grind [aaM,df,bT,List.take_length_add_append,List.drop_length_add_append]
theorem Xo {R:Cl→Value→Prop} {F cs:List Cl} {C vs:List Value} {p n:Nat} (hC:∀ (k:Nat) (c:Cl),F[k]?=some c→∃ u,C[k]?=some u∧R c u) (hp:p+n≤F.length) (hcl:cs.length=n) (hvl:vs.length=n)
  (hcs:∀ (k:Nat) (c:Cl),cs[k]?=some c→∃ u,vs[k]?=some u∧R c u) (hFC:F.length≤C.length) :
  ∀ (k:Nat) (c:Cl),(F.take p++(cs++F.drop (p+n)))[k]?=some c→∃ u,(C.take p++(vs++C.drop (p+n)))[k]?=some u∧R c u:=by
 grind
theorem ADA {F cs:List Cl} {C vs:List Value} {p n:Nat} (hp:p+n≤F.length) (hcl:cs.length=n) (hvl:vs.length=n) (hFC:F.length≤C.length) (hno:∀ (k:Nat) (c:Cl),cs[k]?=some c→Gm c=false) :
  ∀ (k:Nat) (c:Cl),(F.take p++(cs++F.drop (p+n)))[k]?=some c→Gm c=true→F[k]?=some c∧(C.take p++(vs++C.drop (p+n)))[k]?=C[k]?:=by
 intro k c hk hc
 have l1:(F.take p).length=p:=AOS
 grind
theorem MN {R:Cl→Value→Prop} {F:List Cl} {C:List Value} (hC:∀ (k:Nat) (c:Cl),F[k]?=some c→∃ u,C[k]?=some u∧R c u):F.length≤C.length:=by
 rcases bV C.length F.length with h | h
 ·obtain⟨u,hu,_⟩:=hC C.length _ (au h)
  simp at hu
 ·exact h
theorem ADB (h:Core w0 St0 St β s a w) (o:Oper) (T:TypeId) (p x:Operand) (ho:o.op = .store T p x) (hc:Ak p=true) (hc2:Ak x=true) {y:AV} {st':List Ob} (hy:Zo P s T (Ei s p) (Ei s x)=some (y,st')):Does P a w w0 St0 s o y st':=by
 have hp:=CO h p hc
 have hx:=CO h x hc2
 unfold Zo at hy
 split at hy
 ·rename_i n l i off cs hs hev hcs
  split at hy
  ·rename_i ob hob
   split at hy
   ·rename_i hwl
    obtain⟨hwr,hcl⟩:=hwl
    split at hy
    ·rename_i row hrow
     split at hy
     ·rename_i hle
      simp only[ak,bK] at hy
      obtain⟨rfl,rfl⟩:=hy
      rw[hev] at hp
      obtain⟨b,C,hb,hu,g1,g2,g3⟩:=zi h hp hob
      obtain⟨q1,q2⟩:=SL hx hcs
      have hrl:row.length=ob.sz:=g2 row (bC hrow)
      have hil:i<ob.xs.length:=(aF.1 hrow).1
      have hFl:ob.xs.flatten.length=ob.xs.length*ob.sz:=EK g2
      have g3':∀ (k:Nat) (c:Cl),ob.xs.flatten[k]?=some c→∃ u,C.toList[k]?=some u∧RdB w St s.st β c u:=fun k c hk=>AOT
      have hFC:=MN g3'
      have hpos:i*ob.sz+(off+n)≤ob.xs.flatten.length:=by
       rw[hFl]
       have:(i+1)*ob.sz≤ob.xs.length*ob.sz:=aaE _ hil
       rw[Zm] at this; omega
      have hvl:(a.eval x).cells.toList.length=n:=by rw[q1,hcl]
      have h1:∀ v∈(a.eval x).cells.toList,v.oneCell'=true:=fun v hv=>by
       obtain⟨k,hk1,hk2⟩:=aaC hv
       have hkc:k<cs.length:=by rw[← q1]; exact hk1
       obtain⟨u,hu1,hu2⟩:=q2 k _ (au hkc)
       rw[au hk1] at hu1
       simp only[ak] at hu1
       rw[← hk2,hu1]; exact hu2.one
      have hrun:=run_storeCells_at P b (i*ob.sz+off) ob.ty (a.eval x).cells.toList 0 C w g1 (by
       grind) h1
      simp only[abA,hvl] at hrun
      have hasz:(a.eval x).cells.size=n:=by simpa using hvl
      refine⟨.skip,Go.undef,_,St,β, ?_,.inr ⟨rfl,rfl⟩,h.write hob hwr hb (ob.xs.set i (row.take off++(cs++row.drop (off+n)))) AOR ?_ g1 (cs':=(C.toList.take (i*ob.sz+off)++(a.eval x).cells.toList++C.toList.drop (i*ob.sz+off+n)).toArray) ?_ ?_ ?_, ?_⟩
      ·simp[execOp,ho,hu,Instr.storeAt,Instr.sureAddr,storeVar,IB hs,hasz,hrun]
      ·grind
      ·grind
      ·intro k c hk
       rw[Qj g2 hrow hle] at hk
       have:=Xo g3' (p:=i*ob.sz+off) (n:=n) AOQ hcl hvl (fun k c hk=>by obtain⟨u,hu1,hu2⟩:=q2 k c hk; exact⟨u,hu1,hu2.toB⟩) hFC k c AOT
       grind
      ·intro k c hk how
       rw[Qj g2 hrow hle] at hk
       have:=ADA (C:=C.toList) (vs:=(a.eval x).cells.toList) (p:=i*ob.sz+off) (n:=n) AOQ hcl hvl hFC (fun k c hk=>by obtain⟨u,_,hu2⟩:=q2 k c hk; exact hu2.notOw) k c AOT how
       grind
      ·simp only[AVR]
     ·cases hy
    ·cases hy
   ·cases hy
  ·cases hy
 ·cases hy
end Go.Vm
