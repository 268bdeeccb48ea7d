/- A part. -/
import Derived.WalkKit
import Derived.WalkLawsBesides
import Derived.OpenShut
import Derived.Laws.StructEq
import Derived.ChangeKeysEq
import Derived.Laws.BytesArg
set_option linter.unusedSimpArgs false
set_option linter.unusedVariables false
namespace Go.Vm
section
variable {p q r:Prop}
theorem AEZ(h:p:=by
 rintro⟨k,n⟩ ⟨hk,hb,hs2,hn⟩;dsimp only at hk hb hs2 hn;simp only[go_sem,aa];refine AAQ (fun h2=>?_) (fun h2=>?_)
 .have hk':k<p.l.length:=by simpa using h2
  rw[Lu cs d p.l hk'] at hb;rw[Lt d p.l hk'] at hs2;simp only[go_sem,aa,AA _ hk',hk',hdw];try refine AAP ?_
  try simp only[go_sem,aa,AA _ hk',hk',hdw]
  first | refine CY (hx p.l[k] (an hk')) ?_ | refine CW (hx p.l[k] (an hk')) fun _=>?_
  rcases hv:JU cs d p.l[k] with _ | _
  .have e1:ED cs d p.l[k] = -1:=by simp[ED,hv]
   rw[hv,ac] at hb;have e2:ED cs (d+1) p = -1:=by simp[ED,JU,<- hb]
   have e3:decide ((-1:Int)<0)=true:=by decide
   rw[e2];simp only[go_sem,aa,e1,e3]
  .have e1:ED cs d p.l[k]=(Cm d p.l[k]:Int):=by simp[ED,hv]
   have e4:=ND d _ hv;have e5:4 ^ d<=4 ^ 3:=aaz (by omega) (by omega);have e3:decide ((Cm d p.l[k]:Int)<0)=false:=by simp
   rw[hv,ah] at hb;have hw1:IntKind.i64.wrap ((n:Int)+(Cm d p.l[k]:Int))=((n+Cm d p.l[k]:Nat):Int):=by rw[wrap_i64 (by omega) (by omega)]; omega
   simp only[go_sem,aa,e1,e3,hw1,wrap_i64 (n:=(k:Int)+1) (by omega) (by omega)];exact⟨(k+1,n+Cm d p.l[k]),⟨rfl,rfl⟩,rfl,⟨by omega,hb,by simp only; omega,by simp only; omega⟩,by simp only; omega⟩
 .have hk':k=p.l.length:=by simp at h2; omega
  subst hk';rw[aK] at hb hs2
  have e1:ED cs (d+1) p=n:=by
   have e2:JU cs (d+1) p=true:=by rw[JU,hs,<- hb]; rfl
   have e3:n=Cm (d+1) p:=by rw[Cm]; simpa using hs2
   rw[ED,aV e2,e3]
  rw[e1];simp only[go_sem]):p:=h
theorem AE9(h:p:=by
 have hlen:xs.length<=9223372036854775807:=by have:=hw.1.1; simpa [Go.maxLen] using this
 simp only[go_sem,aa,as_,av];refine ABf 0 [0,1,5] (A:=Nat) (fun k=>⟨27,[(0,.c (.sl (xs.map c))),(1,.c (.sl (xs.map c))),(5,.c (.v (.int .i64 k)))],[]⟩) (fun k=>k<=xs.length) (fun k=>xs.length-k) 0 ⟨⟨rfl,rfl⟩,rfl,aq _⟩ ?_;intro k hk;simp only[go_sem,aa];refine AAQ (fun h=>?_) (fun h=>?_)
 .have hk':k<xs.length:=by simpa using h
  simp only[go_sem];refine AAP ?_;simp only[go_sem,aa,as_,av,AA _ hk',hk',wrap_i64 (n:=(k:Int)+1) (by omega) (by omega),(hc _).1,(hc _).2.1,(hc _).2.2];refine CY (hx xs[k] (an hk')) ?_;simp only[go_sem,AA _ hk',wrap_i64 (n:=(k:Int)+1) (by omega) (by omega)];exact⟨k+1,⟨rfl,rfl⟩,rfl,by omega,by first | omega | (simp only; omega)⟩
 .simp only[go_sem]):p:=h
theorem AE_(h:p:=by
 have hlen:xs.length<=9223372036854775807:=by have:=hw.1.1; simpa [Go.maxLen] using this
 have hl2:l<=9223372036854775807:=MV hw.2.1;simp only[go_sem,aa,wrap_i64 (n:=l-xs.length) (by omega) (by omega)];refine AAQ (fun h=>by simp only[go_sem,bF h]) (fun h=>?_);simp only[go_sem];refine ABf 0 [0,1,5] (VQ 27 c xs) (szP sz xs (Dj sz xs l)) (fun x=>xs.length-x.1) (0,l-xs.length) ⟨⟨rfl,rfl⟩,rfl,szP.start (Qy h)⟩ ?_;rintro⟨k,m⟩ hP;simp only[go_sem,VQ,aa];refine AAQ (fun h=>?_) (fun h=>?_)
 .have hk:=ltN h;simp only[go_sem,AA _ hk,(hc _).1,(hc _).2.1,(hc _).2.2];refine CW (hx xs[k] (an hk) m hP.2.1) fun _=>?_;simp only[go_sem];refine AAQ (fun h=>by simp only[go_sem,hP.neg hk h]) (fun h=>?_);simp only[go_sem,wrap_i64 (n:=(k:Int)+1) (by omega) (by omega)];exact⟨(k+1,sz xs[k] m),⟨rfl,rfl⟩,rfl,hP.step hk h,by simp only; omega⟩
 .simp only[go_sem,hP.fin h]):p:=h
theorem AFA(h:p:=by
 have hs2:=hsd (BK w 5);simp only[DDeed.o_eq,BK,go_sem] at hs2;refine EndH.close 8 n0 [11,12,13,14,15] (row':=DTask.o (GI (DU t 0 9) 9)) rfl (hF _).1 rfl (by decide) ?_ ?_
 .simp only[go_sem,DTask.o_eq,F,GI,DU,hl1];simp[AB,DR,Ij]
 simp only[Aa,BR,go_sem,al];have hs1:=hst (GI (DU t 0 9) 9);simp only[go_sem] at hs1;have eT:∀ b,BK ⟨w.c0,w.time,w.t,w.e,w.d,b,w.m,w.x,w.p,w.tasks,w.deeds⟩ 5=BK w 5:=fun _=>rfl;simp only[go_sem,hs1,hs2];refine EndH.self ?_;simp only[go_sem,codeW,FK,Fb,Kr,He,aO,Fb,Kr,FK,eT];simp[AB,DU,hm,hl1]):p:=h
theorem AFB(h:p:=by
 simp only[go_sem,qn,ag,aj,ab,ao,ap];first | refine AEV (.c (.v (.bool (there w r1)))) (InlS.bor (args':=[.agg (setT w n0 (IV t (Ah w))).c,.agg r1.c]) [.val (.c (.v (.bool (there w r1))))] ⟨Nw (w:=(setT w n0 (IV t (Ah w)))) (AO rfl (AQ _) (Ad _)) (AO rfl (BC _) (BV _)) (BorX.set rfl DBuf.o_nr DBuf.o_er fun x hx=>by have hx:w.b[q]?=some x:=hx; rw[am hq] at hx; cases hx; exact ABU rfl rfl) (AO rfl (AQ _) (Ad _)) (AO rfl (Ci _) (Bi _)) (AO rfl (AQ _) (Ad _)) (BorX.set (xs:=w.tasks.set n0 (IV t (Ah w))) (by rw[hset2]; rfl) DTask.o_nr DTask.o_er fun x hx=>by rw[aN hlt] at hx; cases hx; exact MW (t:=IV t (Ah w)) rfl rfl rfl rfl rfl hm hxs) (AO rfl (Cb _) (BH _)),Jp r1,trivial⟩ rfl (Cf (setT w n0 (IV t (Ah w))) r1)) ?_ | refine ABz _ _ (InlS.bor (args':=[.agg (setT w n0 (IV t (Ah w))).c,.agg r1.c]) [.val (.c (.v (.bool (there w r1))))] ⟨Nw (w:=(setT w n0 (IV t (Ah w)))) (AO rfl (AQ _) (Ad _)) (AO rfl (BC _) (BV _)) (BorX.set rfl DBuf.o_nr DBuf.o_er fun x hx=>by have hx:w.b[q]?=some x:=hx; rw[am hq] at hx; cases hx; exact ABU rfl rfl) (AO rfl (AQ _) (Ad _)) (AO rfl (Ci _) (Bi _)) (AO rfl (AQ _) (Ad _)) (BorX.set (xs:=w.tasks.set n0 (IV t (Ah w))) (by rw[hset2]; rfl) DTask.o_nr DTask.o_er fun x hx=>by rw[aN hlt] at hx; cases hx; exact MW (t:=IV t (Ah w)) rfl rfl rfl rfl rfl hm hxs) (AO rfl (Cb _) (BH _)),Jp r1,trivial⟩ rfl (Cf (setT w n0 (IV t (Ah w))) r1)) ?_ | refine ACZ _ _ (InlS.bor (args':=[.agg (setT w n0 (IV t (Ah w))).c,.agg r1.c]) [.val (.c (.v (.bool (there w r1))))] ⟨Nw (w:=(setT w n0 (IV t (Ah w)))) (AO rfl (AQ _) (Ad _)) (AO rfl (BC _) (BV _)) (BorX.set rfl DBuf.o_nr DBuf.o_er fun x hx=>by have hx:w.b[q]?=some x:=hx; rw[am hq] at hx; cases hx; exact ABU rfl rfl) (AO rfl (AQ _) (Ad _)) (AO rfl (Ci _) (Bi _)) (AO rfl (AQ _) (Ad _)) (BorX.set (xs:=w.tasks.set n0 (IV t (Ah w))) (by rw[hset2]; rfl) DTask.o_nr DTask.o_er fun x hx=>by rw[aN hlt] at hx; cases hx; exact MW (t:=IV t (Ah w)) rfl rfl rfl rfl rfl hm hxs) (AO rfl (Cb _) (BH _)),Jp r1,trivial⟩ rfl (Cf (setT w n0 (IV t (Ah w))) r1)) ?_
 simp only[go_sem,ak,aa,ag,aj,ab,G,hthr];try (refine AAP ?_; simp only[go_sem,F,al,ak,aa,hl1,gx2,gl0,gd00,gi0,qk,qn,ag,aj,ab,ao,ap,G,hthr])
 exact⟨rfl,rfl⟩):p:=h
theorem AFC(h:p:=by
 have hll:l.length<=1048576:=by have:=(Lm hb hdd).1; omega
 refine AAO _ hr fun _=>?_;simp only[go_sem];refine AAO _ (FB l hll) fun _=>?_;rcases h5:typeOf l != ty with _ | _;rotate_left
 .have h5':¬ (typeOf l=ty/\A8 l=b):=fun q=>by simp at h5; exact h5 q.1
  simp only[go_sem,h5,aR h5',Dx]
 have h5':typeOf l=ty:=by simpa using h5
 simp only[go_sem,h5];refine AAO _ (KC l hll) fun _=>?_;simp only[go_sem];refine AAO _ (JA (A8 l) b) fun _=>?_;rcases h6:decide (A8 l=b) with _ | _
 .have h7:¬ (typeOf l=ty/\A8 l=b):=fun q=>by simp at h6; exact h6 q.2
  simp only[go_sem,h5,h6,aR h7,Dx]
 .have h7:typeOf l=ty/\A8 l=b:=⟨h5',by simpa using h6⟩;simp only[go_sem,h5,h6,aV h7,Dx]):p:=h
theorem AGD(h:p:=by
 refine AAt _ (AP p.col 0 _) ?_;rcases c1:Ae p.col 0 ((cs.length:Int)-1) with _ | _
 .simp only[go_sem,aa,k1,k2,c1,JV,ac]
 obtain⟨m,hm,hml⟩:=hin c1;have hgm:(cs[p.col.toNat]?).getD 0=cs[m]:=by rw[hm]; simp[hml]
 have c1':=c1;rw[hm] at c1';simp only[go_sem,aa,k1,k2,c1];refine CY (Iu p.v) ?_;rcases c2:BX p.v with _ | _
 .simp only[go_sem,aa,k1,k2,c1,c2,JV,ac,ay]
 rcases c3:(p.v.ty==cs[m]) with _ | _
 .simp only[go_sem,aa,k1,k2,c1,c2,c3,hm,AA _ hml,hml,JV,ac,ay];try simp[JV,hgm,c1,c2,c3,hm,hml]
 simp only[go_sem,aa,k1,k2,c1,c2,c3,hm,AA _ hml,hml];refine AAt _ (AP p.op 1 6) ?_;rcases c4:Ae p.op 1 6 with _ | _
 .simp only[go_sem,aa,k1,k2,c1,c2,c3,c4,hm,AA _ hml,hml,JV,ac,ay];try simp[JV,hgm,c1,c2,c3,c4,hm,hml]
 .simp only[go_sem,aa,k1,k2,c1,c2,c3,c4,hm,AA _ hml,hml];try simp[JV,hgm,c1,c1',c2,c3,c4,hm,hml]):p:=h
theorem AGE(h:p:=by
 refine AAt _ (AL p.col 0 _) ?_;rcases c1:Ae p.col 0 ((cs.length:Int)-1) with _ | _
 .simp only[go_sem,aa,h1,hl4,hwl,k1,k2,c1]
 obtain⟨m,hm,hml⟩:=hin c1;have hgm:(cs[p.col.toNat]?).getD 0=cs[m]:=by rw[hm]; simp[hml]
 simp only[go_sem,aa,h1,hl4,hwl,k1,k2,c1];refine AAt _ (AL p.op 1 6) ?_;rcases c4:Ae p.op 1 6 with _ | _
 .simp only[go_sem,aa,h1,hl4,hwl,k1,k2,c1,c4]
 simp only[go_sem,aa,h1,hl4,hwl,k1,k2,c1,c4];refine CY (D7 p.v) ?_;rcases c2:BX p.v with _ | _
 .simp only[go_sem,aa,h1,hl4,hwl,k1,k2,c1,c2,c4]
 rcases c3:(p.v.ty==cs[m]) with _ | _
 .simp only[go_sem,aa,h1,hl4,hwl,k1,k2,c1,c2,c3,c4,hm,AA _ hml,hml]
 have hl0:((p.l.length:Int)==0)=false:=by
  have:JV cs p=true:=by simp only[JV,hgm,c1,c2,c3,c4,aw]
  simpa [this] using hs1
 simp only[go_sem,aa,h1,hl4,hwl,k1,k2,c1,c2,c3,c4,hm,AA _ hml,hml,hl0]):p:=h
theorem AGF(h:p:=by
 simp only[go_sem];refine AAR ?_;simp only[go_sem,AA _ hi',QK,IQ,aG,aq,yG,hkle,hkm,g1,g2,g3,<- bf,<- bk,aU,aaM,abb,aA,htk,aX,wrap_i64 (n:=(i:Int)+1) (by omega) (by omega)];exact⟨i+1,Head.trans (NU 5 rfl (MO _ _ _)) (AAS [(5,false)] ⟨rfl,rfl,MO _ _ _,trivial⟩ (by rw[hds,Ue]; rfl)),hi',by omega⟩):p:=h
theorem AGG(h:p:=by
 refine AAO _ (DN [] (by simp)) fun _=>?_;rcases h5:typeOf [] != ty with _ | _;rotate_left
 .rw[aR (by simpa using h5)];simp only[go_sem,h5,Dx]
 rw[aV (by simpa using h5)];simp only[go_sem,h5];refine AAO _ (Ez [] (by simp)) fun _=>?_;simp only[go_sem];refine AAO _ (Cj b k [] (A8 [])) fun _=>?_;rcases h6:again b k [] (A8 []) with _ | l'<;>simp only[go_sem,Dx]):p:=h
theorem AGH(h:p:=by
 have hll:l.length<=1048576:=by have:=(Lm hb hdd).1; omega
 refine AAO _ hr fun _=>?_;simp only[go_sem,au];refine AAO _ (DN l hll) fun _=>?_;rcases h5:typeOf l != ty with _ | _;rotate_left
 .rw[aR (by simpa using h5)];simp only[go_sem,h5,Dx]
 rw[aV (by simpa using h5)];simp only[go_sem,h5];refine AAO _ (Ez l hll) fun _=>?_;simp only[go_sem];refine AAO _ (Cj b k l (A8 l)) fun _=>?_;rcases h6:again b k l (A8 l) with _ | l'<;>simp only[go_sem,Dx]):p:=h
theorem AGK(h:p:=by
 rcases hv:rowOk cs l[k] with _ | _
 .have hno:¬ Oa cs l k:=by intro hg; have:=(hg hk').1.1; rw[hv] at this; cases this
  simp only[go_sem,hv,PV hno]
 rcases hid:decide (l[k].id>1000000000) with _ | _;rotate_left
 .have hno:¬ Oa cs l k:=by intro hg; have:=(hg hk').2; simp at hid; omega
  simp only[go_sem,hv,hid,AA _ hk',hk',PV hno]
 have hid':l[k].id<=1000000000:=by simp at hid; omega
 rcases abo k with hz | hz
 .have hp:decide ((k:Int)>0)=false:=by simp; omega
  simp only[go_sem,hv,hid,hp,AA _ hk',hk',wrap_i64 (n:=(k:Int)+1) (by omega) (by omega)];exact⟨k+1,⟨rfl,rfl⟩,rfl,⟨by omega,hnext fun _=>⟨⟨hv,fun h0=>by omega⟩,hid'⟩⟩,by omega⟩
 .have hp:decide ((k:Int)>0)=true:=by simp; omega
  have hk1:k-1<l.length:=by omega
  have hw1:IntKind.i64.wrap ((k:Int)-1)=((k-1:Nat):Int):=by rw[wrap_i64 (by omega) (by omega)]; omega
  rcases hq:decide (l[k-1].id>=l[k].id) with _ | _
  .simp only[go_sem,hv,hid,hp,hw1,AA _ hk',AA _ hk1,hk',hk1,hq,wrap_i64 (n:=(k:Int)+1) (by omega) (by omega)];exact⟨k+1,⟨rfl,rfl⟩,rfl,⟨by omega,hnext fun _=>⟨⟨hv,fun _=>by simp at hq; omega⟩,hid'⟩⟩,by omega⟩
  .have hno:¬ Oa cs l k:=by intro hg; have:=(hg hk').1.2 hz; simp at hq; omega
   simp only[go_sem,hv,hid,hp,hw1,AA _ hk',AA _ hk1,hk',hk1,hq,PV hno]):p:=h
theorem AGM(h:p:=by
 simp only[go_sem,gx0,g01,ag,aj,ab,ae];try (refine AAR ?_; simp only[go_sem,F,ag,aj,ab,ae,ao,ap])
 first | refine ABz _ _ (InlS.bor (args':=[.agg w.c,.agg r1.c,.c (.v (.int .i64 (t.ts)))]) [.own 194 2 ((Ag w r1 t.ts).map DRow.o) true] ⟨Nw (AO rfl (AQ _) (Ad _)) (AO rfl (BC _) (BV _)) (AO rfl (A7 _) (Ar _)) (AO rfl (AQ _) (Ad _)) (AO rfl (Ci _) (Bi _)) (AO rfl (AQ _) (Ad _)) (BorX.set rfl DTask.o_nr DTask.o_er fun x hx=>by rw[am hlt,hat] at hx; cases hx; exact MW rfl rfl rfl rfl rfl hm hxs) (AO rfl (Cb _) (BH _)),Jp r1,.inl rfl,trivial⟩ (by simp only[aI,EH,GG,aM,aw]) (by simpa only[go_sem] using JJ w r1 t.ts hf)) ?_ | refine ACZ _ _ (InlS.bor (args':=[.agg w.c,.agg r1.c,.c (.v (.int .i64 (t.ts)))]) [.own 194 2 ((Ag w r1 t.ts).map DRow.o) true] ⟨Nw (AO rfl (AQ _) (Ad _)) (AO rfl (BC _) (BV _)) (AO rfl (A7 _) (Ar _)) (AO rfl (AQ _) (Ad _)) (AO rfl (Ci _) (Bi _)) (AO rfl (AQ _) (Ad _)) (BorX.set rfl DTask.o_nr DTask.o_er fun x hx=>by rw[am hlt,hat] at hx; cases hx; exact MW rfl rfl rfl rfl rfl hm hxs) (AO rfl (Cb _) (BH _)),Jp r1,.inl rfl,trivial⟩ (by simp only[aI,EH,GG,aM,aw]) (by simpa only[go_sem] using JJ w r1 t.ts hf)) ?_
 simp only[go_sem,F,aa,gw1,ag,aj,ab,ae,hz1];exact⟨1,rfl,by decide,by decide⟩):p:=h
theorem AGN(h:p:=by
 have hlen:xs.length<=9223372036854775807:=by have:=hw.1.1; simpa [Go.maxLen] using this
 have hl2:l<=9223372036854775807:=MV hw.2.1;simp only[go_sem,aa,wrap_i64 (n:=l-xs.length) (by omega) (by omega)];refine AAQ (fun h=>?_) (fun h=>?_)
 .have h':l-xs.length<0:=by simpa using h
  simp only[go_sem];simp[Fq,h']
 .have h':¬ l-xs.length<0:=by simpa using h
  simp only[go_sem];simp[Fq,h']):p:=h
theorem AGe(h:p:=by
 rcases kq:noQ t.q with _ | _
 .simp only[go_sem,aW,aJ,aA,kpc,kh,kr,kid,kq,DJ,ac,ah]
 rcases kts:t.ts==0 with _ | _
 .simp only[go_sem,aW,aJ,aA,kpc,kh,kr,kid,kq,kts,DJ,ac,ah]
 rcases kver:t.ver==0 with _ | _
 .simp only[go_sem,aW,aJ,aA,kpc,kh,kr,kid,kq,kts,kver,DJ,ac,ah]
 rcases kl:((t.l.length:Int)==0) with _ | _
 .simp only[go_sem,aW,aJ,aA,kpc,kh,kr,kid,kq,kts,kver,kl,DJ,ac,ah]
 rcases ki:t.i==0 with _ | _
 .simp only[go_sem,aW,aJ,aA,kpc,kh,kr,kid,kq,kts,kver,kl,ki,DJ,ac,ah]
 rcases kj:t.j==0 with _ | _
 .simp only[go_sem,aW,aJ,aA,kpc,kh,kr,kid,kq,kts,kver,kl,ki,kj,DJ,ac,ah]
 rcases ks:t.s==0 with _ | _
 .simp only[go_sem,aW,aJ,aA,kpc,kh,kr,kid,kq,kts,kver,kl,ki,kj,ks,DJ,ac,ah]
 rcases kat:t.at0==0 with _ | _
 .simp only[go_sem,aW,aJ,aA,kpc,kh,kr,kid,kq,kts,kver,kl,ki,kj,ks,kat,DJ,ac,ah]
 rcases kown:t.own==0 with _ | _
 .simp only[go_sem,aW,aJ,aA,kpc,kh,kr,kid,kq,kts,kver,kl,ki,kj,ks,kat,kown,DJ,ac,ah]
 rcases kwon:t.won with _ | _;rotate_left
 .simp only[go_sem,aW,aJ,aA,kpc,kh,kr,kid,kq,kts,kver,kl,ki,kj,ks,kat,kown,kwon,DJ,ac,ah,aD]
 simp only[go_sem,aW,aJ,aA,kpc,kh,kr,kid,kq,kts,kver,kl,ki,kj,ks,kat,kown,kwon,DJ,ah,aH]):p:=h
theorem AGq(h:p:=by
 simp only[Aa,BR,go_sem];exact inlT.self rfl (by simp only[go_sem]) rfl):p:=h
theorem AG7(h:p:=by
 have hr:CE cs q=(MZ cs q.out&&((q.col==0)&&Ae q.out.length 1 3)):=by simp[CE,h1,k1]
 rw[hr];simp only[go_sem,aa,h1,c1,k1];refine AAe 1 (A:=Nat) (fun k=>[(32,.c (.v (.int .i64 (k))))]) (fun _=>[⟨117,10,[AEe q],true,true⟩]) (fun k=>k<=q.out.length/\MZ cs (q.out.drop k)=MZ cs q.out) (fun k=>q.out.length-k) 0 ⟨⟨rfl,rfl⟩,rfl,aq _,rfl⟩ ?_;rintro k ⟨hk,hb⟩;simp only[go_sem,aa];refine AAQ (fun h=>?_) (fun h=>?_)
 .have hk':k<q.out.length:=by simpa using h
  rw[UV cs q.out hk'] at hb;simp only[go_sem,aa,AA _ hk',hk',hwl];refine AAO _ (AL q.out[k] 0 _) fun _=>?_;rcases hv:Ae q.out[k] 0 ((cs.length:Int)-1) with _ | _
  .rw[hv,ac] at hb;simp only[go_sem,aa,hv,<- hb,ac]
  .rw[hv,ah] at hb;simp only[go_sem,aa,hv,wrap_i64 (n:=(k:Int)+1) (by omega) (by omega)];exact⟨k+1,⟨rfl,rfl⟩,rfl,⟨by omega,hb⟩,by omega⟩
 .have hk':k=q.out.length:=by simp at h; omega
  rw[hk',aK] at hb;have hb':MZ cs q.out=true:=by rw[<- hb]; rfl
  rw[hb',ah];simp only[go_sem,aa];refine AAO _ (AL q.out.length 1 3) fun _=>?_;rcases hA:Ae q.out.length 1 3 with _ | _
  .simp only[go_sem,aa,hA,ay]
  .simp only[go_sem,aa,hA,aw]):p:=h
theorem AG8(h:p:=by
 refine CW (hgr) fun _=>?_;simp only[go_sem];refine AAe 2 (A:=Nat) (fun x=>[(36,.c (.v (.int .i64 (x))))]) (fun _=>[⟨44,14,[w.c],true,true⟩,⟨139,5,[w.d.l[k].c],true,true⟩]) (FW (lM w w.d.l[k]) fun x=>DY w.d.l[k] x.id) (fun x=>(lM w w.d.l[k]).length-x) 0 ⟨⟨rfl,rfl⟩,rfl,D9⟩ ?_;intro j hj;simp only[go_sem];refine AAQ (fun h=>?_) (fun h=>?_)
 .have hj':j<(lM w w.d.l[k]).length:=by simpa using h
  simp only[go_sem,AA _ hj',hj'];try refine AAP ?_
  try simp only[go_sem,AA _ hj',hj']
  first | refine CY (Hy w.d.l[k] (lM w w.d.l[k])[j].id) ?_ | refine CW (Hy w.d.l[k] (lM w w.d.l[k])[j].id) fun _=>?_
  rcases h3:DY w.d.l[k] (lM w w.d.l[k])[j].id with _ | _
  .simp only[go_sem,h3,Ba (p:=SX w) hk' (by rw[hp1]; exact Ba (p:=fun x:DRow=>DY w.d.l[k] x.id) hj' h3)]
  .simp only[go_sem,h3,wrap_i64 (n:=(j:Int)+1) (by omega) (by omega)];exact⟨j+1,⟨rfl,rfl⟩,rfl,CB hj' hj h3,by omega⟩
 .have hj':j=(lM w w.d.l[k]).length:=by have:=hj.1; simp at h; omega
  subst hj';simp only[go_sem,wrap_i64 (n:=(k:Int)+1) (by omega) (by omega)];exact⟨k+1,⟨rfl,rfl⟩,rfl,CB hk' hk (by rw[hp1]; exact DX hj),by omega⟩):p:=h
theorem AG_(h:p:=by
 refine ABh (args:=[.c (.sl (cs.map intC)),.c (.sl ((rowsOf ids c).map DRow.c))]) _ (by simp only[D8,Ad,go_sem]) rfl (H9 cs (rowsOf ids c) (by rw[D6]; omega)) fun _=>?_;rcases hok:DD cs (rowsOf ids c) with _ | _
 .have hno:¬ (DD cs (rowsOf ids c)=true/\Au cs (rowsOf ids c)=b):=fun q=>by rw[hok] at q; cases q.1
  rw[ZM hno];simp only[go_sem,hok,W9];try simp[OwnL,AB,DR]
 simp only[go_sem,hok];refine ABh (args:=[.c (.sl (cs.map intC)),.c (.sl ((rowsOf ids c).map DRow.c))]) [.own 5 1 ((Au cs (rowsOf ids c)).map byteC) true] (by simp only[D8,Ad,go_sem]) (by simp only[aI,EH,aM,aw,AAC]) (KE cs (rowsOf ids c) (bZ n2 (by omega) hsz)) fun _=>?_;simp only[go_sem];refine AAO _ (MX (Au cs (rowsOf ids c)) b) fun _=>?_;rcases h6:decide (Au cs (rowsOf ids c)=b) with _ | _
 .have hno:¬ (DD cs (rowsOf ids c)=true/\Au cs (rowsOf ids c)=b):=fun q=>by simp at h6; exact h6 q.2
  rw[ZM hno];simp only[go_sem,hok,h6,W9];try simp[OwnL,AB,DR]
 .have hyes:DD cs (rowsOf ids c)=true/\Au cs (rowsOf ids c)=b:=⟨hok,by simpa using h6⟩;rw[sS hyes];simp only[go_sem,hok,h6,W9,Aj];try simp[OwnL,AB]):p:=h
theorem AHA(h:p:=by
 intro hpl hn0;unfold Ql at hpl;have hbs:Qx w k w.b[k]=U1 w k w.b[k]:=by simp only[Qx,hp1,ah]
 rcases h4:w.b[k].kind==0 with _ | _
 .have g4:(w.b[k].kind != 0)=true:=by simp[bne,h4]
  rcases h5:n != 1 with _ | _
  .simp only[go_sem,AA _ hk',hk',h4,g4,h5,wrap_i64 (n:=(k:Int)+1) (by omega) (by omega)];exact⟨k+1,⟨rfl,rfl⟩,rfl,Oy hk' hk (by rw[hbs,hpl,h4,g4,h5]; rfl),by omega⟩
  .simp only[go_sem,AA _ hk',hk',h4,g4,h5,Je (p:=Qx w) hk' (by rw[hbs,hpl,h4,g4,h5]; rfl),ac]
 .have g4:(w.b[k].kind != 0)=false:=by simp[bne,h4]
  rcases h5:n != 0 with _ | _
  .have g5:decide (n>0)=false:=by have:n=0:=(by simpa using h5); rw[this]; rfl
   simp only[go_sem,AA _ hk',hk',h4,g4,h5,wrap_i64 (n:=(k:Int)+1) (by omega) (by omega)];exact⟨k+1,⟨rfl,rfl⟩,rfl,Oy hk' hk (by rw[hbs,hpl,h4,g4,g5]; rfl),by omega⟩
  .have g5:decide (n>0)=true:=by have:n≠0:=(by simpa using h5); simp; omega
   simp only[go_sem,AA _ hk',hk',h4,g4,h5,Je (p:=Qx w) hk' (by rw[hbs,hpl,h4,g4,g5]; rfl),ac]):p:=h
theorem AHB(h:p:=by
 exact {
  defers:=rfl
  size:=by simp; omega
  lim:=hlim
  env:=fun i=>by
   rw[yJ (by simp; omega) rfl];simp only[QU,aq,aO,yG];rcases bh i args.length with hi | hi
   .obtain⟨u,hu,hr⟩:=hva i args[i] (by simp[hi]);have e1:args.getD i .un=args[i]:=by simp[hi]
    have e2:(vs.toArray++Array.replicate (fn.ntmps-vs.toArray.size) Go.undef).getD i Go.undef=u:=by
     have hiv:i<vs.length:=by omega
     simp only[aa6];rw[aay (by omega)];simp[hu]
    rw[e1,e2];exact hr.toAVR
   .have e1:args.getD i .un = .un:=by simp[hi]
    rw[e1];simp only[AVR]
  below:=BelowB.refl _ _
  st0:=fun _ _ h=>h
  stOld:=fun _ _ h _ _=>h
  stIn:=hSt
  obs:=fun l ob b hl=>by simp at hl
  nil:=fun l ob hl=>by simp at hl
  inj:=fun l l' ob ob' b hl=>by simp at hl
  sep:=fun l ob b o hl=>by simp at hl
  own:=⟨fun _ _ _=>False,fun l ob b k c hl=>by simp at hl,fun _ _ _ h=>h.elim,fun _ _ _ _ _ h=>h.elim⟩ }):p:=h
theorem AHC(h:p:=by
 have h1':x>=128:=by simp at h1; omega
 cases f with
 | zero=>simp at hx1; omega
 | succ f =>
 rw[eP,aV h1'] at hb;have hwt:IntKind.i64.wrap (x.tmod 128)=x%128:=by rw[aat (by omega),wrap_i64 (by omega) (by omega)]
 have hwd:IntKind.i64.wrap (x.tdiv 128)=x/128:=by rw[yD (by omega),wrap_i64 (by omega) (by omega)]
 have hwa:IntKind.i64.wrap (x%128+128)=x%128+128:=wrap_i64 (by omega) (by omega);have hwb:IntKind.i64.wrap (128+x%128)=x%128+128:=by rw[wrap_i64 (by omega) (by omega)]; omega
 have hwu:IntKind.u8.wrap (x%128+128)=x%128+128:=wrap_u8 (by omega) (by omega);simp only[go_sem,aI,aM,h1,aa,hwt,hwd,hwa,hwb,hwu,hol2,au];exact⟨(f,x/128,out ++ [x%128+128]),AAS [(2,false)] ⟨rfl,rfl,by rw[<- LY]; exact AY byteC.pure,trivial⟩ (by rw[<- LY]; rfl),⟨by simp only; omega,by simp only; omega,by simp only; rw[abe] at hx1; omega,by simp only; rw[<- hb,ba]; rfl⟩,by simp only; omega⟩):p:=h
theorem AHJ(h:p:=by
 rcases h3:Ae d.code 0 5 with _ | _
 .simp only[go_sem,Fv,h1,h2,h3,ay,aH]
 rcases h4:decide (d.stamp<0) with _ | _;rotate_left
 .simp only[go_sem,Fv,h1,h2,h3,h4,aw,aD,P7]
 rcases h5:decide (d.inv<0) with _ | _;rotate_left
 .simp only[go_sem,Fv,h1,h2,h3,h4,h5,aw,aD,P7,be]
 rcases h6:decide (d.id < -1) with _ | _;rotate_left
 .simp only[go_sem,Fv,h1,h2,h3,h4,h5,h6,aw,aD,P7,be]
 rcases h7:d.lin == -1 with _ | _
 .have h7':(d.lin != -1)=true:=by simp[bne,h7]
  rcases h8:decide (d.lin<d.inv) with _ | _;rotate_left
  .simp only[go_sem,Fv,h1,h2,h3,h4,h5,h6,h7,h7',h8,aw,aD,aH,P7,be]
  rcases h9:d.ret == -1 with _ | _;all_goals simp only[go_sem,Fv,h1,h2,h3,h4,h5,h6,h7,h7',h8,h9,aw,ay,ah,aD,aH,P7,be,abD]
 .have h7':(d.lin != -1)=false:=by simp[bne,h7]
  rcases h9:d.ret == -1 with _ | _;all_goals simp only[go_sem,Fv,h1,h2,h3,h4,h5,h6,h7,h7',h9,aw,ay,ac,aD,aH,P7,be,abD]):p:=h
theorem AHe(h:p:=by
 rcases h:Ae n 0 2000000000 with _ | _
 .simp only[go_sem,h,ZF]
 .have hb:0<=n/\n<=2000000000:=by simpa [Ae] using h
  obtain⟨m,rfl⟩:=aF hb.1;have e1:IntKind.i64.wrap ((m:Int).tmod 2)=(m:Int)%2:=by rw[aat (by omega)]; exact wrap_i64 (by omega) (by omega)
  simp only[go_sem,h,e1];refine AAQ (fun h1=>?_) (fun h1=>?_)
  .have h1':(m:Int)%2=1:=by simpa using h1
   simp only[go_sem];rw[wrap_i64 (n:=(m:Int)+1) (by omega) (by omega),wrap_i64 (n:=0-((m:Int)+1)) (by omega) (by omega)];have e2:(0-((m:Int)+1)).tdiv 2 = -(((m:Int)+1)/2):=by rw[show 0-((m:Int)+1) = -((m:Int)+1) by omega,Int.neg_tdiv,yD (by omega)]
   rw[e2,wrap_i64 (by omega) (by omega)];simp only[ZF,h,aO,zag,aV h1']
  .have h1':¬ (m:Int)%2=1:=by simpa using h1
   simp only[go_sem];rw[yD (by omega),wrap_i64 (by omega) (by omega)];simp only[ZF,h,aO,zag,aR h1']):p:=h
theorem AHf(h:p:=by
 rintro k ⟨hk,hf⟩;simp only[go_sem];refine AAQ (fun h=>?_) (fun h=>?_)
 .have hk':k<a.length:=by simpa using h
  have hk2:k<b.length:=by omega
  rw[iC a b hk' hk2] at hf;rcases hv:a[k]==b[k] with _ | _
  .have hv2:(a[k] != b[k])=true:=by simp[bne,hv]
   simp only[go_sem,AA _ hk',AA _ hk2,hk',hk2,hv,hv2];refine AAP ?_;simp only[go_sem,AA _ hk',AA _ hk2,hk',hk2,hv,hv2];rw[hv,ac] at hf;rw[hf]
  .have hv2:(a[k] != b[k])=false:=by simp[bne,hv]
   simp only[go_sem,AA _ hk',AA _ hk2,hk',hk2,hv,hv2];refine AAP ?_;simp only[go_sem,AA _ hk',AA _ hk2,hk',hk2,hv,hv2,wrap_i64 (n:=(k:Int)+1) (by omega) (by omega)];rw[hv,ah] at hf;exact⟨k+1,⟨rfl,rfl⟩,rfl,⟨by omega,hf⟩,by omega⟩
 .have hk':k=a.length:=by simp at h; omega
  subst hk';simp only[go_sem];rw[<- hf,aK,he,aK]; rfl):p:=h
theorem AH8(h:p:=by
 have e1:=hb.ret;subst e1;obtain⟨Φs3,hr3,_⟩:=hb3.res;have k3:=oM rs hr3;refine⟨St3,β,k1.put o.dst (Lj ?_)⟩
 have key:∀ (xs:List AV) (us:List Value),RdAs w' St3 xs us->AVRs w' St3 s.st β xs us:=by
  intro xs;induction xs with
  | nil=>intro us h; simp only[AVRs]; exact h
  | cons x xs ih =>
   intro us h
   obtain⟨y,ys,h1,h2,h3⟩:=h
   simp only[AVRs]
   exact⟨y,ys,h1,h2.toAVR,ih ys h3⟩
 grind):p:=h
theorem AH9(h:p:=by
 rintro k ⟨hk,hb⟩;simp only[go_sem];refine AAQ (fun h=>?_) (fun h=>?_)
 .have hk':k<p.l.length:=by simpa using h
  have hk2:k<q.l.length:=by omega
  rw[Y6 p.l q.l hk' hk2] at hb;simp only[go_sem,AA _ hk',AA _ hk2,hk',hk2];try refine AAP ?_
  try simp only[go_sem,AA _ hk',AA _ hk2,hk',hk2]
  first | refine CY (hx p.l[k] (an hk') q.l[k] (an hk2)) ?_ | refine CW (hx p.l[k] (an hk') q.l[k] (an hk2)) fun _=>?_
  rcases hv:Oz p.l[k] q.l[k] with _ | _
  .simp only[go_sem,hv];rw[hv,ac] at hb;rw[<- hb]
  .simp only[go_sem,hv,wrap_i64 (n:=(k:Int)+1) (by omega) (by omega)];rw[hv,ah] at hb;exact⟨k+1,⟨rfl,rfl⟩,rfl,⟨by omega,hb⟩,by omega⟩
 .have hk':k=p.l.length:=by simp at h; omega
  subst hk';simp only[go_sem];rw[<- hb,aK,he,aK,IG]):p:=h
theorem AH_(h:p:=by
 rintro k ⟨hk,hf⟩;simp only[go_sem,aa];refine AAQ (fun h=>?_) (fun h=>?_)
 .have hk':k<a.length:=by simpa using h
  have hk2:k<b.length:=by omega
  rw[eH a b hk' hk2] at hf;simp only[go_sem,aa,AA _ hk',AA _ hk2,hk',hk2];try refine AAP ?_
  try simp only[go_sem,aa,AA _ hk',AA _ hk2,hk',hk2]
  have e1:(a[k].ty==b[k].ty&&(a[k].n==b[k].n&&a[k].s.toList==b[k].s.toList))=N7 a[k] b[k]:=rfl;try simp only[EW,IZ,e1,aw]
  rcases hv:N7 a[k] b[k] with _ | _
  .simp only[go_sem,hv,e1,aH,aw];grind
  .simp only[go_sem,hv,e1,aD,wrap_i64 (n:=(k:Int)+1) (by omega) (by omega)];rw[hv,ah] at hf;exact⟨k+1,⟨rfl,rfl⟩,rfl,⟨by omega,hf⟩,by omega⟩
 .have hk':k=a.length:=by simp at h; omega
  subst hk';simp only[go_sem];rw[<- hf,aK,he,aK]; rfl):p:=h
theorem AIB(h:p:=by
 simp only[go_sem,F,g01,ag,aj,ab,ae];refine AAR ?_;simp only[go_sem,F,gx0,ag,aj,ab,ae,ao,ap];refine ABz _ _ (InlS.bor (args':=[.agg w.c,.agg r1.c,.c (.v (.int .i64 (t.ts)))]) [.own 194 2 ((Ag w r1 t.ts).map DRow.o) true] ⟨Nw (AO rfl (AQ _) (Ad _)) (AO rfl (BC _) (BV _)) (AO rfl (A7 _) (Ar _)) (AO rfl (AQ _) (Ad _)) (AO rfl (Ci _) (Bi _)) (AO rfl (AQ _) (Ad _)) (BorX.set rfl DTask.o_nr DTask.o_er fun x hx=>by rw[am hlt,hat] at hx; cases hx; exact MW rfl rfl rfl rfl rfl hm hxs) (AO rfl (Cb _) (BH _)),Jp r1,.inl rfl,trivial⟩ (by simp only[aI,EH,GG,aM,aw]) (by simpa only[go_sem] using QY w r1 t.ts hf)) ?_;simp only[go_sem,F,aa,gx0,gw1,ag,aj,ab,ae,hz1];exact⟨1,rfl,by decide,by decide⟩):p:=h
theorem AIC(h:p:=by exact⟨x+1,AAS [] ⟨rfl,rfl,trivial⟩ (by rw[hb]; rfl),hx',by omega⟩):p:=h
theorem AID(h:p:=by
 simp only[go_sem] at hset;simp only[go_sem,AA _ hk',Bq hk,EP hk',hk',hset,wrap_i64 (n:=(k:Int)+1) (by omega) (by omega)];refine CW (hx xs[k] (an hk')) fun _=>?_;simp only[go_sem,AA _ hk',Bq hk,EP hk',hk',hset,wrap_i64 (n:=(k:Int)+1) (by omega) (by omega)];exact⟨k+1,⟨rfl,hg _⟩,rfl,by omega,by first | omega | (simp only; omega)⟩):p:=h
theorem AIE(h:p:=by
 first | refine AAt _ (AL t.pc 2 5) ?_ | refine AAO _ (AL t.pc 2 5) fun _=>?_
 rcases r1:Ae t.pc 2 5 with _ | _
 .simp only[go_sem,r1,aH,P7]
 simp only[go_sem,r1,aD,be];try refine AAP ?_
 try simp only[go_sem,r1]
 first | refine AAt _ (AL (t.l.length:Int) 1 2) ?_ | refine AAO _ (AL (t.l.length:Int) 1 2) fun _=>?_
 simp only[go_sem]):p:=h
theorem AIF(h:p:=by
 simp only[go_sem,AA _ hk',Bq hk,EP hk',hk',hset,wrap_i64 (n:=(k:Int)+1) (by omega) (by omega)];exact⟨k+1,⟨rfl,hg _⟩,rfl,by omega,by first | omega | (simp only; omega)⟩):p:=h
theorem AIG(h:p:=by try simp[OwnL,AB]):p:=h
theorem AI4(h:p:=by
 unfold Af at hs; unfold O5 at hz; unfold ET at hb;cases hi:P.info? e with
 | none=>grind
 | some i =>
  cases hiz:i.zero with
  | none=>grind
  | some z' =>
   grind):p:=h
theorem AI5(h:p:=by
 simp only[go_sem,DTask.o_eq,F,GI,DU,hl1];simp[AB,DR,Ij]):p:=h
theorem AI6(h:p:=by
 rcases h2:Ae w 0 31 with _ | _
 .have:¬ ((0<=k/\k<=64)/\0<=w/\w<=31):=by simp[Ae] at h2; omega
  simp only[go_sem,h,h2,F9,aR this]
 have hk:0<=k/\k<=64:=by simp[Ae] at h; omega
 have hw:0<=w/\w<=31:=by simp[Ae] at h2; omega
 have hm:0<=k*w:=aaY hk.1 hw.1;have hm2:k*w<=64*31:=Int.le_trans (aah hk.2 hw.1) (abf hw.2 (by omega));have e1:IntKind.i64.wrap (k*w)=k*w:=wrap_i64 (by omega) (by omega);have e2:IntKind.i64.wrap (k*w+7)=k*w+7:=wrap_i64 (by omega) (by omega);have e3:IntKind.i64.wrap ((k*w+7).tdiv 8)=(k*w+7)/8:=by rw[yD (by omega),wrap_i64 (by omega) (by omega)]
 simp only[go_sem,h,h2,F9,hk,hw,e1,e2,e3,and_self,aO]):p:=h
theorem AI7(h:p:=by
 refine EndH.close 8 n0 [11,12,13,14,15] (row':=DTask.o (IV t (Ah w))) rfl (hF _).1 rfl (by decide) ?_ ?_
 .simp only[go_sem,DTask.o_eq,F,IV,hl1];simp[AB,DR,Ij]
 simp only[Aa,BR,go_sem,al];refine EndH.close 4 q [16,17] (row':=DBuf.o (w.b[q])) rfl (aN (by simpa using hq)) rfl (by decide) ?_ ?_
 .simp only[go_sem];simp[AB]
 simp only[Aa,BR,go_sem,al];have hs3:(w.b.map DBuf.o).set q (DBuf.o w.b[q])=w.b.map DBuf.o:=by rw[<- bn,abc]
 simp only[go_sem] at hs3;have hs1:=hst (IV t (Ah w));simp only[go_sem] at hs1;simp only[go_sem,hs1,hs3];refine EndH.self ?_;simp only[go_sem,setT,He,aO];simp[AB]):p:=h
theorem AI8(h:p:=by
 simp only[go_sem,aa,AA _ hi',AA _ h0,au];rcases h2:BX l[i] with _ | _
 .rw[Tf h0 (i:=i) hi' (fun q=>by rw[h2] at q; cases q.1)];simp only[go_sem,h2]
 rcases h3:l[i].ty != l[0].ty with _ | _
 .have h3':l[i].ty=l[0].ty:=by simpa using h3
  simp only[go_sem,aa,AA _ hi',AA _ h0,h2,h3,wrap_i64 (n:=(i:Int)+1) (by omega) (by omega)]
  exact⟨i+1,⟨rfl,rfl⟩,rfl,⟨hi',fun m h4 h5=>by
   by_cases e:m=i
   .subst e; exact⟨h2,h3'⟩
   .exact hb m h4 (by omega)⟩,by omega⟩
 .have h3':l[i].ty≠l[0].ty:=by simpa using h3
  rw[Tf h0 (i:=i) hi' (fun q=>h3' q.2)];simp only[go_sem,aa,AA _ hi',AA _ h0,h2,h3]):p:=h
theorem AI9(h:p:=by
 refine⟨(k+1,out ++ [⟨IntKind.i64.wrap (first+k),c.l[k].l⟩]),⟨[(0,false),(5,true),(3,false)],⟨rfl,rfl,rfl,Ic DRow.o_nr _ out rfl,AY DVal.pure,trivial⟩,.inr ⟨out.length,out.map DRow.o ++ [DRow.o ⟨IntKind.i64.wrap (first+k),c.l[k].l⟩],_,DRow.o ⟨IntKind.i64.wrap (first+k),c.l[k].l⟩,_,⟨dD 1,rfl,Ib DRow.o_nr _ out _ _,by simp,rfl⟩,
  ⟨rfl,rfl,rfl,rfl,rfl,rfl,Ce _,by simp[EM],fun l hl=>by simp[EM] at hl; omega⟩,⟨rfl, ?tr⟩, ?eq⟩⟩,⟨hk',by rw[WG hk' hc,<- hb]⟩,by simp only; omega⟩
 case tr=>unfold BJ; rw[BM]; exact all2 rfl (AX (Aj _))
 case eq=>unfold BJ; rw[BM]; rfl):p:=h
theorem AI_(h:p:=by
 simp only[go_sem];rcases h3:Bh b q' with _ | ⟨n,q2⟩<;>rw[h3] at hg2 hb2<;>simp only[WJ] at hg2
 .refine AAO _ hg2 fun _=>?_;simp only[W_] at hb2;rw[<- hb2];simp only[go_sem,ZH];try simp[DR]
 .refine AAO _ hg2 fun _=>?_;have hl2:l.length+1<=2147483648:=by omega
  simp only[go_sem,aa,aI,aM,hl2,au,wrap_i64 (n:=(i:Int)+1) (by omega) (by omega)];exact⟨(i+1,q2,l ++ [n]),AAS [(2,false)] ⟨rfl,rfl,by rw[<- FV]; exact AY Xz,trivial⟩ (by rw[<- FV]; rfl),⟨hi',by simp; omega,by rw[<- hb2,aaT]; congr 1; funext y; simp⟩,by simp only; omega⟩):p:=h
theorem AJA(h:p:=by
 refine⟨(k+1,out ++ [c.l[k]]),ABi [(0,false),(1,true),(2,true),(7,true),(5,false)] 4 3 ⟨rfl,rfl,rfl,rfl,rfl,Ic DSlot.o_nr _ out rfl,AY DVal.pure,trivial⟩ ⟨out.length,out.map DSlot.o ++ [DSlot.o c.l[k]],_,DSlot.o c.l[k],_,⟨dD 3,rfl,Ib DSlot.o_nr _ out _ _,by simp,rfl⟩,
  ⟨rfl,rfl,rfl,rfl,rfl,rfl,Ce _,by simp[EM],fun l hl=>by simp[EM] at hl; omega⟩,⟨rfl, ?tr⟩, ?eq⟩,⟨hk',by simp; omega,(ba _ _ _).trans hb⟩,by simp only; omega⟩
 case tr=>unfold BJ; rw[BM]; exact AF7 rfl rfl rfl (AX (Gq _))
 case eq=>unfold BJ; rw[BM,bl]; rfl):p:=h
theorem AJB(h:p:=by
 simp only[go_sem];exact EndH.self (by simp only[go_sem]; simp[AB])):p:=h
theorem AJC(h:p:=by simp only[go_sem]):p:=h
theorem AJ6(h:p:=by
 cases hl:listed.getD j false with
 | true=>rw[F7 (X:=fun j=>if i=j then true else listed.getD j false) hdst hj (by simp only[hne,aL]; exact hl) ops.size hjs,F7 (X:=fun j=>listed.getD j false) hdst hj hl ops.size hjs]
 | false=>rw[Bg (X:=fun j=>if i=j then true else listed.getD j false) ops.size (fun k _ hk=>by have:=hdst k j t hk hj; subst this; simp only[hne,aL]; exact hl),Bg (X:=fun j=>listed.getD j false) ops.size (fun k _ hk=>by have:=hdst k j t hk hj; subst this; exact hl)]):p:=h
theorem AJ7(h:p:=by
 intro k hk;simp only[go_sem,aa];refine AAQ (fun h=>?_) (fun h=>?_)
 .have hk':k<l.length:=by simpa using h
  have hf:=jo (fun n t=>if(t.kind==0)=true then IntKind.i64.wrap (n+1) else n) (0) l hk'
  rcases hc:l[k].kind==0 with _ | _ <;>
   simp only[go_sem,aa,AA _ hk',hk',hc,wrap_i64 (n:=(k:Int)+1) (by omega) (by omega)] <;>
   exact⟨k+1,⟨rfl,rfl⟩,by simp only[hf,hc]; rfl,by omega,by omega⟩
 .have hk':k=l.length:=by simp at h; omega
  subst hk';simp only[go_sem,aX];try rfl):p:=h
theorem AJ8(h:p:=by
 rw[e];simp only[go_sem,h1];try simp[OwnL,AB,DR]):p:=h
theorem AJ9(h:p:=by
 refine EndH.self ?_;have e3:w.deeds.map DDeed.o ++ [DDeed.o (Xo w n0 Bz Ea)]=(w.deeds ++ [Xo w n0 Bz Ea]).map DDeed.o:=by simp
 have e4:O_ w n0 Bz Ea 0=⟨w.c0,IntKind.i64.wrap (w.time+1),w.t,w.e,w.d,w.b,w.m,w.x,w.p,w.tasks.set n0 (Ph w Bz),w.deeds ++ [Xo w n0 Bz Ea]⟩:=by simp[O_]; rfl
 have e5:(w.tasks.map DTask.o).set n0 (DTask.o (Ph w Bz))=(w.tasks.set n0 (Ph w Bz)).map DTask.o:=bn.symm;simp only[go_sem] at e3 e5;simp only[go_sem,e4,e5];simp[AB];try rfl):p:=h
theorem AJ_(h:p:=by
 intro k hk;simp only[go_sem];refine AAQ (fun h=>?_) (fun h=>?_)
 .have hk':k<d.l.length:=by simpa using h
  rcases h1:d.l[k].buf==n with _ | _
  .simp only[go_sem,AA _ hk',hk',h1,wrap_i64 (n:=(k:Int)+1) (by omega) (by omega)];exact⟨k+1,⟨rfl,rfl⟩,rfl,CB hk' hk (by simp[h1]),by omega⟩
  .simp only[go_sem,AA _ hk',hk',h1,FC,qF (p:=fun r:DRef=>r.buf==n) hk' h1]
 .have hk':k=d.l.length:=by have:=hk.1; simp at h; omega
  subst hk';simp only[go_sem,FC,zO hk]):p:=h
theorem AKA(h:p:=by
 refine CW (hc) fun _=>?_;simp only[go_sem,BC];try simp[AB]):p:=h
theorem AKB(h:p:=by
 rcases h5:FT b (n:Int) != 0 with _ | _
 .have h5':FT b (n:Int)=0:=by simpa using h5
  simp only[go_sem,h5,wrap_i64 (n:=(n:Int)+1) (by omega) (by omega)]
  exact⟨n+1,⟨rfl,all1 (AX (AQ _))⟩,rfl,⟨by omega,by omega,fun m h1 h2=>by
   grind⟩,by omega⟩
 .have h5':FT b (n:Int)≠0:=by simpa using h5
  have:unpack b W i=none:=by unfold unpack;rw[aR];rintro⟨_,q⟩;exact h5' (q n (abj.2 hn') (by omega))
  rw[this];simp only[go_sem,h5,Zl];try simp[DR]):p:=h
theorem AKC(h:p:=by
 subst hne;have hy0:([]:List (List Cl)).length=0:=rfl;rw[hy0] at hvy;have hrun:(Builtin.append_ #[T,T] o.type #[a.eval x,a.eval y]).run P w = .ok (.slice none 0 0) w:=by rw[hvx,hvy]; exact IP ht hs none 0 0 (aG _) ad capy w
 obtain⟨a1,a2,a3⟩:=k1.addOb ⟨e,n,[],ob.wr,true⟩ none (fun _=>rfl) (by simp) k1.own (by simp);refine⟨_,.slice none 0 0,w,St,_,hexec _ _ hrun,.inl rfl,a1, ?_⟩;rw[<- hkl];exact Nq (b:=none) rfl (by simp) fun _=>⟨rfl,rfl⟩):p:=h
theorem AKD(h:p:=by
 rcases h:EE n with _ | _
 .simp only[go_sem,h,ZE]
 .have hb:=Tc.1 h;simp only[go_sem,h];refine AAQ (fun h1=>?_) (fun h1=>?_)
  .have h1':n<0:=by simpa using h1
   simp only[go_sem];rw[wrap_i64 (n:=-2*n) (by omega) (by omega),wrap_i64 (n:=-2*n-1) (by omega) (by omega)];simp only[ZE,h,aO,zig,aV h1']
  .have h1':¬ n<0:=by simpa using h1
   simp only[go_sem];rw[wrap_i64 (n:=2*n) (by omega) (by omega)];simp only[ZE,h,aO,zig,aR h1']):p:=h
theorem AKZ(h:p:=by
 simp only[go_sem];refine AAQ (fun h=>by simp only[go_sem,J_ h]) fun h=>?_;have h0:=Qy h;simp only[go_sem,KA h]):p:=h
theorem AKc(h:p:=by
 rw[Ip ((Du _).2 ⟨by omega,by omega⟩)];have hnb2:=Di ((A8 (Ha l (k:Int))).length:Int);have hl3:(JM (l.map DRow.id)).length+(Iw l k).length+(Ey (A8 (Ha l (k:Int))).length).length+(A8 (Ha l (k:Int))).length<=2147483648:=by omega
 simp only[go_sem,hl3,Fh,Ou,wrap_i64 (n:=(k:Int)+1) (by omega) (by omega)];exact⟨k+1,AAS [(4,false)] ⟨rfl,rfl,EI _,trivial⟩ (by rw[hs]; simp only[ba]; rfl),hk',by omega⟩):p:=h
theorem AKg(h:p:=by try simp[OwnL,AB,DR]):p:=h
theorem AKh(h:p:=by
 have g5:((t.l.length:Int) != 1)=true:=by simp only[bne,h5,aH]
 simp only[go_sem,g5,ac];try refine AAP ?_
 try simp only[go_sem,g5]):p:=h
theorem AKi(h:p:=by
 rcases hn:d.l.length with _ | k
 .have e0:((d.l.length:Int)==0)=true:=by rw[hn]; rfl
  simp only[go_sem,e0,lL (List.length_eq_zero_iff.1 hn)]
 obtain⟨hk,he⟩:=wI hn;have e0:((d.l.length:Int)==0)=false:=by rw[hn]; simp; omega
 have e1:IntKind.i64.wrap ((d.l.length:Int)-1)=(k:Int):=by rw[wrap_i64 (by omega) (by omega)]; omega
 simp only[go_sem,e0,e1,AA _ hk,hk,he]):p:=h
theorem AKj(h:p:=by
 by_cases e2:b'=b0
 .subst e2;have ho:=(hkeep o hbo).2;rw[hosz] at ho;rw[World.cell?,World.cell?,setRow_heap w b' cs C' ob.ty (0,0) c3,c3];grind
 grind [cell_of_block,setRow_other]):p:=h
theorem AKx(h:p:=by
 refine AAO _ hr fun _=>?_;simp only[go_sem,Dx]):p:=h
theorem AK5(h:p:=by
 rcases hv:BX vs[k] with _ | _
 .simp only[go_sem,hv];grind
 .simp only[go_sem,hv,AA _ hk',AA _ hk2];rcases ht:vs[k].ty==cs[k] with _ | _
  .simp only[go_sem,bne,ht];grind
  .simp only[go_sem,bne,ht,wrap_i64 (n:=(k:Int)+1) (by omega) (by omega)];rw[hv,ht] at hf;simp only[aw,ah] at hf;exact⟨k+1,⟨rfl,rfl⟩,rfl,⟨by omega,hf⟩,by omega⟩):p:=h
theorem AK6(h:p:=by
 have e7:((p:Int)+1+(c:Int)==0)=false:=by simp; omega
 have e8:((p+1+c:Nat):Int)=(p:Int)+1+(c:Int):=by omega
 rcases hv:BX ⟨2,0,strOfNums ((b.drop (p+1)).take c)⟩ with _ | _
 .simp only[go_sem,hv,fU,Qs,ax,aL]
 .simp only[go_sem,hv,e7,fU,e8,wrap_i64 (n:=(p:Int)+1) (by omega) (by omega),wrap_i64 (n:=(p:Int)+1+(c:Int)) (by omega) (by omega)]):p:=h
theorem AK8(h:p:=by
 induction i using Nat.strongRecOn with
 | _ i ih =>
  intro hi
  cases hc:listed.getD i false with
  | true=>rfl
  | false =>
   exfalso
   have:i∈Region.ready .any ops listed:=by
    rw[mem_ready];refine⟨?_,ops[i],by simp[hi],fun e he hb=>?_⟩
    .grind
    .have:=(Gs hok (i:=i) (o:=ops[i]) (by simp[hi])).1 e he hb;grind
   grind):p:=h
theorem AK9(h:p:=by
 obtain⟨q1,q2,cs,g1,g2,g3⟩:=h.obs l ob b (hg l ob hl) hlive hβ;refine⟨q1,q2,cs,g1,g2,fun k c hk=>?_⟩;obtain⟨u,hu,hr⟩:=g3 k c hk;refine⟨u,hu,ul ?_ hr⟩;have hno:=aC.1 t2 ob (aT hl);obtain⟨x,hx,hcx⟩:=aa0.1 (aT hk);simp only[Aq,aaN] at hno;rcases hno with hno | hno
 .have:=aC.1 (aC.1 hno x hx) c hcx;cases c<;>simp_all [AB,JQ]
 grind):p:=h
theorem AK_(h:p:=by
 simp only[go_sem];refine AAQ (fun h=>by simp only[go_sem,J_ h]) fun h=>?_;have h1:=Qy h;simp only[go_sem,KA h]):p:=h
theorem ALA(h:p:=by
 refine AAO _ hg2 fun _=>?_;have hl2:l.length+1<=2147483648:=by omega
 simp only[go_sem,hl2,wrap_i64 (n:=(i:Int)+1) (by omega) (by omega)];exact⟨(i+1,q2,l ++ [n]),AAS [(3,false)] ⟨rfl,rfl,NQ l n,trivial⟩ (by rw[G5]; rfl),⟨hi',by simp; omega,by rw[<- hb2,aaT]; congr 1; funext y; simp⟩,by simp only; omega⟩):p:=h
theorem ALB(h:p:=by
 have hj':j=W:=by simp at h2; omega
 subst hj';have hol2:i+1<=2147483648:=by omega
 simp only[go_sem,aa,AAx,aI,aM,hol2,au,wrap_i64 (n:=(i:Int)+1) (by omega) (by omega)];exact⟨i+1,AAS [(2,false)] ⟨rfl,rfl,by rw[<- hsucc]; exact AY (fun _=>rfl),trivial⟩ (by rw[<- hsucc]; rfl),hi',by omega⟩):p:=h
theorem ALE(h:p:=by
 refine Head.abs 1 0 [4] ⟨m,l.map DBuf.o,_,DBuf.o (gone (IntKind.i64.wrap (l[m].gen+1))),_,⟨dD 0,rfl,rfl,by simpa using hm,rfl⟩,
 by simp[gone,DBuf.o_eq,DChunk.o_eq,OwnL,AB],⟨rfl, ?tr⟩, ?eq⟩
 case tr=>unfold BJ; rw[<- bn]; exact allA (AX (A7 _))
 case eq=>unfold BJ; rw[<- bn]; rfl):p:=h
theorem ALF(h:p:=by
 rcases hc:came c.l[k].ins ts with _ | _
 .simp only[go_sem,hc,sV hk' hc]
 .simp only[go_sem,hc,wrap_i64 (n:=(k:Int)+1) (by omega) (by omega)]
  exact⟨k+1,⟨rfl,rfl⟩,rfl,⟨hk',fun i h2 h3=>by
   by_cases e:i=k
   .subst e; exact hc
   .exact hall i h2 (by omega)⟩,by omega⟩):p:=h
theorem ALG(h:p:=by exact⟨1,rfl,by decide,by decide⟩):p:=h
theorem ALH(h:p:=by
 subst hj';simp only[go_sem,Fj,wrap_i64 (n:=(i:Int)+1) (by omega) (by omega)]
 exact⟨(i+1,out++List.replicate j r[i].1),AAS [(0,false)] ⟨rfl,rfl,Qa _,trivial⟩ rfl,⟨hi',by simp; omega,by
  rw[<- hp,aaT,aP,aaa]; congr 1; funext y; simp⟩,by simp only; omega⟩):p:=h
theorem ALI(h:p:=by simp only[go_sem,Dx]):p:=h
theorem ALJ(h:p:=by
 cases c with
 | ow ty sz xs=>exact hc
 | v y=>exact hkr (.v y) u hc
 | sl y=>exact hkr (.sl y) u hc
 | ref y=>exact hkr (.ref y) u hc):p:=h
theorem ALK(h:p:=by
 intro v w' hr;simp[execOp,ho,resolve,hcl,ha1,ha2,invoke,builtin,hr]):p:=h
theorem ALM(h:p:=by
 have key:∀ m,m<=ops.size->B_ ops R env (fun _=>true) m=B_ ops R env (fun i=>listed.getD i false) m:=by
  intro m;induction m with
  | zero=>intro _; rfl
  | succ m ih=>intro hm; simp only[B_,ih (by omega),hl m (by omega)]
 rw[key ops.size (aG _)]):p:=h
theorem ALN(h:p:=by
 rw[ea] at hcall;refine hcall.mono fun e w' hb=>?_;obtain⟨us,bs,St2,hb⟩:=hb;obtain⟨β',k1,k2⟩:=Rj q1 hb;have hwf:ZA rs:=by obtain⟨Φs,hr,_⟩:=hb.res;exact hr.wf
 have e1:=hb.ret;subst e1;exact⟨_,hK hwf,Yd _ _ _,St2,β',k1.put o.dst (Lj k2)⟩):p:=h
theorem ALO(h:p:=by
 have h7':c>=128:=by simp at h7; omega
 rw[aV h7'] at hg;simp only[go_sem,h7,hwi];exact⟨(i+1,x+c%128*128 ^ i),⟨rfl,rfl⟩,rfl,⟨by simp only; omega,by simp only; omega,hP2,by rw[show 5-(i+1)=4-i by omega]; exact hg⟩,by simp only; omega⟩):p:=h
theorem ALP(h:p:=by
 have hk':k<xs.length:=by simpa using h
 simp only[go_sem];refine AAP ?_;simp only[go_sem,aa,as_,av,AA _ hk',hk',wrap_i64 (n:=(k:Int)+1) (by omega) (by omega)];exact⟨k+1,⟨rfl,rfl⟩,rfl,by omega,by first | omega | (simp only; omega)⟩):p:=h
theorem ALQ(h:p:=by
 rcases h2:Ae l[k] 0 e with _ | _
 .simp only[go_sem,h2,PH,Ba (p:=SL e) hk' (by simp[SL,h1,h2])]
 .simp only[go_sem,h2,wrap_i64 (n:=(k:Int)+1) (by omega) (by omega)];exact⟨k+1,⟨rfl,rfl⟩,rfl,CB hk' hk (by simp[SL,h1,h2]),by omega⟩):p:=h
theorem ALR(h:p:=by
 have hn':n=8*b.length:=by simp at h2; omega
 subst hn';have:unpack b W i=some (qY b W i):=by unfold unpack;rw[aV ⟨⟨hw0,hk0,hlen⟩,fun n hn h=>hz n (by omega) (abj.1 hn)⟩];simp only[aZ,qY]
 rw[this];simp only[go_sem,Zl,AQ];grind):p:=h
theorem ALS(h:p:=by
 simp only[Op.operands,Call.operands,aaQ,jr,ar] at hc;exact hc.2):p:=h
theorem ALT(h:p:=by
 rcases h2:N7 d[i] v with _ | _
 .simp only[h2,ax,aL] at hp;simp only[go_sem,h2,wrap_i64 (n:=(i:Int)+1) (by omega) (by omega)];exact⟨i+1,⟨rfl,rfl⟩,rfl,⟨hi',hp⟩,by omega⟩
 .simp only[h2,aO] at hp;rw[<- hp];simp only[go_sem,h2]):p:=h
theorem ALU(h:p:=by
 rw[h3] at hn;simp only[go_sem,AA _ hi',hi',hk1,h3];try refine AAP ?_
 try simp only[go_sem,AA _ hi',hi',hk1,h3]
 simp only[go_sem,wrap_i64 (n:=(i3:Int)+1) (by omega) (by omega)];exact⟨i3+1,⟨rfl,rfl⟩,by rw[hn]; rfl,hi',by omega⟩):p:=h
theorem ALV(h:p:=by
 simp only[go_sem,h1,h2,wrap_i64 (n:=(i:Int)+1) (by omega) (by omega)]
 exact⟨i+1,⟨rfl,rfl⟩,rfl,⟨hi',fun m h3 h4=>by
  by_cases e:m=i
  .subst e; simp[Ae] at h1; simp at h2; exact⟨h1,h2⟩
  .exact hb m h3 (by omega)⟩,by omega⟩):p:=h
theorem ALW(h:p:=by
 rw[<- hkl];exact Nq (b:=some b0) rfl (by simp) fun _=>⟨cap,C',by simp,by grind,c2,by grind [setRow_heap],by grind⟩):p:=h
theorem ALY(h:p:=by
 rw[h3] at hn;simp only[go_sem,AA _ hi',hi',h3];try refine AAP ?_
 try simp only[go_sem,AA _ hi',hi',h3]
 simp only[go_sem,wrap_i64 (n:=(i2:Int)+1) (by omega) (by omega)];exact⟨i2+1,⟨rfl,rfl⟩,by rw[hn]; rfl,hi',by omega⟩):p:=h
theorem ALZ(h:p:=by
 obtain⟨v1,v2⟩:=oh (P:=P) (Q:=Q) hok d1 p1 g1 hne L (Array.replicate l.toArray.size false) (Array.replicate (Ia σ1 e1 e2 l).toArray.size false) (by simp) (by rw[dR p1]; simp) (fun i hi=>by grind) hv (.inr hb);grind):p:=h
theorem ALa(h:p:=by
 simp only[hkl,aP] at g2;have earr:(cs.toList.take (ob.xs.length*n)++news).toArray=(cs.toList.take (ob.xs.length*n)).toArray++news.toArray:=by simp
 rw[earr] at g1 g2;exact⟨_,_,_,St,β',hexec _ _ hr,.inl rfl,g1,g2⟩):p:=h
theorem ALb(h:p:=by exact⟨i2+1,⟨rfl,rfl⟩,by rw[hn]; rfl,hi',by omega⟩):p:=h
theorem ALc(h:p:=by exact⟨i3+1,⟨rfl,rfl⟩,by rw[hn]; rfl,hi',by omega⟩):p:=h
theorem ALd(h:p:=by
 repeat (refine AAR ?_; simp only[go_sem,F,al,ak,dm0,dm1,aa])
 exact⟨rfl,rfl⟩):p:=h
theorem ALe(h:p:=by
 unfold BJ;have:=BM (f:=DRow.o) ((ids.take i).map fun n=>(⟨n,[]⟩:DRow)) ⟨ids[i],[]⟩;rw[show ((ids.take i).map fun n=>(⟨n,[]⟩:DRow)).length=i by simp; omega] at this;rw[this,J3 (fun n=>(⟨n,[]⟩:DRow)) hi'];rfl):p:=h
theorem ALg(h:p:=by simp only[go_sem,as_,av]):p:=h
theorem ALh(h:p:=by
 by_cases hids:ids = []
 .have hx:=hemp hids;simp only[bb] at hx;obtain⟨_,hp0,hc0⟩:=hx;rw[hc0,hp0]; exact aV hids
 .have hne:=hne hids;rw[hk',aK,Hq] at hne;simp only[bi,bc] at hne;rw[hne]; exact aR hids):p:=h
theorem ALi(h:p:=by
 refine ACk (Head.same _) ?_;simp only[go_sem,A7];try simp):p:=h
theorem ALj(h:p:=by
 have hr:CE cs q=((q.col==0)&&((q.out.length:Int)==0)):=by simp[CE,h1,k1,k2]
 rw[hr];rcases hA:(q.col==0) with _ | _
 .simp only[go_sem,aa,h1,c1,k1,k2,hA,ac]
 .simp only[go_sem,aa,h1,c1,k1,k2,hA,ah]):p:=h
theorem ALk(h:p:=by exact RdCs.glue (o:=0) (n:=1) r0 rfl (RdCs.glue (o:=1) (n:=1) r1 rfl (RdCs.last (o:=2) (n:=1) r2 hl))):p:=h
theorem ALl(h:p:=by
 cases x with
 | v y=>simp only[RdC,RdD] at h; grind [nZ]
 | sl xs=>simp only[RdC,RdD] at h; obtain⟨a,cap,rfl,_⟩:=h; rfl
 | ref l=>simp only[RdC,BQ] at h; grind
 | ow ty sz xs=>simp[RdC,RdD] at h):p:=h
theorem ALm(h:p:=by
 simp only[go_sem,codeW,FK,Fb,Kr,DWorld.o_eq,aO,eT];simp[AB,DU,hm,hl1]):p:=h
theorem ALn(h:p:=by
 intro i hi;have h0:listed.toList.countP (fun b=>!b)=0:=by omega
 rw[List.countP_eq_zero] at h0;have hi':i<listed.size:=by omega
 have:=h0 listed[i] (by simp);simp[hi'] at this ⊢;exact this):p:=h
theorem ALo(h:p:=by exact RdCs.glue (o:=0) (n:=1) r0 rfl (RdCs.last (o:=1) (n:=1) r1 hl)):p:=h
theorem ALp(h:p:=by
 have hi':i=l.length:=by simp at h; omega
 subst hi';have:typeOf l=l[0].ty:=TW hlen.1 hlen.2 fun v hv=>by obtain⟨m,hm,rfl⟩:=aaE hv;exact hb m hm hm
 rw[this];simp only[go_sem,aa,AA _ h0]):p:=h
theorem ALq(h:p:=by
 have:typeOf l=0:=by
  cases l with
  | nil=>rfl
  | cons v r =>
   show (if(v::r).length<=64/\_ then v.ty else 0)=0
   rw[aR]
   rintro⟨q,_⟩
   simp[Ae] at h1 q; omega
 simp only[go_sem,h1,this]):p:=h
theorem ALr(h:p:=by
 refine ADQ (fun e1=>?_) (fun e1=>?_)
 .simp only[go_sem,e1];refine ADQ (fun e2=>?_) (fun e2=>?_)<;>simp only[go_sem,e1,e2]<;>rw[<- hfin',e1,e2]<;>simp
 .simp only[go_sem,e1];grind):p:=h
theorem ALs(h:p:=by
 rw[aaD] at hk;rcases bh k (ob.xs.length*n) with h' | h'
 .grind
 .rw[aS (by omega),hxfl] at hk;rw[aS (by omega),holdl];obtain⟨u,u1,u2⟩:=n3 _ c hk;exact⟨u,u1,(hkr _ _ u2).toB⟩):p:=h
theorem ALt(h:p:=by rw[Bg (X:=fun j=>if i=j then true else listed.getD j false) ops.size (fun k _ hk=>(hj ⟨k,hk⟩).elim),Bg (X:=fun j=>listed.getD j false) ops.size (fun k _ hk=>(hj ⟨k,hk⟩).elim)]):p:=h
theorem ALu(h:p:=by
 rw[KR,h3,h4,g4,h5,h6] at hb;simp only[aw,ah,aD,aH,ac,ay] at hb;simp only[go_sem,h6,wrap_i64 (n:=(k:Int)+1) (by omega) (by omega)];exact⟨k+1,⟨rfl,rfl⟩,rfl,⟨hk',hb⟩,by omega⟩):p:=h
theorem ALv(h:p:=by
 obtain⟨a1,a2,a3,a4,a5,a6,a7,a8⟩:=h;exact⟨a1,a2,a3,a4,a5,a6,by show Ii LeT (w1.tasks.set n _) _; rw[e]; exact Lh LeT.rfl' hn hL,ZQ LeD.rfl' a8 (fun _ _ _=>LeD.tr) (cO _ _)⟩):p:=h
theorem ALw(h:p:=by
 simp only[go_sem,F,ak,aa,dm1,aa,ag,aj,ab,ae];repeat (refine AAR ?_; simp only[go_sem,F,al,ak,hw1,G,aa,dm0,dm1,aa,hl1,gx0,gx1,gw1,gw2,g01,ag,aj,ab,ae,ao,ap])
 exact⟨rfl,rfl⟩):p:=h
theorem ALx(h:p:=by
 simp only[go_sem,A7];try simp):p:=h
theorem ALy(h:p:=by
 exact⟨(i+1,out ++ [d[p]]),AAS [(2,false)] ⟨rfl,rfl,NQ _ _,trivial⟩ (by rw[G5]; rfl),⟨hi',by simp; omega,by
  rw[<- hp,aaT]; congr 1; funext y; simp⟩,by simp only; omega⟩):p:=h
theorem ALz(h:p:=by
 have h:=hown;have e0:((t.op==1)&&(t.pc==8))=false:=by rw[hop2]; rfl
 have e1:((t.op==4)&&Ae t.pc 4 5)=true:=by rw[hop2,e9]; rfl
 simpa only[ownB,e0,e1,aO,ax,aL] using h):p:=h
theorem AL0(h:p:=by
 rw[Ip hok];simp only[go_sem,wrap_i64 (n:=(i:Int)+1) (by omega) (by omega)];exact⟨i+1,AAS [(1,false)] ⟨rfl,rfl,EI _,trivial⟩ (by rw[fV hi']; simp; rfl),hi',by omega⟩):p:=h
theorem AL1(h:p:=by simp only[go_sem,h1,ac]):p:=h
theorem AL2(h:p:=by exact⟨(k+1,out),AAS [(0,false)] ⟨rfl,rfl,AY DVal.pure,trivial⟩ rfl,⟨hk',hb⟩,by omega⟩):p:=h
theorem AL3(h:p:=by
 simp only[Aa,BR,go_sem,al];have hs1:=hst (GI t 5);simp only[go_sem] at hs1;simp only[go_sem,hs1,hsb];refine EndH.self ?_;simp only[go_sem,setT,FK,He,aO];simp[AB]):p:=h
theorem AL4(h:p:=by cases o.dst<;>simp[MS.put]; split<;>rfl):p:=h
theorem AL5(h:p:=by
 obtain⟨t,hh,hq⟩:=hq;obtain⟨St1,β1,hc1⟩:=hs';obtain⟨St2,β2,hc2⟩:=hh.2 _ _ _ _ _ _ hc1;obtain⟨us,bs,St',p1,p2,p3⟩:=Ze ⟨St2,β2,hc2⟩ hq;exact⟨p2,_,p1,us,bs,St',p3⟩):p:=h
theorem AL6(h:p:=by
 refine AAO _ (D7 ⟨2,0,ByteArray.empty⟩) fun _=>?_;have e7:((0:Int)==0)=true:=rfl;rcases hv:BX ⟨2,0,ByteArray.empty⟩ with _ | _<;>simp only[go_sem,hv,e7,fU,Qs]):p:=h
theorem AL7(h:p:=by
 simp only[go_sem,q1,q2,q3,q4,wrap_i64 (n:=(j:Int)+1) (by omega) (by omega)];exact⟨j+1,⟨rfl,rfl⟩,rfl,CB hj' hj (by simp only[deed1,q1,q2,q3,q4]; rfl),by omega⟩):p:=h
theorem AL8(h:p:=by exact⟨_,_,_,St,β',hexec _ _ hr,.inl rfl,g1,g2⟩):p:=h
theorem AL9(h:p:=by
 have hxb:x≠b0:=fun e2=>hx.2.2.2.2 l ob hl hlive (by rw[hβ,e2]);grind [setRow_other]):p:=h
theorem AL_(h:p:=by cases k<;>simp[IntKind.min,IntKind.max,IntKind.bits,IntKind.signed] at * <;> omega):p:=h
theorem AMA(h:p:=by
 obtain⟨a0,h1,e0⟩:=Ac h0;obtain⟨g0,b0⟩:=CJ a0 (by omega);exact⟨g0,by rw[e0]; omega⟩):p:=h
theorem AMB(h:p:=by
 refine⟨by simp[q1],fun k e hk=>?_⟩;cases k with
 | zero=>simp only[ab,ai] at hk; subst hk; exact⟨c,rfl,h.1⟩
 | succ k=>simpa using q2 k e (by simpa using hk)):p:=h
theorem AMC(h:p:=by
 simp only[go_sem,q2,JW,av,as_,Ak,Int.reduceAdd,wz (n:=k1+1),wz (n:=(i:Int)+1)];refine⟨(i+1,k1+1),⟨rfl,rfl⟩,rfl,hP.step hi J7, ?mu⟩;case mu=>simp only; omega):p:=h
theorem AMD(h:p:=by
 cases hq:s.st[l']? with
 | none=>grind
 | some o2 =>
  grind):p:=h
theorem AME(h:p:=by
 have h6':¬ m+i<b.length:=by simp at h6; omega
 rw[jq (by omega)] at hg;simp only[go_sem,aa,h5,h6,hw1,hw2];simp only at hg;rw[<- hg];simp only[go_sem,WJ]):p:=h
theorem AMF(h:p:=by
 have e2:Md d j m r=EZ d j m r:=by simp[Md,e1]
 have e4:(EZ d j m r).ver=IntKind.i64.wrap (d.ver+1):=rfl;simp only[go_sem,h4,e1,e2,e4,BC];try simp[AB]):p:=h
theorem AMG(h:p:=by
 have hk':k=l.length:=by simp at h; omega
 subst hk';rw[aK] at hb;have:out=kept w l ts:=by simpa [kept] using hb
 subst this;simp only[go_sem,Aj];simp):p:=h
theorem AMH(h:p:=by
 have e1:decide ((m:Int)>=(w.deeds.length:Int))=true:=by simp; omega
 rw[jq hml];simp only[go_sem,hm,e1];try refine AAP ?_
 try simp only[go_sem,hm,e1]):p:=h
theorem AMI(h:p:=by
 refine⟨_,_,w,St,_,hexec _ _ hrun,.inl rfl,a1, ?_⟩;rw[<- hkl];exact Nq (b:=some b0) rfl (by simp) fun _=>⟨cap,cs,by simp,by grind,c2,by grind,hcap⟩):p:=h
theorem AMJ(h:p:=by
 have hk':k=l.length:=by simp at h; omega
 subst hk';rw[aK] at hb;have:out=Ha l n:=by simpa [Ha] using hb
 subst this;simp only[go_sem,Ce];try simp):p:=h
theorem AMK(h:p:=by
 rcases hsplit l o2 hl with ⟨h1,h2⟩ | ⟨rfl,rfl⟩
 .have hne:¬ l=s.st.length:=by omega
  simp only[hne,aL] at hβ;exact h.nil l o2 h2 hlive hβ
 grind):p:=h
theorem AML(h:p:=by
 have g6:(t.l[0].kind != 1)=true:=by simp[bne,h6]
 simp only[go_sem,g5,g6,AA _ h0,h0,ac];try refine AAP ?_
 try simp only[go_sem,g5,g6,AA _ h0,h0]):p:=h
theorem AMM(h:p:=by
 have e1:¬ l1=s.st.length:=by omega
 have e2:¬ l2=s.st.length:=by omega
 simp only[e1,e2,aL] at h5 h6;exact h.inj l1 l2 o1 o2 b p2 q2 h3 h4 h5 h6):p:=h
theorem AMN(h:p:=by
 simp only[go_sem,h1,g1,h2,wrap_i64 (n:=(k:Int)+1) (by omega) (by omega)];exact⟨k+1,⟨rfl,rfl⟩,rfl,Oy hk' hk (by rw[hp,h1,g1,h2]; rfl),by omega⟩):p:=h
theorem AMO(h:p:=by
 have:unpack b w k=none:=by unfold unpack; rw[aR]; rintro⟨⟨q1,q2,_⟩,_⟩; simp[Ae] at h2; omega
 rw[this];simp only[go_sem,h1,h2,Zl];try simp[DR]):p:=h
theorem AMP(h:p:=by exact⟨k+1,⟨rfl,rfl⟩,rfl,⟨hk',hb⟩,by omega⟩):p:=h
theorem AMQ(h:p:=by
 simp only[go_sem,AA _ hk',hk',h1,wrap_i64 (n:=(k:Int)+1) (by omega) (by omega)];exact⟨k+1,⟨rfl,rfl⟩,rfl,CB hk' hk (by simp[SL,h1]),by omega⟩):p:=h
theorem AMR(h:p:=by
 have hl3:(Ey (DI l)).length+1+(Es (offsets l) (DV (offsets l))).length<=2147483648:=by omega
 simp only[go_sem,hl3,Fh];try simp[OwnL,AB,byteC]):p:=h
theorem AMS(h:p:=by
 unfold Iw;split
 .simp
 .have:=Nl (fun(k:Nat)=>WA (Ha l (k:Int))) 1006 (List.range k) fun x _=>bU _;rw[List.length_range] at this;exact this):p:=h
theorem AMT(h:p:=by
 have:=k2 (.c c) u (by simpa only[AVR] using hc);simpa only[AVR] using this):p:=h
theorem AMU(h:p:=by
 have:unpack b w k=none:=by unfold unpack; rw[aR]; rintro⟨⟨q1,q2,_⟩,_⟩; simp[Ae] at h1; omega
 rw[this];simp only[go_sem,h1,Zl];try simp[DR]):p:=h
theorem AMV(h:p:=by
 simp only[go_sem,DTask.o_eq,F,GI,hl1];simp[AB,DR,Ij]):p:=h
theorem AMW(h:p:=by
 have:unpack b w k=none:=by unfold unpack; rw[aR]; rintro⟨⟨_,_,q⟩,_⟩; simp[q] at h3
 rw[this];simp only[go_sem,h1,h2,h3,aa,Zl];try simp[DR]):p:=h
theorem AMX(h:p:=by exact EndH.self (by simp only[go_sem,A7]; try simp)):p:=h
theorem AMY(h:p:=by
 have hk':k=l.length:=by simp at h; omega
 subst hk';rw[aK] at hb;have:out=l:=by simpa using hb
 subst this;simp only[go_sem,Aj];try simp):p:=h
theorem AMZ(h:p:=by
 simp only[go_sem,h14,wrap_i64 (n:=(k:Int)+1) (by omega) (by omega)];exact⟨k+1,⟨rfl,rfl⟩,rfl,Oy hk' hk (by rw[e1]; exact h14),by omega⟩):p:=h
theorem AMa(h:p:=by
 rw[aaC] at hj;split at hj
 .rw[addr_add,World.cell?,c3];grind
 .cases hj):p:=h
theorem AMb(h:p:=by
 rw[Qh hi' (fun q=>by have:=q.2; simp at h3; omega)];simp only[go_sem,AA _ hi',h2,h3,wrap_i64 (n:=base+l[i]) (by omega) (by omega),Dx]):p:=h
theorem AMc(h:p:=by
 intro l;induction l with
 | nil=>intro _; rfl
 | cons p l ih=>intro hl; simp only[I5,hl p (by simp),ih (fun q hq=>hl q (by simp[hq]))]):p:=h
theorem AMd(h:p:=by
 have h2:=congrArg List.length hb;simp at h2; omega):p:=h
theorem AMe(h:p:=by
 induction m with
 | zero=>intro _; rfl
 | succ m ih =>
  intro hm
  have hmk:m<k:=by omega
  simp only[B_,ih (by omega),hmk,decide_true]):p:=h
theorem AMf(h:p:=by
 have h1:SizeOf.sizeOf x<SizeOf.sizeOf d.l:=aar hx;have h2:SizeOf.sizeOf d.l<SizeOf.sizeOf d:=by cases d; simp[DPred.l]; omega
 omega):p:=h
theorem AMg(h:p:=by
 have h1:SizeOf.sizeOf x<SizeOf.sizeOf p.l:=aar hx;have h2:SizeOf.sizeOf p.l<SizeOf.sizeOf p:=by cases p; simp[DPred.l]; omega
 omega):p:=h
theorem AMh(h:p:=by rw[PD,fE .i64 hx0 (by rw[<- PD]; exact hx1) (by omega) (by rw[<- PD]; simp[IntKind.bits]; omega),<- PD,wrap_i64 (by omega) (by omega)]):p:=h
theorem AMi(h:p:=by
 obtain⟨o3,r1,r2,r3⟩:=IB h2;by_cases e2:l=l'
 .grind
 .have:=r3 e2;subst this;exact e2 (h.inj l l' ob o2 b0 hl r1 hlive hl2 hβ hb2)):p:=h
theorem AMj(h:p:=by
 simp only[go_sem,wrap_i64 (n:=(i:Int)+1) (by omega) (by omega)];exact⟨i+1,AAS [(2,false)] ⟨rfl,rfl,EI _,trivial⟩ rfl,hi',by omega⟩):p:=h
theorem AMk(h:p:=by
 obtain⟨a1,a2,a3,a4,a5,a6,a7,a8⟩:=h;exact⟨a1,a2,a3,a4,a5,a6,by show Ii LeT (w1.tasks.set n t) _; rw[e]; exact Lh LeT.rfl' hn hL,a8⟩):p:=h
theorem AMl(h:p:=by
 refine AAO _ (AP q.col 0 _) fun _=>?_;rcases c1:Ae q.col 0 ((cs.length:Int)-1) with _ | _;all_goals simp only[go_sem,aa,c1,ac,ah]):p:=h
theorem AMm(h:p:=by
 simp only[go_sem,AA _ hi',h2,h3,wrap_i64 (n:=(i:Int)+1) (by omega) (by omega)];exact⟨i+1,⟨rfl,rfl⟩,by rw[e]; rfl,hi',by omega⟩):p:=h
theorem AMn(h:p:=by
 simp only[go_sem,e3,e4,wrap_i64 (n:=(j:Int)+1) (by omega) (by omega)];exact⟨j+1,⟨rfl,all1 (AX (AQ _))⟩,rfl,by omega,by omega⟩):p:=h
theorem AMo(h:p:=by
 have h0:0<l.length:=by omega
 obtain⟨_,x,hx,e2⟩:=X3 (an h0);have:=Zn (q3 x hx).1 ((q3 x hx).2.trans h1');rw[Du,e2]; exact this):p:=h
theorem AMp(h:p:=by
 simp only[ai,bb] at hf;obtain⟨rfl,rfl⟩:=hf;exact⟨St,h,fun _ _ h=>h,fun _ _ h=>h,fun u hu=>by simp only[AVR] at hu; exact hu⟩):p:=h
theorem AMq(h:p:=by exact⟨2,rfl,by decide,by decide⟩):p:=h
theorem AMr(h:p:=by
 refine⟨k+1,⟨rfl,rfl⟩,rfl,⟨by omega,by omega,fun i hi hik=>?_⟩,by omega⟩;by_cases e:i=k
 .subst e; simp only[Y9]; grind
 grind):p:=h
theorem AMs(h:p:=by
 have h1:=Di x.2;have h2:=WP (q3 _ hx'.1).1;simp only[XL,aP]; omega):p:=h
theorem AMt(h:p:=by
 unfold FT;rw[aR (by omega)];have q1:((m:Int)/8).toNat=m/8:=by omega
 have q2:((m:Int)%8).toNat=m%8:=by omega
 rw[q1,q2];rfl):p:=h
theorem AMu(h:p:=by
 rw[Df (A7 w.b)];exact AET rfl rfl rfl (AX (AQ _)) (AX (BC _)) (AX (A7 _)) (AX (AQ _)) (AX (Ci _)) (AX (AQ _)) (AX (Ho _))):p:=h
theorem AMv(h:p:=by
 simp only[go_sem,setT,DWorld.o_eq,aO];simp[AB]):p:=h
theorem AMw(h:p:=by simp only[go_sem,WJ]):p:=h
theorem AMx(h:p:=by
 unfold ZF;by_cases h2:x+c%128*128 ^ i>2000000000
 .rw[aV h2,aR (by simp[Ae]; omega)]
 .rw[aR h2,aV (by simp[Ae]; omega)]):p:=h
theorem AMy(h:p:=by
 intro l i off u hu;have hl:=yL hu;have hne:¬ l=s.st.length:=by omega
 simp only[AVR,hold l hl,hne,aL] at hu ⊢;exact hu):p:=h
theorem AMz(h:p:=by
 refine⟨β',h1,Nq rfl h2 fun _=>⟨cap,_,rfl,hcap,hcm,E_ w _, ?_⟩⟩;simp only[Array.size_append,aa9,hvl,hrest,<- dE];grind):p:=h
theorem AM0(h:p:=by
 simp only[go_sem,DTask.o_eq,DQuery.o_eq,DPred.o_eq,EQ];simp[AB,J5,O0,DPred.kind,DPred.col,DPred.op,DPred.v,DPred.l]):p:=h
theorem AM1(h:p:=by
 simp only[go_sem,h5,wrap_i64 (n:=(j:Int)+1) (by omega) (by omega)];exact⟨j+1,⟨rfl,rfl⟩,rfl,CB hj' hj h5,by omega⟩):p:=h
theorem AM2(h:p:=by
 intro l' u hu;unfold BQ at hu ⊢;cases hq:(Am s.st l)[l']? with
 | none=>grind
 | some o2 =>
  grind [setRow_other]):p:=h
theorem AM3(h:p:=by
 have he:=CU h x (by simpa [Op.operands] using hc);simp only[I4,ai] at hy; subst hy;exact⟨_,by simp[execOp],he⟩):p:=h
theorem AM4(h:p:=by
 obtain⟨p1,q1,r1⟩:=key l o1 h1 h3;obtain⟨p2,q2,r2⟩:=key l' o2 h2 h4;exact h.inj l l' p1 p2 b q1 q2 r1 r2 h5 h6):p:=h
theorem AM5(h:p:=by
 simp only[go_sem];rcases p5:t.pc==5 with _ | _;rotate_left
 .simp[hpc] at p5
 simp only[go_sem];simp[hpc] at p4):p:=h
theorem AM6(h:p:=by
 simp only[go_sem,codeW,Oc,DWorld.o_eq,aO,jk,hl1];simp[AB,DU,hm,hl1];try (repeat' (first | rfl | constructor))):p:=h
theorem AM7(h:p:=by exact⟨i+1,AAS [(3,false)] ⟨rfl,rfl,by rw[<- FV]; exact CX _,trivial⟩ (by rw[J3 _ hi',FV]; rfl),hi',by omega⟩):p:=h
theorem AM8(h:p:=by exact⟨i+1,AAS [(2,false)] ⟨rfl,rfl,by rw[<- FV]; exact CX _,trivial⟩ (by rw[J3 _ hi',FV]; rfl),hi',by omega⟩):p:=h
theorem AM9(h:p:=by
 simp only[Result.andThen_ok,Sem.run_pure];congr 1;match rv with
 | []=>rfl
 | [u]=>rfl
 | u::u2::us=>simp[Xd]):p:=h
theorem AM_(h:p:=by
 simp only[go_sem];refine ADQ (fun h=>?_) (fun h=>?_)<;>simp only[go_sem,h]<;>simp at h<;>simp[Ae]<;>omega):p:=h
theorem ANA(h:p:=by simp only[go_sem,aa,h1,c1,k1,k2,k3,k4,k5]):p:=h
theorem ANB(h:p:=by
 apply abF
 .simp
 .intro i h1 h2;simp at h1 h2 ⊢;simp[h2]):p:=h
theorem ANC(h:p:=by
 cases hq:s.st[l]? with
 | none=>grind
 | some o2 =>
  grind):p:=h
theorem ANE(h:p:=by
 obtain⟨a0,h1,e0⟩:=Ac h0;obtain⟨g0,b0⟩:=Dv d.l (fun x _=>D_ x) a0 (by omega);exact⟨g0,by rw[e0]; omega⟩):p:=h
theorem ANF(h:p:=by
 have hk':k<ys.flatten.length:=by rw[<- n1]; exact(az.1 hk).1
 obtain⟨u,u1,u2,u3⟩:=n2 k _ (am hk');grind):p:=h
theorem ANG(h:p:=by
 have:f=0\/f=1\/f=2\/f=3\/f=4:=by omega
 rcases this with rfl | rfl | rfl | rfl | rfl<;>simp at hx1<;>omega):p:=h
theorem ANH(h:p:=by
 have hi':i=d.length:=by simp at h; omega
 subst hi';rw[aK] at hp;rw[<- hp];simp only[go_sem,placeOf,ww]):p:=h
theorem ANI(h:p:=by
 apply abl;intro j;rw[List.getElem?_modify];split
 .rename_i e; subst e;rw[jq (by omega)]; rfl
 .simp):p:=h
theorem ANJ(h:p:=by
 simp only[aO,hj,ai] at hk;subst hk;exact⟨_,h,fun u hu=>hr _ u (h2 u hu),fun hc=>by simp[HY] at hc⟩):p:=h
theorem ANK(h:p:=by rw[fE .i64 hbd.1 hbd.2 h01.1 (by simp[IntKind.bits]; omega),wrap_i64 (by omega) (by omega)]; rfl):p:=h
theorem ANL(h:p:=by
 have hne:¬ l=s.st.length:=by omega
 simp only[hne,aL] at hβ;exact h.sep l o2 b o h2 hlive hβ hbo):p:=h
theorem ANM(h:p:=by exact setRow_other w b0 b2 C' fun e2=>h4 (h.inj l l2 ob o2 b0 hl h1 hlive h2 hβ (by rw[h3,e2]))):p:=h
theorem ANN(h:p:=by
 have hi':i=l.length:=by simp at h; omega
 subst hi';rw[aK] at hb;simp only[go_sem];rw[<- hb]; rfl):p:=h
theorem ANO(h:p:=by
 have hk':k=vs.length:=by simp at h; omega
 subst hk';simp only[go_sem];rw[<- hf,aK,<- he,aK]; rfl):p:=h
theorem ANP(h:p:=by
 simp only[go_sem];simp[AB]):p:=h
theorem ANQ(h:p:=by
 obtain⟨j,hj,rfl⟩:=aaE hx;exact(hp.lt j _ (am hj)).1):p:=h
theorem ANR(h:p:=by simp only[go_sem,h2,Dx]):p:=h
theorem ANT(h:p:=by
 rw[al];refine aC.2 fun y hy=>?_;rcases aaK hy with hy | rfl
 .exact aC.1 (D5 (Aj _)) y hy
 .rfl):p:=h
theorem ANU(h:p:=by
 have g0:((w.b.length:Int) != w.c0.bufs)=true:=by simp only[bne,h0,aH]
 simp only[go_sem,g0,ac]):p:=h
theorem ANV(h:p:=by
 split at h3
 .rename_i y st' he;refine⟨y,st', ?_,h3⟩;simp only[FM];exact he
 .exact h3.elim):p:=h
theorem ANW(h:p:=by
 have:¬ (0<=k/\k<=64):=by simp[Ae] at h2; omega
 simp only[go_sem,FZ,h1,ZH,h2,this];try simp[DR]):p:=h
theorem ANX(h:p:=by exact⟨j+1+1,AAS [(0,false)] ⟨rfl,rfl,AA0 _ _ _ _,trivial⟩ (by rw[hs,pX]; rfl),hi',by omega⟩):p:=h
theorem ANZ(h:p:=by
 rw[show ((ids.take i).map fun n=>(⟨n,[]⟩:DRow)).length=i by simp; omega] at this;exact this):p:=h
theorem ANa(h:p:=by simp[execOp,ho,resolve,hcl,ha1,ha2,invoke,builtin,Builtin.len_,run_underlying hu,hv,goInt]):p:=h
theorem ANb(h:p:=by
 obtain⟨a1,h2,e1⟩:=Ac h1;obtain⟨g1,b1⟩:=CJ a1 (by omega);exact⟨⟨g0,g1⟩,by rw[e0,e1]; omega⟩):p:=h
theorem ANc(h:p:=by
 simp only[go_sem];refine ADQ (fun h=>?_) (fun h=>?_)<;>simp only[go_sem,h]<;>simp_all [BX]):p:=h
theorem ANd(h:p:=by
 have h1:(Ey n).length<=5:=Zj 4 _;have h2:=congrArg List.length hb;simp only[aP] at h2;omega):p:=h
theorem ANe(h:p:=by
 have h1':typeOf l=0:=by simpa using h1
 have e:BG l = -1:=aV h1';rw[e];simp only[go_sem,h1]):p:=h
theorem ANf(h:p:=by
 have hk':k=w.d.l.length:=by have:=hk.1; simp at h; omega
 subst hk';simp only[go_sem,DX hk]):p:=h
theorem ANg(h:p:=by
 by_cases e:l=l'
 .grind
 .grind):p:=h
theorem ANh(h:p:=by
 have:=(az.1 u1).1;simpa only[aP,holdl] using this):p:=h
theorem ANi(h:p:=by
 have hk':k=l.length:=by have:=hk.1; simp at h; omega
 subst hk';simp only[go_sem,PH,DX hk]):p:=h
theorem ANj(h:p:=by
 simp only[go_sem,hl2,hl3,Fh];try simp[OwnL,AB,byteC,hl2,hl3]
 exact CQ (BG l::Eb (BG l) l)):p:=h
theorem ANk(h:p:=by
 have:i=0\/i=1\/i=2\/i=3\/i=4:=by omega
 rcases this with rfl | rfl | rfl | rfl | rfl<;>decide):p:=h
theorem ANl(h:p:=by
 unfold F9 at hlen;rw[aV ⟨hk0,hw0⟩] at hlen;have:(K:Int)*W=((K*W:Nat):Int):=by simp
 omega):p:=h
theorem ANm(h:p:=by exact RdD.mono (fun b o hbo=>.inl hbo) (fun _ _ _=>rfl) _ _ (Ve hpc (hc.toC (MC hpc)))):p:=h
theorem ANn(h:p:=by
 cases hq:st[l']? with
 | none=>grind
 | some ob =>
  simp only[hq] at h
  rw[Oe hq]
  grind):p:=h
theorem ANo(h:p:=by
 simp only[Rw] at hv;obtain⟨st',St',r1,r2,r3,r4,r5⟩:=V6 xs rs us' st St K h h2 hv;grind):p:=h
theorem ANp(h:p:=by
 have g3:(p.op != q.op)=true:=by simp[bne,h3]
 simp only[go_sem,h1,g1,h2,g2,h3,g3,ac,ah]):p:=h
theorem ANq(h:p:=by
 obtain⟨cl',rs,rv,p0,p1,p2,G',p3⟩:=uu hgu hs' hq;exact⟨p2,_,p1,cl',rs,rv,G',p0,rfl,p3⟩):p:=h
theorem ANr(h:p:=by
 rcases bh l st.length with g | g
 .exact decide_eq_true g
 .rw[jq g] at h; exact h.elim):p:=h
theorem ANs(h:p:=by
 unfold BO;unfold there at ta;split
 .rfl
 .rename_i b hb;simp only[hb] at ta;simp[ta]):p:=h
theorem ANt(h:p:=by
 have hk':k=w.tasks.length:=by simp at h; omega
 subst hk';simp only[go_sem,aX];try rfl):p:=h
theorem ANu(h:p:=by
 rw[<- EO g2];rcases bh (i*ob.sz+j) ob.xs.flatten.length with h' | h'
 .exact h'
 .grind):p:=h
theorem ANv(h:p:=by simp[DataW.trod,ht] at h):p:=h
theorem ANw(h:p:=by
 have:¬ ((0<=k/\k<=64)/\0<=w/\w<=31):=by simp[Ae] at h; omega
 simp only[go_sem,h,F9,aR this]):p:=h
theorem ANx(h:p:=by
 refine ABg _ (GX b hl2) ?_;simp only[go_sem,w1,g1,g2,CQ,ba];try simp[OwnL,AB,byteC]):p:=h
theorem ANy(h:p:=by
 rcases h2:Qk cs b.c0 with _ | _
 .simp only[go_sem,h2,ac,ah]
 simp only[go_sem,h2,ah]):p:=h
theorem ANz(h:p:=by
 have a1:(w.tasks.length:Int)=5:=qX.1 h11;have a2:(w.p.length:Int)=5:=qX.1 h12;omega):p:=h
theorem AN0(h:p:=by
 have g2:(p.col != q.col)=true:=by simp[bne,h2]
 simp only[go_sem,h1,g1,h2,g2,ac,ah]):p:=h
theorem AN1(h:p:=by
 rcases abo b.length with h | h
 .rw[h] at h0; exact absurd h0 (by decide)
 .exact h):p:=h
theorem AN2(h:p:=by rw[show min (7*i) 64=7*i from ZW (by omega),<- PD,wrap_i64 (by omega) (by omega)]):p:=h
theorem AN3(h:p:=by
 unfold Iw;rw[aR h2',aR h2',List.range_succ];simp only[bl,aaD,ao,ap,XV,aaH,bc,WA]):p:=h
theorem AN4(h:p:=by
 simp only[ai] at hc;subst hc;exact⟨St,h,fun _ _ h=>h,fun _ _ h=>h,fun u hu=>hu⟩):p:=h
theorem AN5(h:p:=by
 rw[<- hcs'];simp only[aa9,aP,aaM,holdl];omega):p:=h
theorem AN6(h:p:=by rw[BJ,hset]; exact hg _):p:=h
theorem AN7(h:p:=by
 have h1:(kept w l ts).length<=l.length:=abp _ _;rw[<- hb] at h1;simp at h1; omega):p:=h
theorem AN8(h:p:=by
 have:c%128*128 ^ i<=127*128 ^ i:=aah (by omega) (aaU (by omega));rw[abe]; omega):p:=h
theorem AN9(h:p:=by
 refine⟨q1,q2,cs,g1,g2,fun k c hk=>?_⟩;grind):p:=h
theorem AN_(h:p:=by
 have:b.length<=m/8:=by simp at h1; omega
 simp only[go_sem,h0,h1,e1,aa,jq this]):p:=h
theorem AOA(h:p:=by
 have:l[0]∈DW l:=(MH l _).2 (an (by omega));exact List.length_pos_of_mem this):p:=h
theorem AOB(h:p:=by
 cases hoj:ops[j]? with
 | none=>simp[hoj] at hj
 | some oj=>exact(bd.1 hoj).1):p:=h
theorem AOC(h:p:=by
 have g1:(p.kind != q.kind)=true:=by simp[bne,h1]
 simp only[go_sem,h1,g1,ac]):p:=h
theorem AOD(h:p:=by
 rw[show ((1:Nat):Int)=1 from rfl] at this;rw[this,Nat.and_one_is_mod];omega):p:=h
theorem AOE(h:p:=by simp[Qv,Lit.wf,IntKind.min,IntKind.max,IntKind.signed,IntKind.bits]; omega):p:=h
theorem AOF(h:p:=by
 have:(vi+1)*n<=(vi+(ps.length+1))*n:=aaF _ (by omega);rw[dE] at this; omega):p:=h
theorem AOG(h:p:=by
 cases j with
 | zero=>simp only[ab,ai] at hj; subst hj; rfl
 | succ j=>grind):p:=h
theorem AOH(h:p:=by
 have h1:(Ha l n).length<=l.length:=aa2 _ _;rw[<- hb] at h1;simp at h1; omega):p:=h
theorem AOI(h:p:=by exact⟨j+1,⟨rfl,rfl⟩,rfl,CB hk' hj (by simp only[G6,h5,h6]; rfl),by omega⟩):p:=h
theorem AOJ(h:p:=by rcases h1:t.op==3 with _ | _<;>simp only[go_sem,h1,fC]<;>simp only[ac,ah]):p:=h
theorem AOK(h:p:=by exact⟨k+1,⟨rfl,rfl⟩,rfl,CB hk' hk (by simp only[Pz,h1,h2]; rfl),by omega⟩):p:=h
theorem AOL(h:p:=by
 cases hc:E e' with
 | false=>rfl
 | true=>exact absurd ⟨e',x1,x2,hc⟩ hex):p:=h
theorem AOM(h:p:=by
 have h1:=OC hw.1.2;have h2:=OC hw.2.1.2;simp only[go_sem,OB,AAz h1 h2]):p:=h
theorem AON(h:p:=by
 intro hg i hi;by_cases e:i=k
 .subst e; exact hg
 .exact hf i (by omega)):p:=h
theorem AOO(h:p:=by
 simp only[go_sem,h6,aD,ac];try refine AAP ?_
 try simp only[go_sem,h6]):p:=h
theorem AOP(h:p:=by
 simp only[go_sem,OJ];simp[AB]):p:=h
theorem AOQ(h:p:=by
 simp[hi2] at hun ⊢;exact hun):p:=h
theorem AOR(h:p:=by
 rcases(hEE e).1 he with h' | h'
 .have:=hI.below e h'; omega
 .omega):p:=h
theorem AOS(h:p:=by
 rw[X4 (by rw[<- Du,h1]; simp)];simp only[go_sem,h1,Dx];try simp[DR]):p:=h
theorem AOT(h:p:=by
 cases hc:E e with
 | false=>rfl
 | true=>have:=hprev e hc x2; omega):p:=h
theorem AOU(h:p:=by
 simp only[go_sem,F,ak,aa,gl0,gd00,gx0,ag,aj,ab,ae];exact⟨rfl,rfl⟩):p:=h
theorem AOV(h:p:=by
 intro l o2 hl;rcases bh l s.st.length with h1 | h1
 .grind
 .grind):p:=h
theorem AOW(h:p:=by
 have:=(az.1 hl).1;simp at this;omega):p:=h
theorem AOX(h:p:=by
 simp only[MR] at hq;split at hq
 .exact⟨_,‹_›,hq⟩
 .exact hq.elim):p:=h
theorem AOY(h:p:=by
 simp only[JM,aP];rw[aa] at hnl;omega):p:=h
theorem AOZ(h:p:=by
 have:=Dp hbt (hcl e oe this hoe);rw[this] at hun'; cases hun'):p:=h
theorem AOa(h:p:=by
 simp only[there,hat] at h2;cases h2):p:=h
theorem AOb(h:p:=by
 obtain⟨e',x1,x2,x3⟩:=hex;have:=ihd e' (by omega) x3 x2;omega):p:=h
theorem AOc(h:p:=by
 rcases hbd with rfl | ⟨e,he,rfl⟩
 .omega
 .exact hE e he):p:=h
theorem AOd(a:q)(b:r)(h:q->r->p:=by
 intro zz zy;simp only[go_sem];exact AAQ zz zy):p:=h a b
theorem AOe(a:q)(b:r)(h:q->r->p:=by
 intro zz zy;simp only[go_sem,aa];exact AAQ zz zy):p:=h a b
theorem AOf(a:q)(h:q->p:=by
 intro zz;simp only[openR,CV,go_sem,F,al,ak,hl1];try simp only[go_sem,F,al,ak,hw1,G,aa,hl1,gx0,gx1,gw1,gw2,g01,ag,aj,ab,ae,ao,ap]
 exact zz):p:=h a
theorem AOg(a:q)(b:r)(h:q->r->p:=by
 intro zz zy;simp only[go_sem,mkS,aa,hn];exact AAQ zz zy):p:=h a b
theorem AOh(a:q)(b:r)(h:q->r->p:=by
 intro zz zy;simp only[go_sem,iR,aa,Jg];exact AAQ zz zy):p:=h a b
theorem AOi(a:q)(h:q->p:=by
 intro zz;simp only[openR,CV,go_sem,F,G,al,hg5];try simp only[go_sem,hw1]
 exact zz):p:=h a
theorem AOj(a:q)(h:q->p:=by
 intro zz;simp only[go_sem,aa,h5,h6,hw1,hw2,AA _ h6',hc];simp only[go_sem,aa,h5,h6,hw1,hw2,AA _ h6',hc,hwc,hwa,hwt,hw7,hws,hwo,hwp];exact zz):p:=h a
theorem AOk(a:q)(h:q->p:=by
 intro zz;simp only[openR,CV,go_sem,F,G,hl1,al];try simp only[go_sem,F,al,ak,aa,hl1,gx2,gl0,gd00,gi0,qk,qn,ag,aj,ab,ao,ap,G,hthr]
 exact zz):p:=h a
theorem AOl(h:p:=by omega):p:=h
theorem AOm(h:p:=by simp):p:=h
theorem AOn(h:p:=by simp; omega):p:=h
theorem AOo(h:p:=by grind):p:=h
theorem AOp(h:p:=by simp only; omega):p:=h
theorem AOq(h:p:=by rw[wrap_i64 (by omega) (by omega)]; omega):p:=h
theorem AOr(h:p:=by rw[am hlt,hat] at hx; cases hx; exact MW rfl rfl rfl rfl rfl hm hxs):p:=h
theorem AOs(h:p:=by have f7:=hf; rw[AZ] at f7; have:=f7.2.2.2.2.1; exact .inl (by omega)):p:=h
theorem AOt(h:p:=by have:=hg 0; simp only[DL,aa] at this; exact this):p:=h
theorem AOu(h:p:=by decide):p:=h
theorem AOv(h:p:=by simp[Op.operands]):p:=h
theorem AOw(h:p:=by simp[Ae] at h2; omega):p:=h
theorem AOx(h:p:=by simp only[go_sem,J_ h]):p:=h
theorem AOy(h:p:=by have f7:=hf; rw[AZ] at f7; have:=f7.2.2.2.2.1; omega):p:=h
theorem AOz(h:p:=by simp only[Ar,BH,F5,Bi,BV,Ad,go_sem]):p:=h
theorem AO0(h:p:=by simp[EM] at hl; omega):p:=h
theorem AO1(h:p:=by simp at h; omega):p:=h
theorem AO2(h:p:=by simpa only[OwnL] using ho):p:=h
theorem AO3(h:p:=by simp at h2; omega):p:=h
theorem AO4(h:p:=by simp[EM]):p:=h
theorem AO5(h:p:=by simp only[D8,Ad,go_sem]):p:=h
theorem AO6(h:p:=by rw[yD (by omega),wrap_i64 (by omega) (by omega)]; omega):p:=h
theorem AO7(h:p:=by simpa using h3):p:=h
theorem AO8(h:p:=by simpa using h1):p:=h
theorem AO9(h:p:=by simp only[CP,e9]; rfl):p:=h
theorem AO_(h:p:=by simpa [Op.operands] using hc):p:=h
theorem APA(h:p:=by simp only[aI,EH,Em,aM,aw]):p:=h
theorem APB(h:p:=by have f7:=hf; rw[AZ] at f7; exact f7.2.2.1):p:=h
theorem APC(h:p:=by have:=congrArg List.toArray hct; simpa using this):p:=h
theorem APD(h:p:=by have:=congrArg List.toArray hca; simpa using this):p:=h
theorem APE(h:p:=by simp only[DL,aa]; rfl):p:=h
theorem APF(h:p:=by simp only[aI,EH,GG,aM,aw]):p:=h
theorem APG(h:p:=by simp only[Ar,go_sem]):p:=h
theorem APH(h:p:=by rw[aat (by omega),wrap_i64 (by omega) (by omega)]; omega):p:=h
theorem API(h:p:=by simpa using hq):p:=h
theorem APJ(h:p:=by first | omega | (simp only; omega)):p:=h
theorem APK(h:p:=by simp only[aP]; omega):p:=h
theorem APL(h:p:=by rw[show t.own-1=(q:Int) by omega]; exact BL .i64 q):p:=h
theorem APM(h:p:=by have:=hj.1; simp at h; omega):p:=h
theorem APN(h:p:=by simp at h):p:=h
theorem APO(h:p:=by simpa using h):p:=h
theorem APP(h:p:=by simp only[Qv]; exact Go.wf_wrap _ _):p:=h
theorem APQ(h:p:=by simpa using hk):p:=h
theorem APR(h:p:=by simpa using h4):p:=h
theorem APS(h:p:=by simp only[BV,go_sem]; try rfl):p:=h
theorem APT(h:p:=by rw[aaO _ (by omega),wrap_u64 (by omega) (by omega)]; omega):p:=h
theorem APU(h:p:=by simp[Ae] at h1; omega):p:=h
theorem APV(h:p:=by simp[EL,show (t.own-1).toNat=q by omega,hq]):p:=h
theorem APW(h:p:=by simp only[maxLen]; omega):p:=h
theorem APX(h:p:=by have:=hw.1.1; simpa [Go.maxLen] using this):p:=h
theorem APY(h:p:=by simpa only[go_sem,hm] using Ls w t d hf HT):p:=h
theorem APZ(h:p:=by simp at hk):p:=h
theorem APa(h:p:=by simpa using hb):p:=h
theorem APb(h:p:=by simpa using q3):p:=h
theorem APc(h:p:=by simpa using h2):p:=h
theorem APd(h:p:=by rw[Ew g hh]; exact bn.symm):p:=h
theorem APe(h:p:=by simpa using hk0):p:=h
theorem APf(h:p:=by simpa using hl):p:=h
theorem APg(h:p:=by show DT _ w.tasks[n]<=_; omega):p:=h
theorem APh(h:p:=by rw[hbs]; have:=Iz (m:=by') hle hby (aG _); omega):p:=h
theorem APi(h:p:=by apply abm; simp):p:=h
theorem APj(h:p:=by simp at h3; omega):p:=h
theorem APk(h:p:=by simpa using hk1):p:=h
theorem APl(h:p:=by show _=t.l.map DRef.c; rw[hl1]; rfl):p:=h
theorem APm(h:p:=by intro r ob; unfold KZ; split<;>rfl):p:=h
theorem APn(h:p:=by simpa only[Jc] using h):p:=h
theorem APo(h:p:=by simp only[BV,hgr,go_sem]; try rfl):p:=h
theorem APp(h:p:=by simp[Ae] at h4; omega):p:=h
theorem APq(h:p:=by have:=(IE w r1 t.ts hf).1; omega):p:=h
theorem APr(h:p:=by simp only[AVRs] at h ⊢; exact h):p:=h
theorem APs(h:p:=by rw[Bq hk]; exact hk'):p:=h
theorem APt(h:p:=by simp at h1; omega):p:=h
theorem APu(h:p:=by rw[spread,<- hp]; rfl):p:=h
theorem APv(h:p:=by simp only[AVR] at h ⊢; exact h):p:=h
theorem APw(h:p:=by exact_mod_cast aaz (by omega) (by omega)):p:=h
theorem APx(h:p:=by rw[hbs]; exact Iz (.inl hle) hby (aG _)):p:=h
theorem APy(h:p:=by cases d; simp[DPred.l]; omega):p:=h
theorem APz(h:p:=by cases x; simp[DPred.l]; omega):p:=h
theorem AP0(h:p:=by simpa using h0):p:=h
theorem AP1(h:p:=by rw[e9]; rfl):p:=h
theorem AP2(h:p:=by simpa using hzl0):p:=h
theorem AP3(h:p:=by simp[hx]):p:=h
theorem AP4(h:p:=by rw[hbt,ah] at hs1; exact hs1):p:=h
theorem AP5(h:p:=by unfold KZ; split<;>rfl):p:=h
theorem AP6(h:p:=by cases d; simp at h):p:=h
theorem AP7(h:p:=by rw[<- hp,aaT]; congr 1; funext y; simp):p:=h
theorem AP8(h:p:=by cases h):p:=h
theorem AP9(h:p:=by simpa using hlt):p:=h
theorem AP_(h:p:=by simp[hy]):p:=h
theorem AQA(h:p:=by simp_all):p:=h
theorem AQB(h:p:=by rw[Bc] at hp; exact hp.2.1):p:=h
theorem AQC(h:p:=by rw[Ew _ hq]; exact bn.symm):p:=h
theorem AQD(h:p:=by simpa [inA] using hc):p:=h
theorem AQE(h:p:=by rw[h3]; decide):p:=h
theorem AQF(h:p:=by rw[eE]; decide):p:=h
theorem AQG(h:p:=by simp only[aI,EH,PL,aM,aw]):p:=h
theorem AQH(h:p:=by simp only[aI,EH,Q5,aM,aw]):p:=h
theorem AQI(h:p:=by rw[hsz,n1,hcap,<- dE]; exact hcapm):p:=h
theorem AQJ(h:p:=by simp only[AVR,uk] at h ⊢; exact h):p:=h
theorem AQK(h:p:=by rw[AA f hlt,hat]):p:=h
theorem AQL(h:p:=by simpa [JR] using hc):p:=h
theorem AQM(h:p:=by simp[Ae] at h1 h2; omega):p:=h
theorem AQN(h:p:=by have:=(IU q1).2.1; omega):p:=h
theorem AQO(h:p:=by simp only[Md,q2,aO]; rfl):p:=h
theorem AQP(h:p:=by simp at hl):p:=h
theorem AQQ(h:p:=by simp[Ae]; omega):p:=h
theorem AQR(h:p:=by rw[offsets,aR (by omega)]; simp):p:=h
theorem AQS(h:p:=by simpa using hk2):p:=h
theorem AQT(h:p:=by simp[Ae] at h2 ⊢; omega):p:=h
theorem AQU(h:p:=by rw[size_zeroCells,hzs]):p:=h
theorem AQV(h:p:=by simp only[abi,ap,aaH,bc]; rfl):p:=h
theorem AQW(h:p:=by simpa using hh):p:=h
theorem AQX(h:p:=by have:=hx.2.2.1; omega):p:=h
theorem AQY(h:p:=by simp[Ae] at h3; omega):p:=h
theorem AQZ(h:p:=by simp[OwnL] at ho):p:=h
theorem AQa(h:p:=by rw[<- hxfl]; exact hk):p:=h
theorem AQb(h:p:=by simp only[bne,h5,aD]):p:=h
theorem AQc(h:p:=by simp[Bv,hlt0]):p:=h
theorem AQd(h:p:=by rw[hgn,el0,hl1]; rfl):p:=h
theorem AQe(h:p:=by simp[hi]):p:=h
theorem AQf(h:p:=by simp[bne,h1]):p:=h
theorem AQg(h:p:=by simp[l0,hl1]):p:=h
end
theorem aa:type_of% @List.length_map:=@List.length_map
theorem ab:type_of% @List.getElem?_cons_zero:=@List.getElem?_cons_zero
theorem ac:type_of% @Bool.false_and:=@Bool.false_and
theorem ae:type_of% @List.getElem?_cons_succ:=@List.getElem?_cons_succ
theorem ag:type_of% @List.length_cons:=@List.length_cons
theorem ah:type_of% @Bool.true_and:=@Bool.true_and
theorem ai:type_of% @Option.some.injEq:=@Option.some.injEq
theorem aj:type_of% @List.length_nil:=@List.length_nil
theorem ak:type_of% @List.length_set:=@List.length_set
theorem al:type_of% @List.set_set:=@List.set_set
theorem am:type_of% @List.getElem?_eq_getElem:=@List.getElem?_eq_getElem
theorem an:type_of% @List.getElem_mem:=@List.getElem_mem
theorem ao:type_of% @List.map_cons:=@List.map_cons
theorem ap:type_of% @List.map_nil:=@List.map_nil
theorem aq:type_of% @Nat.zero_le:=@Nat.zero_le
theorem ar:type_of% @Bool.and_eq_true:=@Bool.and_eq_true
theorem as_:type_of% @bne_self_eq_false:=@bne_self_eq_false
theorem au:type_of% @Option.getD_some:=@Option.getD_some
theorem av:type_of% @beq_self_eq_true:=@beq_self_eq_true
theorem aw:type_of% @Bool.and_true:=@Bool.and_true
theorem ax:type_of% @Bool.false_eq_true:=@Bool.false_eq_true
theorem ay:type_of% @Bool.and_false:=@Bool.and_false
theorem az:type_of% @List.getElem?_eq_some_iff:=@List.getElem?_eq_some_iff
theorem aA:type_of% @List.nil_append:=@List.nil_append
theorem aB:type_of% @List.drop_eq_getElem_cons:=@List.drop_eq_getElem_cons
theorem aC:type_of% @List.all_eq_true:=@List.all_eq_true
theorem aD:type_of% @Bool.not_true:=@Bool.not_true
theorem aF:type_of% @Int.eq_ofNat_of_zero_le:=@Int.eq_ofNat_of_zero_le
theorem aG:type_of% @Nat.le_refl:=@Nat.le_refl
theorem aH:type_of% @Bool.not_false:=@Bool.not_false
theorem aI:type_of% @List.all_cons:=@List.all_cons
theorem aJ:type_of% @List.cons_append:=@List.cons_append
theorem aK:type_of% @List.drop_length:=@List.drop_length
theorem aL:type_of% @if_false:=@if_false
theorem aM:type_of% @List.all_nil:=@List.all_nil
theorem aN:type_of% @List.getElem?_set_self:=@List.getElem?_set_self
theorem aO:type_of% @if_true:=@if_true
theorem aP:type_of% @List.length_append:=@List.length_append
theorem aQ:type_of% @decide_eq_true_eq:=@decide_eq_true_eq
theorem aR:type_of% @if_neg:=@if_neg
theorem aS:type_of% @List.getElem?_append_right:=@List.getElem?_append_right
theorem aT:type_of% @List.mem_of_getElem?:=@List.mem_of_getElem?
theorem aU:type_of% @List.length_take:=@List.length_take
theorem aV:type_of% @if_pos:=@if_pos
theorem aW:type_of% @List.append_eq:=@List.append_eq
theorem aX:type_of% @List.take_length:=@List.take_length
theorem aY:type_of% @List.getElem?_append_left:=@List.getElem?_append_left
theorem aZ:type_of% @Int.toNat_natCast:=@Int.toNat_natCast
theorem ba:type_of% @List.append_assoc:=@List.append_assoc
theorem bb:type_of% @Prod.mk.injEq:=@Prod.mk.injEq
theorem bc:type_of% @List.append_nil:=@List.append_nil
theorem bd:type_of% @Array.getElem?_eq_some_iff:=@Array.getElem?_eq_some_iff
theorem be:type_of% @Bool.false_or:=@Bool.false_or
theorem bf:type_of% @List.map_take:=@List.map_take
theorem bh:type_of% @Nat.lt_or_ge:=@Nat.lt_or_ge
theorem bi:type_of% @Option.map_some:=@Option.map_some
theorem bk:type_of% @List.map_drop:=@List.map_drop
theorem bl:type_of% @List.map_append:=@List.map_append
theorem bm:type_of% @Nat.lt_of_lt_of_le:=@Nat.lt_of_lt_of_le
theorem bn:type_of% @List.map_set:=@List.map_set
theorem aaa:type_of% @List.length_replicate:=@List.length_replicate
theorem XV:type_of% @List.flatten_cons:=@List.flatten_cons
theorem P7:type_of% @Bool.true_or:=@Bool.true_or
theorem jq:type_of% @List.getElem?_eq_none:=@List.getElem?_eq_none
theorem yD:type_of% @Int.tdiv_eq_ediv_of_nonneg:=@Int.tdiv_eq_ediv_of_nonneg
theorem TM:type_of% @List.mem_cons:=@List.mem_cons
theorem W_:type_of% @Option.map_none:=@Option.map_none
theorem aah:type_of% @Int.mul_le_mul_of_nonneg_right:=@Int.mul_le_mul_of_nonneg_right
theorem iT:type_of% @of_decide_eq_true:=@of_decide_eq_true
theorem dD:type_of% @Nat.lt_succ_self:=@Nat.lt_succ_self
theorem uF:type_of% @List.mem_of_mem_take:=@List.mem_of_mem_take
theorem ZW:type_of% @Nat.min_eq_left:=@Nat.min_eq_left
theorem aam:type_of% @List.eq_nil_of_length_eq_zero:=@List.eq_nil_of_length_eq_zero
theorem nX:type_of% @List.getElem?_map:=@List.getElem?_map
theorem aao:type_of% @Option.map_eq_some_iff:=@Option.map_eq_some_iff
theorem aap:type_of% @List.take_succ_eq_append_getElem:=@List.take_succ_eq_append_getElem
theorem yE:type_of% @List.mem_of_mem_drop:=@List.mem_of_mem_drop
theorem aar:type_of% @List.sizeOf_lt_of_mem:=@List.sizeOf_lt_of_mem
theorem jr:type_of% @List.all_append:=@List.all_append
theorem aat:type_of% @Int.tmod_eq_emod_of_nonneg:=@Int.tmod_eq_emod_of_nonneg
theorem aau:type_of% @List.take_of_length_le:=@List.take_of_length_le
theorem wu:type_of% @List.getElem?_set:=@List.getElem?_set
theorem uG:type_of% @Option.some.inj:=@Option.some.inj
theorem ww:type_of% @Option.getD_none:=@Option.getD_none
theorem aay:type_of% @Array.getElem?_append_left:=@Array.getElem?_append_left
theorem aaz:type_of% @Nat.pow_le_pow_right:=@Nat.pow_le_pow_right
theorem aaA:type_of% @decide_eq_false_iff_not:=@decide_eq_false_iff_not
theorem jB:type_of% @List.mem_map:=@List.mem_map
theorem aaC:type_of% @List.getElem?_take:=@List.getElem?_take
theorem aaD:type_of% @List.flatten_append:=@List.flatten_append
theorem aaE:type_of% @List.getElem_of_mem:=@List.getElem_of_mem
theorem aaF:type_of% @Nat.mul_le_mul_right:=@Nat.mul_le_mul_right
theorem dE:type_of% @Nat.add_mul:=@Nat.add_mul
theorem aaH:type_of% @List.flatten_nil:=@List.flatten_nil
theorem jv:type_of% @Nat.sub_self:=@Nat.sub_self
theorem yF:type_of% @List.mem_append:=@List.mem_append
theorem aaK:type_of% @List.mem_or_eq_of_mem_set:=@List.mem_or_eq_of_mem_set
theorem nY:type_of% @Nat.zero_add:=@Nat.zero_add
theorem aaM:type_of% @List.length_drop:=@List.length_drop
theorem aaN:type_of% @Bool.or_eq_true:=@Bool.or_eq_true
theorem aaO:type_of% @Int.fdiv_eq_ediv_of_nonneg:=@Int.fdiv_eq_ediv_of_nonneg
theorem aaP:type_of% @List.map_congr_left:=@List.map_congr_left
theorem aaQ:type_of% @Array.toList_append:=@Array.toList_append
theorem aaR:type_of% @Nat.zero_lt_one:=@Nat.zero_lt_one
theorem aaS:type_of% @Nat.le_of_ble_eq_true:=@Nat.le_of_ble_eq_true
theorem aaT:type_of% @Option.map_map:=@Option.map_map
theorem aaU:type_of% @Int.pow_nonneg:=@Int.pow_nonneg
theorem aaV:type_of% @List.getElem?_drop:=@List.getElem?_drop
theorem yG:type_of% @Nat.sub_zero:=@Nat.sub_zero
theorem aaX:type_of% @List.mem_singleton:=@List.mem_singleton
theorem aaY:type_of% @Int.mul_nonneg:=@Int.mul_nonneg
theorem aaZ:type_of% @Nat.mul_le_mul:=@Nat.mul_le_mul
theorem aa0:type_of% @List.mem_flatten:=@List.mem_flatten
theorem aa1:type_of% @List.length_pos_iff:=@List.length_pos_iff
theorem aa2:type_of% @List.length_filterMap_le:=@List.length_filterMap_le
theorem qX:type_of% @beq_iff_eq:=@beq_iff_eq
theorem aa4:type_of% @List.getElem?_toArray:=@List.getElem?_toArray
theorem aa5:type_of% @Array.getElem?_replicate:=@Array.getElem?_replicate
theorem aa6:type_of% @Array.getD_eq_getD_getElem?:=@Array.getD_eq_getD_getElem?
theorem aa7:type_of% @Int.le_refl:=@Int.le_refl
theorem aa8:type_of% @Bool.not_eq_true':=@Bool.not_eq_true'
theorem aa9:type_of% @List.size_toArray:=@List.size_toArray
theorem aba:type_of% @List.take_succ_cons:=@List.take_succ_cons
theorem abb:type_of% @List.drop_zero:=@List.drop_zero
theorem abc:type_of% @List.set_getElem_self:=@List.set_getElem_self
theorem abd:type_of% @List.mem_iff_getElem?:=@List.mem_iff_getElem?
theorem abe:type_of% @Int.pow_succ:=@Int.pow_succ
theorem abf:type_of% @Int.mul_le_mul_of_nonneg_left:=@Int.mul_le_mul_of_nonneg_left
theorem abg:type_of% @List.mem_cons_of_mem:=@List.mem_cons_of_mem
theorem abh:type_of% @List.getElem?_replicate:=@List.getElem?_replicate
theorem abi:type_of% @List.take_zero:=@List.take_zero
theorem abj:type_of% @List.mem_range:=@List.mem_range
theorem abk:type_of% @Bool.eq_false_iff:=@Bool.eq_false_iff
theorem abl:type_of% @List.ext_getElem?:=@List.ext_getElem?
theorem abm:type_of% @Array.ext':=@Array.ext'
theorem abn:type_of% @List.set_append_right:=@List.set_append_right
theorem abo:type_of% @Nat.eq_zero_or_pos:=@Nat.eq_zero_or_pos
theorem abp:type_of% @List.length_filter_le:=@List.length_filter_le
theorem abq:type_of% @Array.mapM_eq_mapM_toList:=@Array.mapM_eq_mapM_toList
theorem abr:type_of% @List.getElem?_eq_none_iff:=@List.getElem?_eq_none_iff
theorem abt:type_of% @List.mem_iff_getElem:=@List.mem_iff_getElem
theorem abu:type_of% @List.foldl_append:=@List.foldl_append
theorem abv:type_of% @Option.bind_some:=@Option.bind_some
theorem abw:type_of% @List.getElem_cons_zero:=@List.getElem_cons_zero
theorem abx:type_of% @List.getElem_cons_succ:=@List.getElem_cons_succ
theorem aby:type_of% @Nat.ne_of_beq_eq_false:=@Nat.ne_of_beq_eq_false
theorem yH:type_of% @and_true:=@and_true
theorem abA:type_of% @List.pairwise_cons:=@List.pairwise_cons
theorem abB:type_of% @List.foldl_cons:=@List.foldl_cons
theorem abC:type_of% @Nat.add_zero:=@Nat.add_zero
theorem abD:type_of% @Bool.or_false:=@Bool.or_false
theorem abE:type_of% @List.take_add_one:=@List.take_add_one
theorem abF:type_of% @List.ext_getElem:=@List.ext_getElem
theorem abG:type_of% @Nat.mod_eq_of_lt:=@Nat.mod_eq_of_lt
theorem abH:type_of% @Int.natCast_zero:=@Int.natCast_zero
theorem abI:type_of% @Nat.le_trans:=@Nat.le_trans
theorem abJ:type_of% @decide_false:=@decide_false
open Go.RowKit
inductive Cl where
 | v (x:Value)
 | sl (xs:List (List Cl))
 | ref (l:Nat)
 | ow (ty:TypeId) (sz:Nat) (xs:List (List Cl))
 deriving Inhabited
inductive AV where
 | c (x:Cl)
 | agg (xs:List Cl)
 | lp (l i off:Nat)
 | ip (xs:List Cl)
 | tup (xs:List AV)
 | undef
 | un
 | pin (x:AV) (u:Value)
 | clo (f:FuncId) (xs:List (List Cl))
 | vw (x:AV) (i n m:Nat)
 deriving Inhabited
structure Ob where
 ty:TypeId
 sz:Nat
 xs:List (List Cl)
 wr:Bool
 live:Bool
 deriving Inhabited
structure MS where
 n:Nat
 env:List (Nat×AV)
 st:List Ob
def CG:List (Nat×AV)->Nat->AV
 | [],_=>.un
 | (k,v)::r,i=>if k=i then v else CG r i
def MS.put (s:MS) (d:Option Nat) (v:AV):MS:=match d with
 | some d=>if d<s.n then⟨s.n,(d,v)::s.env,s.st⟩ else s
 | none=>s
def Qv:Value->Bool
 | .agg _ | .tuple _=>false
 | .int k n=>(Lit.int k n).wf
 | .string s=>decide (s.size<=maxLen)
 | _=>true
theorem nZ {x:Value} (h:Qv x=true):x.oneCell'=true:=by cases x<;>simp_all [Qv,Value.oneCell']
mutual
def RdD (w:World) (St:Nat->Nat->Prop):Cl->Value->Prop
 | .v x,u=>u=x/\Qv x=true
 | .ref _,_=>False
 | .ow _ _ _,_=>False
 | .sl xs,u=>∃ a cap,u = .slice a xs.length cap/\xs.length<=cap/\cap<=maxLen/\(∃ sz,∀ x∈xs,x.length=sz)/\(xs = []\/∃ b off,a=some ⟨b,off,none⟩/\RdE w St xs b off)
def RdE (w:World) (St:Nat->Nat->Prop):List (List Cl)->Nat->Nat->Prop
 | [],_,_=>True
 | x::xs,b,off=>RdL w St x b off/\RdE w St xs b (off+x.length)
def RdL (w:World) (St:Nat->Nat->Prop):List Cl->Nat->Nat->Prop
 | [],_,_=>True
 | c::cs,b,off=>(St b off/\∃ u,w.cell? ⟨b,off,none⟩=some u/\RdD w St c u)/\RdL w St cs b (off+1)
end
mutual
theorem RdD.mono {w w':World} {St St':Nat->Nat->Prop} (hS:∀ b o,St b o->St' b o) (hw:∀ b o,St b o->w'.cell? ⟨b,o,none⟩=w.cell? ⟨b,o,none⟩) :
  ∀ (c:Cl) (u:Value),RdD w St c u->RdD w' St' c u
 | .v x,u,h=>by simp only[RdD] at h ⊢; exact h
 | .ref _,_,h=>by simp[RdD] at h
 | .ow _ _ _,_,h=>by simp[RdD] at h
 | .sl xs,u,h=>by
  simp only[RdD] at h ⊢;obtain⟨a,cap,h1,h2,h3,h4,h5⟩:=h;refine⟨a,cap,h1,h2,h3,h4, ?_⟩;rcases h5 with h5 | ⟨b,off,h5,h6⟩
  .exact .inl h5
  .exact .inr ⟨b,off,h5,RdE.mono hS hw xs b off h6⟩
theorem RdE.mono {w w':World} {St St':Nat->Nat->Prop} (hS:∀ b o,St b o->St' b o) (hw:∀ b o,St b o->w'.cell? ⟨b,o,none⟩=w.cell? ⟨b,o,none⟩) :
  ∀ (xs:List (List Cl)) (b off:Nat),RdE w St xs b off->RdE w' St' xs b off
 | [],_,_,_=>by simp[RdE]
 | x::xs,b,off,h=>by simp only[RdE] at h ⊢;exact⟨RdL.mono hS hw x b off h.1,RdE.mono hS hw xs b _ h.2⟩
theorem RdL.mono {w w':World} {St St':Nat->Nat->Prop} (hS:∀ b o,St b o->St' b o) (hw:∀ b o,St b o->w'.cell? ⟨b,o,none⟩=w.cell? ⟨b,o,none⟩) :
  ∀ (cs:List Cl) (b off:Nat),RdL w St cs b off->RdL w' St' cs b off
 | [],_,_,_=>by simp[RdL]
 | c::cs,b,off,h=>by simp only[RdL] at h ⊢;obtain⟨⟨h1,u,h2,h3⟩,h4⟩:=h;exact⟨⟨hS _ _ h1,u,by rw[hw _ _ h1]; exact h2,RdD.mono hS hw c u h3⟩,RdL.mono hS hw cs b _ h4⟩
end
theorem RdL.at {w:World} {St:Nat->Nat->Prop}:∀ {cs:List Cl} {b off:Nat},RdL w St cs b off->∀ j c,cs[j]?=some c ->
  St b (off+j)/\∃ u,w.cell? ⟨b,off+j,none⟩=some u/\RdD w St c u
 | [],_,_,_,j,c,h=>APN
 | c0::cs,b,off,h,j,c,hj=>by
  simp only[RdL] at h;cases j with
  | zero=>simp only[ab,ai] at hj; subst hj; exact h.1
  | succ j =>
   simp only[ae] at hj
   have:=RdL.at h.2 j c hj
   rwa [show off+1+j=off+(j+1) from AOl] at this
theorem ACj {w:World} {St:Nat->Nat->Prop}:∀ {cs:List Cl} {b off:Nat},(∀ j c,cs[j]?=some c->St b (off+j)/\∃ u,w.cell? ⟨b,off+j,none⟩=some u/\RdD w St c u)->RdL w St cs b off
 | [],_,_,_=>by simp[RdL]
 | c0::cs,b,off,h=>by simp only[RdL];refine⟨by simpa using h 0 c0 rfl,ACj fun j c hj=>?_⟩;have:=h (j+1) c (by simpa using hj);rwa [show off+(j+1)=off+1+j from AOl] at this
theorem RdL.drop {w:World} {St:Nat->Nat->Prop} {cs:List Cl} {b off:Nat} (h:RdL w St cs b off) (n:Nat):RdL w St (cs.drop n) b (off+n):=
 ACj fun j c hj=>by have:=h.at (n+j) c AOo;grind
theorem RdL.take {w:World} {St:Nat->Nat->Prop} {cs:List Cl} {b off:Nat} (h:RdL w St cs b off) (n:Nat):RdL w St (cs.take n) b off:=
 ACj fun j c hj=>by
  rw[aaC] at hj;split at hj
  .exact h.at j c hj
  .simp at hj
theorem RdE.at {w:World} {St:Nat->Nat->Prop} (sz:Nat):∀ {xs:List (List Cl)} {b off:Nat},RdE w St xs b off->(∀ x∈xs,x.length=sz)->∀ i x,xs[i]?=some x->RdL w St x b (off+i*sz)
 | [],_,_,_,_,i,x,h=>APN
 | x0::xs,b,off,h,hl,i,x,hi=>by
  simp only[RdE] at h;cases i with
  | zero=>simp only[ab,ai] at hi; subst hi; simpa using h.1
  | succ i =>
   simp only[ae] at hi
   have:=RdE.at sz h.2 (fun y hy=>hl y AP_) i x hi
   rw[hl x0 AOm] at this
   rwa [show off+sz+i*sz=off+(i+1)*sz by rw[dE]; omega] at this
theorem ADP {w:World} {St:Nat->Nat->Prop} (sz:Nat):∀ {xs:List (List Cl)} {b off:Nat},(∀ x∈xs,x.length=sz)->(∀ i x,xs[i]?=some x->RdL w St x b (off+i*sz))->RdE w St xs b off
 | [],_,_,_,_=>by simp[RdE]
 | x0::xs,b,off,hl,h=>by simp only[RdE];refine⟨by simpa using h 0 x0 rfl,ADP sz (fun y hy=>hl y AP_) fun i x hi=>?_⟩;have:=h (i+1) x AOo;grind
def AB:Cl->Bool
 | .v (.slice _ _ _)=>false
 | .v (.agg _)=>false
 | .v (.tuple _)=>false
 | .v _=>true
 | .sl _=>true
 | .ref _=>false
 | .ow _ _ _=>false
def DK (cs:List Cl):Bool:=cs.all AB
def GL (xs:List (List Cl)):Bool:=xs.all DK
def BQ (w:World) (st:List Ob) (β:Nat->Option Nat) (l:Nat) (u:Value):Prop:=
 match st[l]? with
 | none=>False
 | some ob=>u.oneCell'=true/\(ob.live=true->match β l with
  | none=>u = .slice none 0 0/\ob.xs = []
  | some b=>∃ cap cs,u = .slice (some ⟨b,0,none⟩) ob.xs.length cap/\ob.xs.length<=cap/\cap<=maxLen/\w.heap[b]?=some (.cells cs ob.ty (0,0))/\cs.size=cap*ob.sz)
def RdC (w:World) (St:Nat->Nat->Prop) (st:List Ob) (β:Nat->Option Nat):Cl->Value->Prop
 | .ref l,u=>BQ w st β l u
 | c,u=>RdD w St c u
mutual
def AVR (w:World) (St:Nat->Nat->Prop) (st:List Ob) (β:Nat->Option Nat):AV->Value->Prop
 | .c x,u=>RdC w St st β x u
 | .agg xs,u=>∃ us:List Value,u = .agg us.toArray/\us.length=xs.length/\∀ (k:Nat) (c:Cl),xs[k]?=some c->∃ y,us[k]?=some y/\RdC w St st β c y
 | .lp l i off,u=>match st[l]? with
  | none=>False
  | some ob=>ob.live=true->∃ b,β l=some b/\u = .pointer (some ⟨b,i*ob.sz+off,none⟩)
 | .ip xs,u=>∃ b off,u = .pointer (some ⟨b,off,none⟩)/\RdL w St xs b off
 | .tup xs,u=>∃ us:List Value,u = .tuple us.toArray/\AVRs w St st β xs us
 | .undef,u=>u=Go.undef
 | .un,_=>True
 | .pin x u0,u=>u=u0/\AVR w St st β x u
 | .clo f xs,u=>∃ us:List Value,u = .func (.func f) #[] us.toArray/\us.length=xs.length/\∀ (k:Nat) (c:List Cl),xs[k]?=some c->∃ b off,us[k]?=some (.pointer (some ⟨b,off,none⟩))/\RdL w St c b off
 | .vw x i n m,u=>∃ b len cap cap',u = .slice (some ⟨b,i*n,none⟩) m cap'/\m<=cap'/\cap'<=maxLen/\AVR w St st β x (.slice (some ⟨b,0,none⟩) len cap)
def AVRs (w:World) (St:Nat->Nat->Prop) (st:List Ob) (β:Nat->Option Nat):List AV->List Value->Prop
 | [],us=>us = []
 | x::xs,us=>∃ y ys,us=y::ys/\AVR w St st β x y/\AVRs w St st β xs ys
end
def RdB (w:World) (St:Nat->Nat->Prop) (st:List Ob) (β:Nat->Option Nat):Cl->Value->Prop
 | .ow _ _ _,u=>u.oneCell'=true
 | c,u=>RdC w St st β c u
def ObR (w:World) (St:Nat->Nat->Prop) (st:List Ob) (β:Nat->Option Nat) (ob:Ob) (b:Nat):Prop:=
 ∃ cs:Array Value,w.heap[b]?=some (.cells cs ob.ty (0,0))/\(∀ x∈ob.xs,x.length=ob.sz) /\
  ∀ (k:Nat) (c:Cl),ob.xs.flatten[k]?=some c->∃ u,cs[k]?=some u/\RdB w St st β c u
def HY:Cl->Bool
 | .ow _ _ _=>true
 | _=>false
mutual
def RdO (w:World) (St:Nat->Nat->Prop):Cl->Value->(Nat->Prop)->Prop
 | .ow ty sz xs,u,F=>(u = .slice none 0 0/\xs = [])\/∃ (b cap:Nat) (cs:Array Value) (G:Nat->Nat->Prop),u = .slice (some ⟨b,0,none⟩) xs.length cap/\xs.length<=cap/\cap<=maxLen /\
   w.heap[b]?=some (.cells cs ty (0,0))/\cs.size=cap*sz/\(∀ x∈xs,x.length=sz)/\F b/\(∀ k x,G k x->F x/\x≠b)/\(∀ k k' x,G k x->G k' x->k=k')/\RdOE w St xs 0 cs G
 | .v x,u,_=>u=x/\Qv x=true
 | .sl xs,u,_=>RdD w St (.sl xs) u
 | .ref _,_,_=>False
def RdOE (w:World) (St:Nat->Nat->Prop):List (List Cl)->Nat->Array Value->(Nat->Nat->Prop)->Prop
 | [],_,_,_=>True
 | x::xs,n,cs,G=>RdOL w St x n cs G/\RdOE w St xs (n+x.length) cs G
def RdOL (w:World) (St:Nat->Nat->Prop):List Cl->Nat->Array Value->(Nat->Nat->Prop)->Prop
 | [],_,_,_=>True
 | c::cl,n,cs,G=>(∃ y,cs[n]?=some y/\RdO w St c y (G n))/\RdOL w St cl (n+1) cs G
end
mutual
theorem RdO.mono {w w':World} {St St':Nat->Nat->Prop} (hS:∀ b o,St b o->St' b o) (hw:∀ b o,St b o->w'.cell? ⟨b,o,none⟩=w.cell? ⟨b,o,none⟩) :
  ∀ (c:Cl) (u:Value) (F F':Nat->Prop),(∀ x,F x->F' x)->(∀ x,F x->w'.heap[x]?=w.heap[x]?)->RdO w St c u F->RdO w' St' c u F'
 | .v x,u,F,F',_,_,h=>by simp only[RdO] at h ⊢; exact h
 | .ref _,_,_,_,_,_,h=>by simp[RdO] at h
 | .sl xs,u,F,F',_,_,h=>by simp only[RdO] at h ⊢; exact RdD.mono hS hw _ _ h
 | .ow ty sz xs,u,F,F',hF,hh,h=>by
  simp only[RdO] at h ⊢;rcases h with h | ⟨b,cap,cs,G,h1,h2,h3,h4,h5,h6,h7,h8,h9,h10⟩
  .exact .inl h
  .exact .inr ⟨b,cap,cs,G,h1,h2,h3,AOo,h5,h6,hF b h7,fun k x hx=>⟨hF x (h8 k x hx).1,(h8 k x hx).2⟩,h9,RdOE.mono hS hw xs 0 cs G (fun k x hx=>hh x (h8 k x hx).1) h10⟩
theorem RdOE.mono {w w':World} {St St':Nat->Nat->Prop} (hS:∀ b o,St b o->St' b o) (hw:∀ b o,St b o->w'.cell? ⟨b,o,none⟩=w.cell? ⟨b,o,none⟩) :
  ∀ (xs:List (List Cl)) (n:Nat) (cs:Array Value) (G:Nat->Nat->Prop),(∀ k x,G k x->w'.heap[x]?=w.heap[x]?)->RdOE w St xs n cs G->RdOE w' St' xs n cs G
 | [],_,_,_,_,_=>by simp[RdOE]
 | x::xs,n,cs,G,hh,h=>by simp only[RdOE] at h ⊢;exact⟨RdOL.mono hS hw x n cs G hh h.1,RdOE.mono hS hw xs _ cs G hh h.2⟩
theorem RdOL.mono {w w':World} {St St':Nat->Nat->Prop} (hS:∀ b o,St b o->St' b o) (hw:∀ b o,St b o->w'.cell? ⟨b,o,none⟩=w.cell? ⟨b,o,none⟩) :
  ∀ (cl:List Cl) (n:Nat) (cs:Array Value) (G:Nat->Nat->Prop),(∀ k x,G k x->w'.heap[x]?=w.heap[x]?)->RdOL w St cl n cs G->RdOL w' St' cl n cs G
 | [],_,_,_,_,_=>by simp[RdOL]
 | c::cl,n,cs,G,hh,h=>by simp only[RdOL] at h ⊢;obtain⟨⟨y,h1,h2⟩,h3⟩:=h;exact⟨⟨y,h1,RdO.mono hS hw c y (G n) (G n) (fun _ h=>h) (fun x hx=>hh n x hx) h2⟩,RdOL.mono hS hw cl _ cs G hh h3⟩
end
structure Bs where
 w:World
 own:Nat->Prop
 gs:Nat->Value
def Bs.heap (b:Bs):Array Obj:=b.w.heap
def Bs.may (b:Bs) (x:Nat):Prop:=b.heap.size<=x\/b.own x
def w_ (w:World) (k:Nat):Nat:=match w.heap[k]? with
 | some (.cells cs _ _)=>cs.size
 | _=>0
theorem yI {w w':World} {k:Nat} (h:w'.heap[k]?=w.heap[k]?):w_ w' k=w_ w k:=by simp only[w_,h]
theorem ADR {w w':World} {k:Nat} {cs cs':Array Value} {ty ty':TypeId} {x x':Nat×Nat} (h:w.heap[k]?=some (.cells cs ty x)) (h':w'.heap[k]?=some (.cells cs' ty' x')):w_ w' k=w_ w k↔cs'.size=cs.size:=by simp only[w_,h,h']
structure BelowB (w0:Bs) (w:World):Prop where
 rest:Below 0 w0.w w
 blk:∀ k,k<w0.heap.size->¬ w0.own k->w.heap[k]?=w0.heap[k]?
 siz:∀ k,k<w0.heap.size->w_ w k=w_ w0.w k
theorem BelowB.size {w0:Bs} {w:World} (h:BelowB w0 w):w0.heap.size<=w.heap.size:=h.rest.size
theorem BelowB.refl (w:World) (O:Nat->Prop) {g:Nat->Value}:BelowB ⟨w,O,g⟩ w:=⟨Below.refl _ _,fun _ _ _=>rfl,fun _ _=>rfl⟩
theorem BelowB.step {w0:Bs} {w w':World} (h:BelowB w0 w) {n:Nat} (hb:Below n w w') (hk:∀ k,k<w0.heap.size->¬ w0.own k->w'.heap[k]?=w.heap[k]?) (hs:∀ k,k<w0.heap.size->w_ w' k=w_ w k):BelowB w0 w':=
 ⟨h.rest.trans (hb.mono (aq _)),fun k h1 h2=>(hk k h1 h2).trans (h.blk k h1 h2),fun k h1=>(hs k h1).trans (h.siz k h1)⟩
theorem BelowB.grow {w0:Bs} {w w':World} (h:BelowB w0 w) (hb:Below w.heap.size w w'):BelowB w0 w':=
 h.step hb (fun k h1 _=>hb.block k (bm h1 h.size)) fun k h1=>yI (hb.block k (bm h1 h.size))
theorem BelowB.plain {w w':World} (h:BelowB ⟨w,fun _=>False,fun _=>Go.undef⟩ w'):Below w.heap.size w w':=
 ⟨h.rest.os,h.rest.tape,h.rest.output,h.rest.size,fun k hk=>h.blk k hk fun h=>h⟩
def PX (w0:Bs) (R:Nat->Prop) (w:World) (St:Nat->Nat->Prop) (st:List Ob) (β:Nat->Option Nat) (x:Nat):Prop:=w0.may x/\¬ R x/\x<w.heap.size/\(∀ o,¬ St x o)/\∀ (l:Nat) (ob:Ob),st[l]?=some ob->ob.live=true->β l≠some x
def Own (w0:Bs) (R:Nat->Prop) (w:World) (St:Nat->Nat->Prop) (st:List Ob) (β:Nat->Option Nat):Prop:=∃ φ:Nat->Nat->Nat->Prop,
 (∀ (l:Nat) (ob:Ob) (b k:Nat) (c:Cl),st[l]?=some ob->ob.live=true->β l=some b->ob.xs.flatten[k]?=some c->HY c=true->∃ u,w.cell? ⟨b,k,none⟩=some u/\RdO w St c u (φ l k)) /\
 (∀ l k x,φ l k x->(∃ ob b,st[l]?=some ob/\ob.live=true/\β l=some b)/\PX w0 R w St st β x) /\
 ∀ l l' k k' x,φ l k x->φ l' k' x->l=l'/\k=k'
theorem Own.move {w0:Bs} {R R':Nat->Prop} {w w':World} {St St':Nat->Nat->Prop} {st st':List Ob} {β β':Nat->Option Nat} (h:Own w0 R w St st β) (σ:Nat->Nat)
  (hx:∀ x,PX w0 R w St st β x->PX w0 R' w' St' st' β' x/\w'.heap[x]?=w.heap[x]?) (hS:∀ b o,St b o->St' b o) (hw:∀ b o,St b o->w'.cell? ⟨b,o,none⟩=w.cell? ⟨b,o,none⟩)
  (hob:∀ (l':Nat) (ob':Ob) (b k:Nat) (c:Cl),st'[l']?=some ob'->ob'.live=true->β' l'=some b->ob'.xs.flatten[k]?=some c->HY c=true ->
   ∃ ob b0,st[σ l']?=some ob/\ob.live=true/\β (σ l')=some b0/\ob.xs.flatten[k]?=some c/\w'.cell? ⟨b,k,none⟩=w.cell? ⟨b0,k,none⟩)
  (hσ:∀ (l1 l2:Nat) (o1 o2:Ob),st'[l1]?=some o1->st'[l2]?=some o2->o1.live=true->o2.live=true->σ l1=σ l2->l1=l2):Own w0 R' w' St' st' β':=by
 obtain⟨φ,h1,h2,h3⟩:=h
 refine⟨fun l k x=>(∃ ob b,st'[l]?=some ob/\ob.live=true/\β' l=some b)/\φ (σ l) k x, ?_, ?_, ?_⟩
 .grind [RdO.mono]
 .grind
 grind
def nm (w0:Bs) (a:Act) (i:Nat):Value:=if i<1000000 then a.tmps.getD i undef else w0.gs (i-1000000)
theorem yJ {w0:Bs} {a:Act} (h:a.tmps.size<=1000000) (hg:w0.gs=fun _=>undef) (i:Nat):nm w0 a i=a.tmps.getD i undef:=by
 unfold nm;split
 .rfl
 .rw[hg];have:¬ i<a.tmps.size:=AOl;simp[this]
theorem AGJ {w0:Bs} {a:Act} {i:Nat} (h:¬ i<1000000):nm w0 a i=w0.gs (i-1000000):=aR h
theorem Va {w0:Bs} {a:Act} {i:Nat} (h:i<1000000):nm w0 a i=a.tmps.getD i undef:=aV h
structure Core (w0:Bs) (St0 St:Nat->Nat->Prop) (β:Nat->Option Nat) (s:MS) (a:Act) (w:World):Prop where
 defers:a.defers = []
 size:a.tmps.size=s.n
 lim:s.n<=1000000
 env:∀ i,AVR w St s.st β (CG s.env i) (nm w0 a i)
 below:BelowB w0 w
 st0:∀ b o,St0 b o->St b o
 stOld:∀ b o,St b o->b<w0.heap.size->¬ w0.own b->St0 b o
 stIn:∀ b o,St b o->b<w.heap.size
 obs:∀ l ob b,s.st[l]?=some ob->ob.live=true->β l=some b->w0.may b/\b<w.heap.size/\ObR w St s.st β ob b
 nil:∀ l ob,s.st[l]?=some ob->ob.live=true->β l=none->ob.xs = []
 inj:∀ l l' ob ob' b,s.st[l]?=some ob->s.st[l']?=some ob'->ob.live=true->ob'.live=true->β l=some b->β l'=some b->l=l'
 sep:∀ l ob b o,s.st[l]?=some ob->ob.live=true->β l=some b->St b o->ob.wr=false/\o<ob.xs.length*ob.sz
 own:Own w0 (fun _=>False) w St s.st β
def Sim (w0:Bs) (St0:Nat->Nat->Prop) (s:MS) (a:Act) (w:World):Prop:=∃ St β,Core w0 St0 St β s a w
theorem RdC.mono {w w':World} {St St':Nat->Nat->Prop} {st st':List Ob} {β β':Nat->Option Nat} (hS:∀ b o,St b o->St' b o) (hw:∀ b o,St b o->w'.cell? ⟨b,o,none⟩=w.cell? ⟨b,o,none⟩)
  (hr:∀ l u,BQ w st β l u->BQ w' st' β' l u) (c:Cl) (u:Value) (h:RdC w St st β c u):RdC w' St' st' β' c u:=by
 cases c with
 | ref l=>exact hr l u h
 | v x=>exact RdD.mono hS hw _ _ h
 | sl xs=>exact RdD.mono hS hw _ _ h
 | ow ty sz xs=>simp[RdC,RdD] at h
theorem RdC.toB {w:World} {St:Nat->Nat->Prop} {st:List Ob} {β:Nat->Option Nat} {c:Cl} {u:Value} (h:RdC w St st β c u):RdB w St st β c u:=by
 cases c with
 | ow ty sz xs=>simp[RdC,RdD] at h
 | _=>exact h
theorem RdB.toC {w:World} {St:Nat->Nat->Prop} {st:List Ob} {β:Nat->Option Nat} {c:Cl} {u:Value} (hc:HY c=false) (h:RdB w St st β c u):RdC w St st β c u:=by
 cases c with
 | ow ty sz xs=>simp[HY] at hc
 | _=>exact h
theorem RdC.notOw {w:World} {St:Nat->Nat->Prop} {st:List Ob} {β:Nat->Option Nat} {c:Cl} {u:Value} (h:RdC w St st β c u):HY c=false:=by
 cases c with
 | ow ty sz xs=>simp[RdC,RdD] at h
 | _=>rfl
theorem RdB.mono {w w':World} {St St':Nat->Nat->Prop} {st st':List Ob} {β β':Nat->Option Nat} (hS:∀ b o,St b o->St' b o) (hw:∀ b o,St b o->w'.cell? ⟨b,o,none⟩=w.cell? ⟨b,o,none⟩)
  (hr:∀ l u,BQ w st β l u->BQ w' st' β' l u) (c:Cl) (u:Value) (h:RdB w St st β c u):RdB w' St' st' β' c u:=by
 cases c with
 | ow ty sz xs=>exact h
 | v x=>exact RdC.mono hS hw hr (.v x) u h
 | sl xs=>exact RdC.mono hS hw hr (.sl xs) u h
 | ref l=>exact RdC.mono hS hw hr (.ref l) u h
mutual
theorem AVR.mono {w w':World} {St St':Nat->Nat->Prop} {st st':List Ob} {β β':Nat->Option Nat} (hS:∀ b o,St b o->St' b o) (hw:∀ b o,St b o->w'.cell? ⟨b,o,none⟩=w.cell? ⟨b,o,none⟩)
  (hr:∀ l u,BQ w st β l u->BQ w' st' β' l u) (hp:∀ l i off u,AVR w St st β (.lp l i off) u->AVR w' St' st' β' (.lp l i off) u) :
  ∀ (x:AV) (u:Value),AVR w St st β x u->AVR w' St' st' β' x u
 | .c x,u,h=>by simp only[AVR] at h ⊢; exact RdC.mono hS hw hr x u h
 | .agg xs,u,h=>by simp only[AVR] at h ⊢;obtain⟨us,h1,h2,h3⟩:=h;refine⟨us,h1,h2,fun k c hk=>?_⟩;obtain⟨y,hy,hc⟩:=h3 k c hk;exact⟨y,hy,RdC.mono hS hw hr c y hc⟩
 | .lp l i off,u,h=>hp l i off u h
 | .ip xs,u,h=>by simp only[AVR] at h ⊢;obtain⟨b,off,h1,h2⟩:=h;exact⟨b,off,h1,RdL.mono hS hw xs b off h2⟩
 | .tup xs,u,h=>by simp only[AVR] at h ⊢;obtain⟨us,h1,h2⟩:=h;exact⟨us,h1,AVRs.mono hS hw hr hp xs us h2⟩
 | .undef,_,h=>APv
 | .un,_,_=>by simp only[AVR]
 | .pin x u0,u,h=>by simp only[AVR] at h ⊢;exact⟨h.1,AVR.mono hS hw hr hp x u h.2⟩
 | .clo f xs,u,h=>by simp only[AVR] at h ⊢;obtain⟨us,h1,h2,h3⟩:=h;refine⟨us,h1,h2,fun k c hk=>?_⟩;obtain⟨b,off,hy,hc⟩:=h3 k c hk;exact⟨b,off,hy,RdL.mono hS hw c b off hc⟩
 | .vw x i n m,u,h=>by simp only[AVR] at h ⊢;obtain⟨b,len,cap,cap',h1,h2,h3,h4⟩:=h;exact⟨b,len,cap,cap',h1,h2,h3,AVR.mono hS hw hr hp x _ h4⟩
theorem AVRs.mono {w w':World} {St St':Nat->Nat->Prop} {st st':List Ob} {β β':Nat->Option Nat} (hS:∀ b o,St b o->St' b o) (hw:∀ b o,St b o->w'.cell? ⟨b,o,none⟩=w.cell? ⟨b,o,none⟩)
  (hr:∀ l u,BQ w st β l u->BQ w' st' β' l u) (hp:∀ l i off u,AVR w St st β (.lp l i off) u->AVR w' St' st' β' (.lp l i off) u) :
  ∀ (xs:List AV) (us:List Value),AVRs w St st β xs us->AVRs w' St' st' β' xs us
 | [],us,h=>APr
 | x::xs,us,h=>by simp only[AVRs] at h ⊢;obtain⟨y,ys,h1,h2,h3⟩:=h;exact⟨y,ys,h1,AVR.mono hS hw hr hp x y h2,AVRs.mono hS hw hr hp xs ys h3⟩
end
theorem ObR.mono {w w':World} {St St':Nat->Nat->Prop} {st st':List Ob} {β β':Nat->Option Nat} (hS:∀ b o,St b o->St' b o) (hw:∀ b o,St b o->w'.cell? ⟨b,o,none⟩=w.cell? ⟨b,o,none⟩)
  (hr:∀ l u,BQ w st β l u->BQ w' st' β' l u) {ob:Ob} {b:Nat} (hb:w'.heap[b]?=w.heap[b]?) (h:ObR w St st β ob b):ObR w' St' st' β' ob b:=by
 obtain⟨cs,h1,h2,h3⟩:=h
 refine⟨cs,AOo,h2,fun k c hk=>?_⟩
 grind [RdB.mono]
theorem cell_of_block {w w':World} {b o:Nat} (h:w'.heap[b]?=w.heap[b]?):w'.cell? ⟨b,o,none⟩=w.cell? ⟨b,o,none⟩:=by simp[World.cell?,h]
theorem Own.grow {w0:Bs} {R R':Nat->Prop} {w w':World} {St St':Nat->Nat->Prop} {st:List Ob} {β:Nat->Option Nat} (h:Own w0 R w St st β) (hb:Below w.heap.size w w')
  (hS:∀ b o,St b o->St' b o) (hS':∀ b o,St' b o->b<w.heap.size->St b o) (hin:∀ b o,St b o->b<w.heap.size)
  (hob:∀ (l:Nat) (ob:Ob) (b:Nat),st[l]?=some ob->ob.live=true->β l=some b->b<w.heap.size) (hR:∀ x,x<w.heap.size->R' x->R x):Own w0 R' w' St' st β:=by
 refine h.move id (fun x hx=>?_) hS (fun b o hbo=>cell_of_block (hb.block b (hin b o hbo))) (fun l ob b k c h1 h2 h3 h4 h5=>?_) (fun _ _ _ _ _ _ _ _ e=>e)
 .obtain⟨q1,q2,q3,q4,q5⟩:=hx
  exact⟨⟨q1,fun h=>q2 (hR x q3 h),bm q3 hb.size,fun o ho=>q4 o (hS' x o ho q3),q5⟩,hb.block x q3⟩
 .exact⟨ob,b,h1,h2,h3,h4,cell_of_block (hb.block b (hob l ob b h1 h2 h3))⟩
theorem Core.grow {w0:Bs} {St0 St:Nat->Nat->Prop} {β:Nat->Option Nat} {s:MS} {a:Act} {w w':World} (h:Core w0 St0 St β s a w) (hb:Below w.heap.size w w')
  {St':Nat->Nat->Prop} (hS:∀ b o,St b o->St' b o) (hS':∀ b o,St' b o->b<w.heap.size->St b o) (hin:∀ b o,St' b o->b<w'.heap.size):Core w0 St0 St' β s a w':=by
 have hw0:w0.heap.size<=w.heap.size:=h.below.size
 have hblk:∀ k,k<w.heap.size->w'.heap[k]?=w.heap[k]?:=hb.block
 have hw:∀ b o,St b o->w'.cell? ⟨b,o,none⟩=w.cell? ⟨b,o,none⟩:=fun b o hbo=>cell_of_block (hblk b (h.stIn b o hbo))
 have hr:∀ l u,BQ w s.st β l u->BQ w' s.st β l u:=by
  intro l u hu;unfold BQ at hu ⊢;cases hl:s.st[l]? with
  | none=>grind
  | some ob =>
   grind
 have hp:∀ l i off u,AVR w St s.st β (.lp l i off) u->AVR w' St' s.st β (.lp l i off) u:=by intro l i off u hu; simpa only[AVR] using hu
 exact {
  defers:=h.defers
  size:=h.size
  lim:=h.lim
  env:=fun i=>AVR.mono hS hw hr hp _ _ (h.env i)
  below:=h.below.grow hb
  st0:=fun b o hbo=>hS b o (h.st0 b o hbo)
  stOld:=fun b o hbo hlt=>h.stOld b o (hS' b o hbo (bm hlt hw0)) hlt
  stIn:=hin
  obs:=fun l ob b hl hlive hβ=>by obtain⟨h1,h2,h3⟩:=h.obs l ob b hl hlive hβ;grind [bm,ObR.mono]
  nil:=h.nil
  inj:=h.inj
  sep:=fun l ob b o hl hlive hβ hbo=>h.sep l ob b o hl hlive hβ (hS' b o hbo (h.obs l ob b hl hlive hβ).2.1)
  own:=h.own.grow hb hS hS' h.stIn (fun l ob b h1 h2 h3=>(h.obs l ob b h1 h2 h3).2.1) (fun _ _ h=>h) }
theorem Core.put {w0:Bs} {St0 St:Nat->Nat->Prop} {β:Nat->Option Nat} {s:MS} {a:Act} {w:World} (h:Core w0 St0 St β s a w) (d:Option Nat) {x:AV} {u:Value} (hx:AVR w St s.st β x u) :
  Core w0 St0 St β (s.put d x) (a.put d u) w:=by
 cases d with
 | none=>exact h
 | some d =>
  by_cases hd:d<s.n
  .have e1:s.put (some d) x=⟨s.n,(d,x)::s.env,s.st⟩:=by simp[MS.put,hd]
   rw[e1]
   exact {
    defers:=h.defers
    size:=by simpa [Act.put] using h.size
    lim:=h.lim
    env:=fun i=>by
     simp only[CG,Act.put];by_cases hi:d=i
     .subst hi;have:d<a.tmps.size:=by rw[h.size]; exact hd
      rw[Va (bm hd h.lim)];simpa [this] using hx
     .have:=h.env i;unfold nm at this ⊢;simpa [hi,Array.getElem?_setIfInBounds] using this
    below:=h.below,st0:=h.st0,stOld:=h.stOld,stIn:=h.stIn,obs:=h.obs,nil:=h.nil,inj:=h.inj,sep:=h.sep,own:=h.own }
  .have e1:s.put (some d) x=s:=by simp[MS.put,hd]
   rw[e1]
   have e2:a.put (some d) u=a:=by
    have:¬ d<a.tmps.size:=by rw[h.size]; exact hd
    cases a;simp only[Act.put,Act.mk.injEq,yH];simp only at this;exact Array.setIfInBounds_eq_of_size_le AOl
   grind
theorem AVR.un {w:World} {St:Nat->Nat->Prop} {st:List Ob} {β:Nat->Option Nat} {u:Value}:AVR w St st β .un u:=by simp only[AVR]
def Af (P:Program) (t:TypeId):Option Nat:=(P.info? t).map (·.size)
def Bl (P:Program) (t:TypeId):Option Bool:=(P.underlying t).map fun d=>match d with | .struct _ | .array _ _=>true | _=>false
def O5 (P:Program) (t:TypeId):Option (List Value):=(P.info? t).bind fun i=>i.zero.map fun z=>z.cells.toList
def ng (zs:List Value):Bool:=zs.all Qv
def Uj (P:Program) (t:TypeId):Option (List Cl):=match O5 P t with
 | some zs=>if ng zs then some (zs.map .v) else none
 | none=>none
theorem O6 {P:Program} {t:TypeId} {cs:List Cl} (h:Uj P t=some cs):∃ zs,O5 P t=some zs/\ng zs=true/\cs=zs.map .v:=by unfold Uj at h;grind
def AC (P:Program) (t:TypeId) (f:Nat):Option (Nat×TypeId):=match P.underlying t with
 | some (.struct fs)=>(fs[f]?).map fun x=>(x.offset,x.type)
 | _=>none
def EF (P:Program) (t:TypeId):Option TypeId:=match P.underlying t with
 | some (.slice e)=>some e
 | _=>none
theorem IM {P:Program} {t:TypeId} {n:Nat} (h:Af P t=some n) (w:World):(sizeOf t).run P w = .ok n w:=by
 unfold Af at h;cases hi:P.info? t with
 | none=>grind
 | some i=>simp[hi] at h; simp[sizeOf,typeInfo,hi,h]
theorem Vb {P:Program} {t:TypeId} {g:Bool} (h:Bl P t=some g) (w:World):(isAgg t).run P w = .ok g w:=by
 unfold Bl at h;cases hu:P.underlying t with
 | none=>grind
 | some d =>
  simp only[hu,bi,ai] at h
  subst h
  simp only[isAgg,Sem.run_bind,run_underlying hu,Result.andThen_ok]
  cases d<;>rfl
theorem Vd {P:Program} {t:TypeId} {cs:List Value} (h:O5 P t=some cs) (w:World):∃ z,(zeroValue t).run P w = .ok z w/\z.cells.toList=cs:=by
 unfold O5 at h;cases hi:P.info? t with
 | none=>grind
 | some i =>
  cases hz:i.zero with
  | none=>grind
  | some z=>simp[hi,hz] at h; exact⟨z,by simp[zeroValue,typeInfo,hi,hz],h⟩
def XW (v:Value):AV:=match v with
 | .agg cs=>.agg (cs.toList.map .v)
 | .tuple vs=>if vs.toList.isEmpty then .undef else .un
 | v=>.c (.v v)
def ni (v:Value):Bool:=match v with
 | .agg cs=>cs.toList.all Qv
 | .tuple _=>true
 | v=>Qv v
def Ap:Operand->Bool
 | .tmp t=>decide (t<1000000)
 | .const v=>ni v
 | _=>true
def unpin:AV->AV
 | .pin x _=>x
 | .c x=>.c x
 | .agg xs=>.agg xs
 | .lp l i off=>.lp l i off
 | .ip xs=>.ip xs
 | .tup xs=>.tup xs
 | .undef=>.undef
 | .un=>.un
 | .clo f xs=>.clo f xs
 | .vw x i n m=>.vw x i n m
theorem AVR.unpin {w:World} {St:Nat->Nat->Prop} {st:List Ob} {β:Nat->Option Nat} {x:AV} {u:Value} (h:AVR w St st β x u):AVR w St st β (unpin x) u:=by
 cases x with
 | pin x u0=>simp only[AVR] at h; exact h.2
 | _=>exact h
def Eo (s:MS):Operand->AV
 | .tmp t=>unpin (CG s.env t)
 | .const v=>XW v
 | .global g=>.c (.v (.pointer (some ⟨g,0,none⟩)))
 | .func f=>.c (.v (.func (.func f) #[] #[]))
theorem ABk {w:World} {St:Nat->Nat->Prop} {st:List Ob} {β:Nat->Option Nat} (v:Value) (hv:ni v=true):AVR w St st β (XW v) v:=by
 cases v with
 | agg cs =>
  simp only[XW,AVR]
  simp only[ni] at hv
  refine⟨cs.toList,AOm,AOm,fun k c hk=>?_⟩
  simp only[nX,aao] at hk
  obtain⟨y,hy,rfl⟩:=hk
  refine⟨y,hy, ?_⟩
  simp only[RdC,RdD,true_and]
  grind
 | tuple vs =>
  simp only[XW]
  split
  .rename_i h
   have:vs = #[]:=by cases vs; simp_all
   subst this
   simp only[AVR]; rfl
  .simp only[AVR]
 | _=>simp only[XW,AVR,RdC,RdD,true_and]; exact hv
theorem CU {w0:Bs} {St0 St:Nat->Nat->Prop} {β:Nat->Option Nat} {s:MS} {a:Act} {w:World} (h:Core w0 St0 St β s a w) (x:Operand) (hx:Ap x=true):AVR w St s.st β (Eo s x) (a.eval x):=by
 cases x with
 | tmp t =>
  have:=h.env t
  rw[Va (by simpa [Ap] using hx)] at this
  exact this.unpin
 | const v=>exact ABk v hx
 | global g=>simp[Eo,AVR,RdC,RdD,Act.eval,Qv]
 | func f=>simp[Eo,AVR,RdC,RdD,Act.eval,Qv]
def cellsA:AV->Option (List Cl)
 | .c x=>some [x]
 | .agg xs=>some xs
 | _=>none
theorem TN {w:World} {St:Nat->Nat->Prop} {st:List Ob} {β:Nat->Option Nat} {x:AV} {u:Value} {cs:List Cl} (h:AVR w St st β x u) (hc:cellsA x=some cs) :
  u.cells.toList.length=cs.length/\∀ (k:Nat) (c:Cl),cs[k]?=some c->∃ y,u.cells.toList[k]?=some y/\RdC w St st β c y:=by
 cases x with
 | c x =>
  simp only[cellsA,ai] at hc
  subst hc
  simp only[AVR] at h
  have h1:u.oneCell'=true:=by exact ALl
  have h2:u.cells = #[u]:=by cases u<;>first | rfl | simp[Value.oneCell'] at h1
  grind
 | agg xs =>
  simp only[cellsA,ai] at hc
  subst hc
  simp only[AVR] at h
  obtain⟨us,rfl,h2,h3⟩:=h
  exact⟨by simpa [Value.cells] using h2,fun k c hk=>by simpa [Value.cells] using h3 k c hk⟩
 | _=>simp[cellsA] at hc
theorem RdC.one {w:World} {St:Nat->Nat->Prop} {st:List Ob} {β:Nat->Option Nat} {x:Cl} {u:Value} (h:RdC w St st β x u):u.oneCell'=true:=by exact ALl
theorem RdB.one {w:World} {St:Nat->Nat->Prop} {st:List Ob} {β:Nat->Option Nat} {x:Cl} {u:Value} (h:RdB w St st β x u):u.oneCell'=true:=by
 cases x with
 | ow ty sz xs=>exact h
 | v y=>exact RdC.one (w:=w) (St:=St) (st:=st) (β:=β) (x:=.v y) h
 | sl xs=>exact RdC.one (w:=w) (St:=St) (st:=st) (β:=β) (x:=.sl xs) h
 | ref l=>exact RdC.one (w:=w) (St:=St) (st:=st) (β:=β) (x:=.ref l) h
def DF (st:List Ob) (l:Nat):Option Ob:=match st[l]? with
 | some ob=>if ob.live then some ob else none
 | none=>none
theorem Bo {st:List Ob} {l:Nat} {ob:Ob} (h:DF st l=some ob):st[l]?=some ob/\ob.live=true:=by unfold DF at h;grind
def UG (st:List Ob):Cl->Option (List (List Cl))
 | .v (.slice none 0 0)=>some []
 | .v _=>none
 | .sl xs=>some xs
 | .ref l=>(DF st l).map (·.xs)
 | .ow _ _ _=>none
def fzC (st:List Ob):Cl->Option Cl
 | .v (.slice none 0 0)=>some (.sl [])
 | .v (.slice _ _ _)=>none
 | .v x=>some (.v x)
 | .sl xs=>some (.sl xs)
 | .ref l=>match DF st l with
  | some ob=>if GL ob.xs then some (.sl ob.xs) else none
  | none=>none
 | .ow _ _ _=>none
def Qw (st:List Ob) (l:Nat):List Ob:=st.modify l fun ob=>{ ob with wr:=false }
def uH (st:List Ob):Cl->List Ob
 | .ref l=>Qw st l
 | _=>st
theorem F6 {xs:List (List Cl)} {sz:Nat} (hl:∀ x∈xs,x.length=sz):∀ (i j:Nat) (x:List Cl) (c:Cl),xs[i]?=some x->x[j]?=some c->xs.flatten[i*sz+j]?=some c:=by
 induction xs with
 | nil=>grind
 | cons x0 xs ih =>
  intro i j x c hi hj
  have h0:x0.length=sz:=hl x0 AOm
  simp only[XV]
  cases i with
  | zero =>
   grind
  | succ i =>
   grind
theorem EO {xs:List (List Cl)} {sz:Nat} (hl:∀ x∈xs,x.length=sz):xs.flatten.length=xs.length*sz:=by
 induction xs with
 | nil=>simp
 | cons x xs ih =>
  grind
theorem Ve {w:World} {St:Nat->Nat->Prop} {st:List Ob} {β:Nat->Option Nat} {c:Cl} {u:Value} (hp:AB c=true) (h:RdC w St st β c u):RdD w St c u:=by
 cases c with
 | ref l=>simp[AB] at hp
 | v x=>exact h
 | sl xs=>exact h
 | ow ty sz xs=>simp[AB] at hp
theorem MC {c:Cl} (hp:AB c=true):HY c=false:=by cases c<;>simp_all [AB,HY]
theorem XX {w:World} {st:List Ob} {β:Nat->Option Nat} {l:Nat} (l':Nat) (u:Value):BQ w (Qw st l) β l' u↔BQ w st β l' u:=by unfold BQ Qw;grind
theorem Core.freeze {w0:Bs} {St0 St:Nat->Nat->Prop} {β:Nat->Option Nat} {s:MS} {a:Act} {w:World} (h:Core w0 St0 St β s a w) (l:Nat) {ob:Ob} (hl:DF s.st l=some ob) (hp:GL ob.xs=true) :
  ∃ St',Core w0 St0 St' β ⟨s.n,s.env,Qw s.st l⟩ a w/\(∀ b o,St b o->St' b o)/\(∀ u,BQ w s.st β l u->RdD w St' (.sl ob.xs) u)/\∀ b,β l=some b->(∀ x∈ob.xs,x.length=ob.sz)/\RdE w St' ob.xs b 0:=by
 obtain⟨hl1,hlive⟩:=Bo hl
 refine⟨fun b o=>St b o\/(β l=some b/\o<ob.xs.length*ob.sz), ?_,fun b o hbo=>.inl hbo, ?_, ?_⟩
 .have hget:∀ l' ob',(Qw s.st l)[l']?=some ob'->∃ ob'',s.st[l']?=some ob''/\ob'.ty=ob''.ty/\ob'.sz=ob''.sz/\ob'.xs=ob''.xs/\ob'.live=ob''.live/\(l=l'->ob'.wr=false)/\(l≠l'->ob'=ob''):=by
   intro l' ob' h'
   unfold Qw at h'
   rw[List.getElem?_modify] at h'
   simp only[Option.map_eq_map,aao] at h'
   obtain⟨ob'',h1,h2⟩:=h'
   refine⟨ob'',h1, ?_⟩
   exact ANg
  have hS:∀ b o,St b o->St b o\/(β l=some b/\o<ob.xs.length*ob.sz):=fun b o hbo=>.inl hbo
  have hr:∀ l' u,BQ w s.st β l' u->BQ w (Qw s.st l) β l' u:=fun l' u hu=>(XX l' u).2 hu
  have hp':∀ l' i off u,AVR w St s.st β (.lp l' i off) u->AVR w (fun b o=>St b o\/(β l=some b/\o<ob.xs.length*ob.sz)) (Qw s.st l) β (.lp l' i off) u:=by
   intro l' i off u hu
   simp only[AVR] at hu ⊢
   cases hq:(Qw s.st l)[l']? with
   | none =>
    unfold Qw at hq
    grind
   | some ob' =>
    grind
  exact {
   defers:=h.defers
   size:=h.size
   lim:=h.lim
   env:=fun i=>AVR.mono hS (fun _ _ _=>rfl) hr hp' _ _ (h.env i)
   below:=h.below
   st0:=fun b o hbo=>.inl (h.st0 b o hbo)
   stOld:=fun b o hbo hlt hno=>by
    rcases hbo with hbo | ⟨hβ,_⟩
    .exact h.stOld b o hbo hlt hno
    .rcases(h.obs l ob b hl1 hlive hβ).1 with h' | h'
     .omega
     grind
   stIn:=fun b o hbo=>by
    rcases hbo with hbo | ⟨hβ,_⟩
    .exact h.stIn b o hbo
    .exact(h.obs l ob b hl1 hlive hβ).2.1
   obs:=fun l' ob' b hl' hlive' hβ=>by
    obtain⟨ob'',h1,h2,h3,h4,h5,_⟩:=hget l' ob' hl'
    obtain⟨h6,h7,h8⟩:=h.obs l' ob'' b h1 AOo hβ
    refine⟨h6,h7, ?_⟩
    obtain⟨cs,g1,g2,g3⟩:=ObR.mono hS (fun _ _ _=>rfl) hr rfl h8
    exact⟨cs,AOo,AOo,AOo⟩
   nil:=fun l' ob' hl' hlive' hβ=>by
    obtain⟨ob'',h1,_,_,h4,h5,_⟩:=hget l' ob' hl'
    rw[h4]; exact h.nil l' ob'' h1 AOo hβ
   inj:=fun l1 l2 o1 o2 b h1 h2 h3 h4 h5 h6=>by
    obtain⟨p1,q1,_,_,_,r1,_⟩:=hget l1 o1 h1
    obtain⟨p2,q2,_,_,_,r2,_⟩:=hget l2 o2 h2
    exact h.inj l1 l2 p1 p2 b q1 q2 AOo AOo h5 h6
   sep:=fun l' ob' b o hl' hlive' hβ hbo=>by
    obtain⟨ob'',h1,_,h3,h4,h5,h6,h7⟩:=hget l' ob' hl'
    rcases hbo with hbo | ⟨hβl,ho⟩
    .have:=h.sep l' ob'' b o h1 AOo hβ hbo
     grind
    .have e:l=l':=h.inj l l' ob ob'' b hl1 h1 hlive AOo hβl hβ
     grind
   own:=by
    refine h.own.move id (fun x hx=>⟨⟨hx.1,hx.2.1,hx.2.2.1,fun o ho=>?_,fun l' o' hl' hlv=>by
     obtain⟨o2,g1,_,_,_,g5,_⟩:=hget l' o' hl'
     exact hx.2.2.2.2 l' o2 g1 AOo⟩,rfl⟩) hS (fun _ _ _=>rfl) (fun l' ob' b k c h1 h2 h3 h4 h5=>?_) (fun _ _ _ _ _ _ _ _ e=>e)
    .rcases ho with ho | ⟨hβ,_⟩
     .exact hx.2.2.2.1 o ho
     .exact hx.2.2.2.2 l ob hl1 hlive hβ
    grind }
 .intro u hu
  unfold BQ at hu
  simp only[hl1] at hu
  have hu2:=hu.2 hlive
  cases hβ:β l with
  | none =>
   simp only[hβ] at hu2
   obtain⟨rfl,hx⟩:=hu2
   simp only[RdD]
   exact⟨none,0,AP3,AP3,by simp[maxLen],⟨0,AP3⟩,.inl hx⟩
  | some b =>
   simp only[hβ] at hu2
   obtain⟨cap,cs,rfl,h2,h3,h4,h5⟩:=hu2
   obtain⟨_,_,cs',g1,g2,g3⟩:=h.obs l ob b hl1 hlive hβ
   simp only[RdD]
   refine⟨some ⟨b,0,none⟩,cap,rfl,h2,h3,⟨ob.sz,g2⟩,.inr ⟨b,0,rfl, ?_⟩⟩
   refine ADP ob.sz g2 fun i x hi=>ACj fun j c hj=>?_
   have hf:=F6 g2 i j x c hi hj
   obtain⟨v,hv,hc⟩:=g3 _ c hf
   have hlt:i*ob.sz+j<ob.xs.length*ob.sz:=by exact ANu
   have hpc:AB c=true:=by have h1:DK x=true:=aC.1 hp x (aT hi);exact aC.1 h1 c (aT hj)
   refine⟨.inr ⟨rfl,AOl⟩,v, ?_, ?_⟩
   .rw[World.cell?,g1]
    grind
   .exact ANm
 .intro b hβ
  obtain⟨_,_,cs',g1,g2,g3⟩:=h.obs l ob b hl1 hlive hβ
  refine⟨g2, ?_⟩
  refine ADP ob.sz g2 fun i x hi=>ACj fun j c hj=>?_
  have hf:=F6 g2 i j x c hi hj
  obtain⟨v,hv,hc⟩:=g3 _ c hf
  have hlt:i*ob.sz+j<ob.xs.length*ob.sz:=by exact ANu
  have hpc:AB c=true:=by have h1:DK x=true:=aC.1 hp x (aT hi);exact aC.1 h1 c (aT hj)
  refine⟨.inr ⟨hβ,AOl⟩,v, ?_, ?_⟩
  .rw[World.cell?,g1]
   grind
  .exact ANm
def dF (k:IntKind) (x y:Int):Int:=((BitVec.ofInt k.bits x &&& BitVec.ofInt k.bits y).toNat:Int)
def orK (k:IntKind) (x y:Int):Int:=((BitVec.ofInt k.bits x ||| BitVec.ofInt k.bits y).toNat:Int)
def AHD (op:BinOp) (k:IntKind) (x y:Int):Option Value:=match op with
 | .add=>some (.int k (k.wrap (x+y)))
 | .sub=>some (.int k (k.wrap (x-y)))
 | .mul=>some (.int k (k.wrap (x*y)))
 | .quo=>if y=0 then none else some (.int k (k.wrap (x.tdiv y)))
 | .rem=>if y=0 then none else some (.int k (k.wrap (x.tmod y)))
 | .and=>some (.int k (k.wrap (dF k x y)))
 | .or=>some (.int k (k.wrap (orK k x y)))
 | .eql=>some (.bool (x==y))
 | .neq=>some (.bool (x != y))
 | .lss=>some (.bool (decide (x<y)))
 | .leq=>some (.bool (decide (x<=y)))
 | .gtr=>some (.bool (decide (x>y)))
 | .geq=>some (.bool (decide (x>=y)))
 | _=>none
def AHE (op:BinOp) (x y:ByteArray):Option Value:=match op with
 | .add=>if x.size+y.size<=maxLen then some (.string (x++y)) else none
 | .eql=>some (.bool (x.toList==y.toList))
 | .neq=>some (.bool (!(x.toList==y.toList)))
 | .lss=>some (.bool (Op.bytesLess x.toList y.toList))
 | .leq=>some (.bool (Op.bytesLess x.toList y.toList||x.toList==y.toList))
 | .gtr=>some (.bool (!(Op.bytesLess x.toList y.toList||x.toList==y.toList)))
 | .geq=>some (.bool (!(Op.bytesLess x.toList y.toList)))
 | _=>none
def AFD (P:Program) (op:BinOp) (T:TypeId) (a b:Value):Option Value:=match a,b with
 | .int k x,.int k' y=>match op with
  | .shl=>if y<0 then none else some (.int k (k.wrap (x*2 ^ min y.toNat k.bits)))
  | .shr=>if y<0 then none else some (.int k (k.wrap (x.fdiv (2 ^ min y.toNat k.bits))))
  | op=>if k=k' then AHD op k x y else none
 | .string x,.string y=>AHE op x y
 | .bool x,.bool y=>match P.underlying T with
  | some .bool=>(match op with
   | .eql=>some (.bool (x==y))
   | .neq=>some (.bool (!(x==y)))
   | _=>none)
  | _=>none
 | _,_=>none
theorem LU {k:IntKind} {n:Int} (h:(Lit.int k n).wf=true):k.wrap n=n:=by simp only[Lit.wf,ar,aQ] at h;obtain⟨h1,h2⟩:=h;unfold IntKind.wrap;exact AL_
theorem AFE {k:IntKind} {x y:Int} (h:(Lit.int k x).wf=true):(Lit.int k (x.tmod y)).wf=true:=by
 have h2:(x.tmod y).natAbs<=x.natAbs:=by rw[Int.natAbs_tmod]; exact Nat.mod_le _ _
 have h3:0<=x->0<=x.tmod y:=fun h=>Int.tmod_nonneg y h;have h6:x<=0->x.tmod y<=0:=fun h=>by have:=Int.tmod_nonneg (a:=-x) y AOl;simp_all
 have h4:x.tmod y<=x\/x.tmod y<= -x:=AOl;have h5:x<=x.tmod y\/ -x<=x.tmod y:=AOl;generalize x.tmod y=z at *;clear h2;simp only[Lit.wf,ar,aQ] at *;exact AL_
theorem AFF {k:IntKind} {x:Int} {n:Nat} (h:(Lit.int k x).wf=true):(Lit.int k (x.fdiv (2 ^ n))).wf=true:=by
 have hp:(1:Int)<=2 ^ n:=by have:(0:Int)<2 ^ n:=Int.pow_pos AOu;omega
 have e:x.fdiv (2 ^ n)=x/(2 ^ n):=by rw[aaO _ AOl]
 have h1:0<=x->0<=x/(2 ^ n)/\x/(2 ^ n)<=x:=fun hx=>⟨Int.ediv_nonneg hx AOl,Int.ediv_le_self _ hx⟩;have h2:x<0->x<=x/(2 ^ n)/\x/(2 ^ n)<0:=fun hx=>by refine⟨?_,Int.ediv_neg_of_neg_of_pos hx AOl⟩;rw[Int.le_ediv_iff_mul_le AOl];have h:=aaY (show 0<= -x from AOl) (show (0:Int)<=2 ^ n-1 from AOl);grind
 rw[e];simp only[Lit.wf,ar,aQ] at *;exact AL_
theorem AFG {P:Program} {op:BinOp} {T:TypeId} {a b r:Value} (ha:Qv a=true) (h:AFD P op T a b=some r) (x y:Operand) (w:World) :
  (do eqGuard op T x y a b; binOp op T a b:Sem Value).run P w = .ok r w/\Qv r=true:=by
 unfold AFD at h
 split at h
 .rename_i k x' k' y'
  have hg:(eqGuard op T x y (.int k x') (.int k' y')).run P w = .ok () w:=by unfold eqGuard; cases op<;>simp
  simp only[Sem.run_bind,hg,Result.andThen_ok]
  simp only[Qv] at ha
  split at h
  .split at h
   .cases h
   .simp only[ai] at h; subst h
    rename_i hy
    refine⟨?_,APP⟩
    simp[binOp,Op.shift,hy]
  .split at h
   .cases h
   .simp only[ai] at h; subst h
    rename_i hy
    refine⟨?_,APP⟩
    have:=LU (AFF (n:=min y'.toNat k.bits) ha)
    simp[binOp,Op.shift,hy,this]
  .split at h
   .rename_i hn1 hn2 hk
    subst hk
    unfold AHD at h
    cases op<;>simp only[ai] at h<;>first
     | (cases h; done)
     | (subst h; refine⟨by simp[binOp,Op.intArith,Op.intCmp,Op.intBits,dF,orK], ?_⟩; first | rfl | exact Go.wf_wrap _ _)
     | (
       split at h
       .cases h
       .simp only[ai] at h; subst h
        rename_i hy
        refine⟨?_,APP⟩
        have:=LU (AFE (y:=y') ha)
        simp[binOp,Op.intDiv,hy,this])
     | skip
   .cases h
 .rename_i x' y'
  have hg:(eqGuard op T x y (.string x') (.string y')).run P w = .ok () w:=by unfold eqGuard; cases op<;>simp
  simp only[Sem.run_bind,hg,Result.andThen_ok]
  unfold AHE at h
  cases op<;>simp only[ai] at h<;>first
   | (cases h; done)
   | (subst h; refine⟨by simp[binOp,Op.stringOp],rfl⟩)
   | (
     split at h
     .rename_i hs
      simp only[ai] at h; subst h
      have hs':¬ (IntKind.i64.max<((x'.size+y'.size:Nat):Int)):=by simp only[maxLen] at hs; simp[IntKind.max,IntKind.signed,IntKind.bits]; omega
      refine⟨?_, ?_⟩
      .simp only[binOp,Op.stringOp,gt_iff_lt,aR hs',Sem.run_pure]
      .simp only[Qv,aQ]; grind
     .cases h)
 .rename_i x' y'
  have hg:(eqGuard op T x y (.bool x') (.bool y')).run P w = .ok () w:=by unfold eqGuard; cases op<;>simp
  simp only[Sem.run_bind,hg,Result.andThen_ok]
  split at h
  .rename_i hu
   cases op<;>simp only[ai] at h<;>first
    | (cases h; done)
    | (
      subst h
      refine⟨?_,rfl⟩
      have he:(Op.equal T (.bool x') (.bool y')).run P w = .ok (x'==y') w:=by unfold Op.equal Op.maxDepth;rw[Op.equalIn];simp[run_underlying hu]
      first
       | (show ((do pure (.bool (<- Op.equal T (.bool x') (.bool y')))):Sem Value).run P w=_; simp_all)
       | (show ((do pure (.bool (!(<- Op.equal T (.bool x') (.bool y'))))):Sem Value).run P w=_; simp_all))
  .cases h
 .cases h
def aUn (op:UnOp) (a:Value):Option Value:=match op,a with
 | .neg,.int k n=>some (.int k (k.wrap (0-n)))
 | .not,.bool b=>some (.bool !b)
 | _,_=>none
theorem AHF {P:Program} {op:UnOp} {a r:Value} (h:aUn op a=some r) (w:World):(Op.unary op a).run P w = .ok r w/\Qv r=true:=by
 unfold aUn at h
 split at h<;>(try simp only[ai] at h)<;>first
  | (subst h; exact⟨by simp[Op.unary,Op.intArith],APP⟩)
  | (subst h; exact⟨by simp[Op.unary],rfl⟩)
  | cases h
inductive Kd where
 | bool
 | int (k:IntKind)
 | str
def ADT (P:Program) (t:TypeId):Option Kd:=match P.underlying t with
 | some .bool=>some .bool
 | some (.int k)=>some (.int k)
 | some .string=>some .str
 | _=>none
def flatK (P:Program):List Field->Nat->Option (List Kd)
 | [],_=>some []
 | f::fs,i=>match ADT P f.type,flatK P fs (i+1) with
  | some k, some ks => if f.offset = i /\ f.name ≠ "_" then some (k :: ks) else none
  | _,_=>none
def ZX (P:Program) (T:TypeId):Option (List Kd):=match P.underlying T with
 | some (.struct fs)=>if P.eqGuardType P.depth T=false/\P.stoodInHeld T=false then flatK P fs.toList 0 else none
 | _=>none
def IZ:Kd->Cl->Cl->Option Bool
 | .bool,.v (.bool a),.v (.bool b)=>some (a==b)
 | .int k,.v (.int k1 a),.v (.int k2 b)=>if k1=k/\k2=k then some (a==b) else none
 | .str,.v (.string a),.v (.string b)=>some (a.toList==b.toList)
 | _,_,_=>none
def EW:List Kd->List Cl->List Cl->Option Bool
 | [],[],[]=>some true
 | k::ks,c::cs,d::ds=>match IZ k c d,EW ks cs ds with
  | some b,some r=>some (b&&r)
  | _,_=>none
 | _,_,_=>none
theorem yK {P:Program} {t:TypeId} {k:Kd} (h:ADT P t=some k):P.plainKey t=true:=by unfold ADT at h;unfold Program.plainKey;grind
theorem AHG {P:Program} {w:World} {t:TypeId} {k:Kd} {c d:Cl} {b:Bool} (hk:ADT P t=some k) (h:IZ k c d=some b) (n:Nat):∃ x y,c = .v x/\d = .v y/\(Op.equalIn (n+1) t x y).run P w = .ok b w:=by
 unfold IZ at h;unfold ADT at hk;split at h
 .grind [ai,run_equalIn_bool]
 .rename_i q k1 a k2 a';split at h
  .rename_i hkk;obtain⟨rfl,rfl⟩:=hkk;simp only[ai] at h;subst h;split at hk<;>simp_all;rename_i hu;simp[Op.equalIn,run_underlying hu]
  .cases h
 .rename_i a a';simp only[ai] at h;subst h;split at hk<;>simp_all;rename_i hu;rw[<- beq_toListBytes];simp[Op.equalIn,run_underlying hu]
 .cases h
theorem YV {P:Program} {w:World} (n:Nat) {us vs:List Value}:∀ (fs:List Field) (i:Nat) (ks:List Kd) (cs ds:List Cl) (r:Bool),flatK P fs i=some ks->EW ks cs ds=some r ->
  (∀ (k:Nat) (x:Value),cs[k]?=some (.v x)->us[i+k]?=some x)->(∀ (k:Nat) (x:Value),ds[k]?=some (.v x)->vs[i+k]?=some x)->(Op.eqFields (n+1) us.toArray vs.toArray fs).run P w = .ok r w
 | [],i,ks,cs,ds,r,hf,hb,hu,hv=>by
  simp only[flatK,ai] at hf;subst hf;unfold EW at hb;split at hb
  .simp only[ai] at hb;subst hb;simp[Op.eqFields]
  .rename_i he; cases he
  .cases hb
 | f::fs,i,ks,cs,ds,r,hf,hb,hu,hv=>by
  simp only[flatK] at hf;split at hf
  .rename_i k ks' hk hks;split at hf
   .rename_i hc;obtain⟨hoff,hname⟩:=hc;simp only[ai] at hf;subst hf;cases cs with
    | nil=>simp[EW] at hb
    | cons c cs =>
     cases ds with
     | nil=>simp[EW] at hb
     | cons d ds =>
      simp only[EW] at hb
      split at hb
      .rename_i b r' hb1 hb2
       simp only[ai] at hb
       subst hb
       obtain⟨x,y,rfl,rfl,heq⟩:=AHG (w:=w) hk hb1 n
       have hp:=yK hk
       have p1:(part f.type us.toArray f.offset).run P w = .ok x w:=run_part_plain w hp (by rw[hoff]; simpa using hu 0 x rfl)
       have p2:(part f.type vs.toArray f.offset).run P w = .ok y w:=run_part_plain w hp (by rw[hoff]; simpa using hv 0 y rfl)
       have ih:=YV (w:=w) n fs (i+1) ks' cs ds r' hks hb2 (fun k z hz=>by
        have:=hu (k+1) z (by simpa using hz);rwa [show i+(k+1)=i+1+k from AOl] at this) (fun k z hz=>by
        have:=hv (k+1) z (by simpa using hz);rwa [show i+(k+1)=i+1+k from AOl] at this)
       simp only[Op.eqFields,hname,ne_eq,not_false_eq_true,aO,Sem.run_bind,p1,p2,heq,Result.andThen_ok,Sem.run_ite]
       cases b with
       | true=>simpa using ih
       | false=>simp
      .cases hb
   .cases hf
  .cases hf
theorem uI {P:Program} {w:World} {T:TypeId} {ks:List Kd} {cs ds:List Cl} {r:Bool} {us vs:List Value} (hs:ZX P T=some ks) (hb:EW ks cs ds=some r) (hu:∀ (k:Nat) (x:Value),cs[k]?=some (.v x)->us[k]?=some x) (hv:∀ (k:Nat) (x:Value),ds[k]?=some (.v x)->vs[k]?=some x) (x y:Operand) :
  (do eqGuard .eql T x y (.agg us.toArray) (.agg vs.toArray); binOp .eql T (.agg us.toArray) (.agg vs.toArray):Sem Value).run P w = .ok (.bool r) w /\
   (do eqGuard .neq T x y (.agg us.toArray) (.agg vs.toArray); binOp .neq T (.agg us.toArray) (.agg vs.toArray):Sem Value).run P w = .ok (.bool (!r)) w:=by
 unfold ZX at hs
 split at hs
 .rename_i fs hut
  split at hs
  .rename_i hc
   obtain⟨hg,hst⟩:=hc
   have hfo:P.fieldsOf T=fs:=by simp[Program.fieldsOf,hut]
   have heq:(Op.equal T (.agg us.toArray) (.agg vs.toArray)).run P w = .ok r w:=by unfold Op.equal Op.maxDepth;rw[run_equalIn_struct w 9999 T us.toArray vs.toArray AOo hst,hfo];exact YV 9998 fs.toList 0 ks cs ds r hs hb (fun k x hx=>AOo) (fun k x hx=>AOo)
   constructor
   .simp[eqGuard,run_program,hg,binOp,heq]
   .simp[eqGuard,run_program,hg,binOp,heq]
  .cases hs
 .cases hs
def O7 (row:List Cl) (off n:Nat) (g:Bool):Option AV:=
 if g then(if off+n<=row.length then some (.agg ((row.drop off).take n)) else none)
 else match row[off]? with
  | some c=>some (.c c)
  | none=>none
def Ko:AV->Bool
 | .c x=>!HY x
 | .agg xs=>xs.all fun c=>!HY c
 | _=>true
def E8 (x:AV):Option Nat:=match x with
 | .c (.v (.int _ n))=>if 0<=n then some n.toNat else none
 | _=>none
def AGL (t:Bool) (x y:AV):AV:=match t with
 | true=>x
 | false=>y
def RY:List (List Cl)->Option (List Int)
 | []=>some []
 | [.v (.int .u8 n)]::r=>match RY r with
  | some ns=>some (n::ns)
  | none=>none
 | _::_=>none
def I4 (P:Program) (s:MS) (op:Op):Option AV:=match op with
 | .move x=>some (Eo s x)
 | .assign x=>some (Eo s x)
 | .pick c x y=>match Eo s c with
  | .c (.v (.bool t))=>some (AGL t (Eo s x) (Eo s y))
  | _=>none
 | .load T a=>match Af P T,Bl P T with
  | some n,some g=>match Eo s a with
   | .lp l i off=>match DF s.st l with
    | some ob=>match ob.xs[i]? with
     | some row=>match O7 row off n g with
      | some y=>if Ko y=true then some y else none
      | none=>none
     | none=>none
    | none=>none
   | .ip row=>O7 row 0 n g
   | _=>none
  | _,_=>none
 | .nilCheck x=>match Eo s x with
  | .lp l i off=>match DF s.st l with
   | some _=>some (.lp l i off)
   | none=>none
  | .ip row=>some (.ip row)
  | .c (.v (.func (.func f) a b))=>some (.c (.v (.func (.func f) a b)))
  | _=>none
 | .binOp op T x y _=>match Eo s x,Eo s y with
  | .c (.v a),.c (.v b)=>match AFD P op T a b with
   | some r=>some (.c (.v r))
   | none=>none
  | .agg cs,.agg ds=>match ZX P T with
   | some ks=>match EW ks cs ds with
    | some r=>match op with
     | .eql=>some (.c (.v (.bool r)))
     | .neq=>some (.c (.v (.bool (!r))))
     | _=>none
    | none=>none
   | none=>none
  | _,_=>none
 | .unOp op _ x=>match Eo s x with
  | .c (.v a)=>match aUn op a with
   | some r=>some (.c (.v r))
   | none=>none
  | _=>none
 | .convert src dst x=>match P.underlying src,P.underlying dst,Eo s x with
  | some _,some (.int k),.c (.v (.int _ n))=>some (.c (.v (.int k (k.wrap n))))
  | some _,some .string,.c (.v (.string b))=>some (.c (.v (.string b)))
  | some (.slice e),some .string,.c d=>match P.underlying e,UG s.st d with
   | some (.int .u8),some xs=>match RY xs with
    | some ns=>some (.c (.v (.string (strOfNums ns))))
    | none=>none
   | _,_=>none
  | _,_,_=>none
 | .fieldAddr T x f=>match AC P T f with
  | some (fo,ft)=>match Af P ft with
   | some (_+1)=>match Eo s x with
    | .lp l i off=>match DF s.st l with
     | some _=>some (.lp l i (off+fo))
     | none=>none
    | .ip row=>some (.ip (row.drop fo))
    | _=>none
   | _=>none
  | none=>none
 | .field T x f=>match AC P T f with
  | some (fo,ft)=>match Af P ft,Bl P ft,Eo s x with
   | some n,some g,.agg row=>O7 row fo n g
   | _,_,_=>none
  | none=>none
 | .indexAddr T x ix=>match EF P T with
  | some e=>match Af P e,E8 (Eo s ix) with
   | some n,some k=>match Eo s x with
    | .c (.sl xs)=>match xs[k]? with
     | some row=>if row.length=n then some (.ip row) else none
     | none=>none
    | .c (.ref l)=>match DF s.st l with
     | some ob=>if k<ob.xs.length/\ob.sz=n then some (.lp l k 0) else none
     | none=>none
    | _=>none
   | _,_=>none
  | none=>none
 | .index T x ix=>match P.underlying T with
  | some .string=>match Eo s x,E8 (Eo s ix) with
   | .c (.v (.string b)),some k=>match b[k]? with
    | some c=>some (.c (.v (.int .u8 c.toNat)))
    | none=>none
   | _,_=>none
  | _=>none
 | .extract x ix=>match Eo s x with
  | .tup xs=>xs[ix]?
  | _=>none
 | .call c=>match c.callee with
  | .builtin .len=>match c.argTypes.toList,c.args.toList with
   | [t],[x]=>match P.underlying t,Eo s x with
    | some .string,.c (.v (.string b))=>some (.c (.v (.int .i64 b.size)))
    | some (.slice _),.c d=>match UG s.st d with
     | some xs=>some (.c (.v (.int .i64 xs.length)))
     | none=>none
    | _,_=>none
   | _,_=>none
  | .builtin .min=>match c.args.toList with
   | [x,y]=>match Eo s x,Eo s y with
    | .c (.v (.int .i64 a)),.c (.v (.int .i64 b))=>some (.c (.v (.int .i64 (if b<a then b else a))))
    | _,_=>none
   | _=>none
  | .builtin .max=>match c.args.toList with
   | [x,y]=>match Eo s x,Eo s y with
    | .c (.v (.int .i64 a)),.c (.v (.int .i64 b))=>some (.c (.v (.int .i64 (if a<b then b else a))))
    | _,_=>none
   | _=>none
  | _=>none
 | _=>none
theorem addr_add (b o j:Nat):(⟨b,o,none⟩:Addr).add j=⟨b,o+j,none⟩:=by unfold Addr.add; grind
theorem KI {R:Cl->Value->Prop} {w:World} {b:Nat}:∀ (xs:List Cl) (o:Nat),(∀ (j:Nat) (c:Cl),xs[j]?=some c->∃ u,w.cell? ⟨b,o+j,none⟩=some u/\R c u) ->
  ∃ us:List Value,us.length=xs.length/\∀ (j:Nat) (c:Cl),xs[j]?=some c->∃ u,us[j]?=some u/\w.cell? ⟨b,o+j,none⟩=some u/\R c u
 | [],_,_=>⟨[],rfl,fun j c h=>APN⟩
 | x::xs,o,h=>by
  obtain⟨us,h1,h2⟩:=KI xs (o+1) fun j c hj=>by have:=h (j+1) c AOo;rwa [show o+(j+1)=o+1+j from AOl] at this
  obtain⟨u,hu⟩:=h 0 x rfl;refine⟨u::us,by simp[h1],fun j c hj=>?_⟩;grind
section
variable {P:Program} {w:World} {St:Nat->Nat->Prop} {st:List Ob} {β:Nat->Option Nat}
theorem ABl {row:List Cl} {off n:Nat} {g:Bool} {x:AV} (h:∀ (j:Nat) (c:Cl),row[j]?=some c->HY c=false) (hx:O7 row off n g=some x):Ko x=true:=by
 unfold O7 at hx;cases g with
 | true =>
  simp only[aO] at hx
  split at hx
  .simp only[ai] at hx
   subst hx
   simp only[Ko,aC]
   grind [abd,yE,uF]
  .cases hx
 | false =>
  simp only[ax,aL] at hx
  split at hx
  .rename_i c hc
   simp only[ai] at hx
   subst hx
   simp[Ko,h _ c hc]
  .cases hx
theorem AAT {row:List Cl} {b o off n:Nat} {g:Bool} {T:TypeId} {x:AV} (hcells:∀ (j:Nat) (c:Cl),row[j]?=some c->∃ u,w.cell? ⟨b,o+j,none⟩=some u/\RdB w St st β c u)
  (hs:Af P T=some n) (hg:Bl P T=some g) (hx:O7 row off n g=some x) (hno:Ko x=true) :
  ∃ v,(Instr.loadAt T (.pointer (some ⟨b,o+off,none⟩))).run P w = .ok v w/\AVR w St st β x v:=by
 unfold O7 at hx
 cases g with
 | true =>
  simp only[aO] at hx
  split at hx
  .rename_i hle
   simp only[ai] at hx
   subst hx
   obtain⟨us,h1,h2⟩:=KI (R:=RdC w St st β) (w:=w) (b:=b) ((row.drop off).take n) (o+off) (fun j c hj=>by
    rw[aaC] at hj;split at hj
    .rw[aaV] at hj;obtain⟨u,hu,hr⟩:=hcells _ c hj;rw[show o+(off+j)=o+off+j from AOl] at hu;refine⟨u,hu,hr.toC ?_⟩;simp only[Ko,aC] at hno;have hcm:=hno c (aT (i:=j) AOo);grind
    .cases hj)
   have hlen:us.length=n:=by rw[h1]; simp; omega
   have hl:(loadCells ⟨b,o+off,none⟩ us.length).run P w = .ok us.toArray w:=
    run_loadCells_list (P:=P) w ⟨b,o+off,none⟩ us (fun j v hv=>by
     rw[addr_add]
     have hj:j<((row.drop off).take n).length:=by
      rw[<- h1];rcases bh j us.length with h' | h'
      .exact h'
      .grind
     obtain⟨u,hu1,hu2,_⟩:=h2 j _ (am hj);grind)
   refine⟨.agg us.toArray, ?_, ?_⟩
   .rw[hlen] at hl
    simp[Instr.loadAt,Instr.sureAddr,loadVar,Vb hg,IM hs,hl]
   .simp only[AVR]
    grind
  .cases hx
 | false =>
  simp only[ax,aL] at hx
  split at hx
  .rename_i c hc
   simp only[ai] at hx
   subst hx
   obtain⟨u,hu1,hu2⟩:=hcells off c hc
   have hu3:=hu2.toC (by simpa [Ko] using hno)
   refine⟨u, ?_,by simpa only[AVR] using hu3⟩
   simp[Instr.loadAt,Instr.sureAddr,loadVar,Vb hg,hu1]
  .cases hx
theorem AFH {row:List Cl} {us:List Value} {off n:Nat} {g:Bool} {T:TypeId} {x:AV} (hl:us.length=row.length) (hcells:∀ (j:Nat) (c:Cl),row[j]?=some c->∃ u,us[j]?=some u/\RdC w St st β c u)
  (hs:Af P T=some n) (hg:Bl P T=some g) (hx:O7 row off n g=some x) :
  ∃ v,(part T us.toArray off).run P w = .ok v w/\AVR w St st β x v:=by
 unfold O7 at hx
 cases g with
 | true =>
  simp only[aO] at hx
  split at hx
  .rename_i hle
   simp only[ai] at hx
   subst hx
   refine⟨.agg (us.toArray.extract off (off+n)),by simp[part,Vb hg,IM hs], ?_⟩
   simp only[AVR]
   grind
  .cases hx
 | false =>
  simp only[ax,aL] at hx
  split at hx
  .rename_i c hc
   simp only[ai] at hx
   subst hx
   obtain⟨u,hu1,hu2⟩:=hcells off c hc
   refine⟨u, ?_,by simpa only[AVR] using hu2⟩
   simp[part,Vb hg,hu1]
  .cases hx
theorem ny:∀ {xs:List AV} {us:List Value},AVRs w St st β xs us->∀ (j:Nat) (x:AV),xs[j]?=some x->∃ u,us[j]?=some u/\AVR w St st β x u
 | [],_,_,j,x,h=>APN
 | x0::xs,us,h,j,x,hj=>by
  simp only[AVRs] at h;obtain⟨y,ys,rfl,h1,h2⟩:=h;cases j with
  | zero=>simp at hj; subst hj; exact⟨y,rfl,h1⟩
  | succ j=>simpa using ny h2 j x (by simpa using hj)
theorem nz {x:AV} {u:Value} {k:Nat} (h:AVR w St st β x u) (hk:E8 x=some k):∃ kd,u = .int kd (k:Int):=by
 unfold E8 at hk;split at hk
 .rename_i kd n;split at hk
  .rename_i hn;simp only[ai] at hk;simp only[AVR,RdC,RdD] at h;grind
  .cases hk
 .cases hk
theorem O8 {v u:Value} (h:AVR w St st β (.c (.v v)) u):u=v/\Qv v=true:=by simp only[AVR,RdC,RdD] at h;omega
theorem XY {v:Value} (h:Qv v=true):AVR w St st β (.c (.v v)) v:=by simp only[AVR,RdC,RdD];grind
end
theorem AFI (c:UInt8):Qv (.int .u8 (c.toNat:Int))=true:=by have:=c.toNat_lt;exact AOE
theorem ADU {n:Nat} (h:n<=maxLen):Qv (.int .i64 (n:Int))=true:=by simp only[maxLen] at h;exact AOE
theorem uJ {w0:Bs} {St0 St:Nat->Nat->Prop} {β:Nat->Option Nat} {s:MS} {a:Act} {w:World} (_:Core w0 St0 St β s a w) {d:Cl} {u:Value} {xs:List (List Cl)} (hd:RdC w St s.st β d u) (hx:UG s.st d=some xs) :
  ∃ ad cap,u = .slice ad xs.length cap/\xs.length<=cap/\cap<=maxLen:=by
 unfold UG at hx
 split at hx
 .simp only[ai] at hx
  subst hx
  simp only[RdC,RdD] at hd
  grind
 .cases hx
 .simp only[ai] at hx
  subst hx
  simp only[RdC,RdD] at hd
  grind
 .rename_i l
  cases ho:DF s.st l with
  | none=>grind
  | some ob =>
   simp only[ho,bi,ai] at hx
   subst hx
   obtain⟨hl,hlive⟩:=Bo ho
   simp only[RdC,BQ,hl] at hd
   grind
 .cases hx
theorem AAU {w0:Bs} {St0 St:Nat->Nat->Prop} {β:Nat->Option Nat} {s:MS} {a:Act} {w:World} (h:Core w0 St0 St β s a w) {l i off:Nat} {u:Value} {ob:Ob} (hu:AVR w St s.st β (.lp l i off) u) (ho:DF s.st l=some ob) :
  ∃ b cs,β l=some b/\u = .pointer (some ⟨b,i*ob.sz+off,none⟩)/\w.heap[b]?=some (.cells cs ob.ty (0,0))/\(∀ x∈ob.xs,x.length=ob.sz) /\
   (∀ (k:Nat) (c:Cl),ob.xs.flatten[k]?=some c->∃ u,cs[k]?=some u/\RdB w St s.st β c u):=by
 obtain⟨hl,hlive⟩:=Bo ho
 simp only[AVR,hl] at hu
 obtain⟨b,hb,rfl⟩:=hu hlive
 obtain⟨_,_,cs,g1,g2,g3⟩:=h.obs l ob b hl hlive hb
 grind
theorem ABm {w:World} {St:Nat->Nat->Prop} {st:List Ob} {β:Nat->Option Nat} {ob:Ob} {b:Nat} {cs:Array Value} (g1:w.heap[b]?=some (.cells cs ob.ty (0,0))) (g2:∀ x∈ob.xs,x.length=ob.sz)
  (g3:∀ (k:Nat) (c:Cl),ob.xs.flatten[k]?=some c->∃ u,cs[k]?=some u/\RdB w St st β c u) {i:Nat} {row:List Cl} (hi:ob.xs[i]?=some row) :
  ∀ (j:Nat) (c:Cl),row[j]?=some c->∃ u,w.cell? ⟨b,i*ob.sz+j,none⟩=some u/\RdB w St st β c u:=fun j c hj=>by
 obtain⟨u,hu,hc⟩:=g3 _ c (F6 g2 i j row c hi hj)
 exact⟨u,by simp[World.cell?,g1,hu],hc⟩
theorem RdD.toC {w:World} {St:Nat->Nat->Prop} {st:List Ob} {β:Nat->Option Nat} {c:Cl} {u:Value} (h:RdD w St c u):RdC w St st β c u:=by
 cases c with
 | ref l=>simp[RdD] at h
 | v x=>exact h
 | sl xs=>exact h
 | ow ty sz xs=>simp[RdD] at h
theorem Uk {w0:Bs} {St0 St:Nat->Nat->Prop} {β:Nat->Option Nat} {s:MS} {a:Act} {w:World} (h:Core w0 St0 St β s a w) {d:Cl} {u:Value} {xs:List (List Cl)} (hd:RdC w St s.st β d u) (hx:UG s.st d=some xs) :
  ∃ ad cap,u = .slice ad xs.length cap/\(∃ sz,∀ x∈xs,x.length=sz)/\(xs = []\/∃ b off,ad=some ⟨b,off,none⟩/\∀ (k:Nat) (c:Cl),xs.flatten[k]?=some c->∃ v,w.cell? ⟨b,off+k,none⟩=some v/\RdB w St s.st β c v):=by
 unfold UG at hx
 split at hx
 .simp only[ai] at hx
  subst hx
  simp only[RdC,RdD] at hd
  simp_all
 .cases hx
 .simp only[ai] at hx
  subst hx
  simp only[RdC,RdD] at hd
  obtain⟨ad,cap,h1,h2,h3,⟨sz,h4⟩,h5⟩:=hd
  refine⟨ad,cap,h1,⟨sz,h4⟩, ?_⟩
  rcases h5 with rfl | ⟨b,off,rfl,h6⟩
  .grind
  .refine .inr ⟨b,off,rfl, ?_⟩
   have key:∀ (xs:List (List Cl)) (off:Nat),RdE w St xs b off->∀ (k:Nat) (c:Cl),xs.flatten[k]?=some c->∃ v,w.cell? ⟨b,off+k,none⟩=some v/\RdB w St s.st β c v:=by
    intro xs;induction xs with
    | nil=>grind
    | cons x xs ih =>
     intro off hr k c hk
     simp only[RdE] at hr
     simp only[XV] at hk
     rcases bh k x.length with h' | h'
     .rw[aY h'] at hk
      obtain⟨_,v,hv,hc⟩:=hr.1.at k c hk
      exact⟨v,hv,hc.toC.toB⟩
     grind
   grind
 .rename_i l
  cases ho:DF s.st l with
  | none=>grind
  | some ob =>
   simp only[ho,bi,ai] at hx
   subst hx
   obtain⟨hl,hlive⟩:=Bo ho
   simp only[RdC,BQ,hl] at hd
   have h2:=hd.2 hlive
   split at h2
   .simp_all
   .rename_i b hb
    obtain⟨cap,cs,h1,h3,h4,_⟩:=h2
    obtain⟨_,_,cs',g1,g2,g3⟩:=h.obs l ob b hl hlive hb
    refine⟨_,cap,h1,⟨ob.sz,g2⟩,.inr ⟨b,0,rfl,fun k c hk=>?_⟩⟩
    obtain⟨v,hv,hc⟩:=g3 k c hk
    exact⟨v,by simp[World.cell?,g1,hv],hc⟩
 .cases hx
theorem jw:∀ {xs:List (List Cl)} {ns:List Int},RY xs=some ns->ns.length=xs.length/\∀ (k:Nat) (n:Int),ns[k]?=some n->xs.flatten[k]?=some (.v (.int .u8 n))
 | [],ns,h=>by simp only[RY,ai] at h;subst h;exact⟨rfl,fun k n hk=>APZ⟩
 | x::r,ns,h=>by
  unfold RY at h;split at h
  .rename_i he; cases he
  .rename_i n r' he;cases he;split at h
   .rename_i ns' h';simp only[ai] at h;subst h;obtain⟨q1,q2⟩:=jw h';refine⟨by simp[q1],fun k m hk=>?_⟩;cases k with
    | zero=>simp only[ab,ai] at hk; subst hk; rfl
    | succ k=>simpa using q2 k m APQ
   .cases h
  .cases h
