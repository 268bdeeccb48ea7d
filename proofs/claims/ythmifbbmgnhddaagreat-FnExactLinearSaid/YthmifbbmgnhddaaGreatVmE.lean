/- A part. -/
import Derived.WalkKit
import Derived.WalkLawsBesides
import Derived.OpenShut
import Derived.Laws.StructEq
import Derived.ChangeKeysEq
import Derived.Laws.BytesArg
set_option linter.unusedSimpArgs false
set_option linter.unusedVariables false
namespace Go.Vm
section
variable {p q r:Prop}
theorem AE5(h:p:=by
 rintro⟨k,n⟩ ⟨hk,hb,hs2,hn⟩
 dsimp only at hk hb hs2 hn
 simp only[go_sem,ae]
 refine AAP (fun h2=>?_) (fun h2=>?_)
 ·have hk':k<p.l.length:=by simpa using h2
  rw[MF cs d p.l hk'] at hb
  rw[MC d p.l hk'] at hs2
  simp only[go_sem,ae,AA _ hk',hk',hdw]
  try refine AAO ?_
  try simp only[go_sem,ae,AA _ hk',hk',hdw]
  first | refine CY (hx p.l[k] (aj hk')) ?_ | refine CW (hx p.l[k] (aj hk')) fun _=>?_
  rcases hv:JZ cs d p.l[k] with _ | _
  ·have e1:Dz cs d p.l[k] = -1:=by simp[Dz,hv]
   rw[hv,ag] at hb
   have e2:Dz cs (d+1) p = -1:=by simp[Dz,JZ,← hb]
   have e3:decide ((-1:Int)<0)=true:=by decide
   rw[e2]
   simp only[go_sem,ae,e1,e3]
  ·have e1:Dz cs d p.l[k]=(CJ d p.l[k]:Int):=by simp[Dz,hv]
   have e4:=Na d _ hv
   have e5:4 ^ d≤4 ^ 3:=aaH (by omega) (by omega)
   have e3:decide ((CJ d p.l[k]:Int)<0)=false:=by simp
   rw[hv,ah] at hb
   have hw1:IntKind.i64.wrap ((n:Int)+(CJ d p.l[k]:Int))=((n+CJ d p.l[k]:Nat):Int):=by rw[wrap_i64 (by omega) (by omega)]; omega
   simp only[go_sem,ae,e1,e3,hw1,wrap_i64 (n:=(k:Int)+1) (by omega) (by omega)]
   exact⟨(k+1,n+CJ d p.l[k]),⟨rfl,rfl⟩,rfl,⟨by omega,hb,by simp only; omega,by simp only; omega⟩,by simp only; omega⟩
 ·have hk':k=p.l.length:=by simp at h2; omega
  subst hk'
  rw[aJ] at hb hs2
  have e1:Dz cs (d+1) p=n:=by
   have e2:JZ cs (d+1) p=true:=by rw[JZ,hs,← hb]; rfl
   have e3:n=CJ (d+1) p:=by rw[CJ]; simpa using hs2
   rw[Dz,bG e2,e3]
  rw[e1]
  simp only[go_sem]):p:=h
theorem AE6(h:p:=by
 have hlen:xs.length≤9223372036854775807:=by have:=hw.1.1; simpa [Go.maxLen] using this
 simp only[go_sem,ae,ax,aB]
 refine AAa 0 [0,1,5] (A:=Nat) (fun k=>⟨27,[(0,.c (.sl (xs.map c))),(1,.c (.sl (xs.map c))),(5,.c (.v (.int .i64 k)))],[]⟩) (fun k=>k≤xs.length) (fun k=>xs.length-k) 0 ⟨⟨rfl,rfl⟩,rfl,au _⟩ ?_
 intro k hk
 simp only[go_sem,ae]
 refine AAP (fun h=>?_) (fun h=>?_)
 ·have hk':k<xs.length:=by simpa using h
  simp only[go_sem]
  refine AAO ?_
  simp only[go_sem,ae,ax,aB,AA _ hk',hk',wrap_i64 (n:=(k:Int)+1) (by omega) (by omega),(hc _).1,(hc _).2.1,(hc _).2.2]
  refine CY (hx xs[k] (aj hk')) ?_
  simp only[go_sem,AA _ hk',wrap_i64 (n:=(k:Int)+1) (by omega) (by omega)]
  exact⟨k+1,⟨rfl,rfl⟩,rfl,by omega,by first | omega | (simp only; omega)⟩
 ·simp only[go_sem]):p:=h
theorem AE7(h:p:=by
 have hlen:xs.length≤9223372036854775807:=by have:=hw.1.1; simpa [Go.maxLen] using this
 have hl2:l≤9223372036854775807:=NP hw.2.1
 simp only[go_sem,ae,wrap_i64 (n:=l-xs.length) (by omega) (by omega)]
 refine AAP (fun h=>by simp only[go_sem,gX h]) (fun h=>?_)
 simp only[go_sem]
 refine AAa 0 [0,1,5] (WU 27 c xs) (szP sz xs (DD sz xs l)) (fun x=>xs.length-x.1) (0,l-xs.length) ⟨⟨rfl,rfl⟩,rfl,szP.start (Rw h)⟩ ?_
 rintro⟨k,m⟩ hP
 simp only[go_sem,WU,ae]
 refine AAP (fun h=>?_) (fun h=>?_)
 ·have hk:=ltN h
  simp only[go_sem,AA _ hk,(hc _).1,(hc _).2.1,(hc _).2.2]
  refine CW (hx xs[k] (aj hk) m hP.2.1) fun _=>?_
  simp only[go_sem]
  refine AAP (fun h=>by simp only[go_sem,hP.neg hk h]) (fun h=>?_)
  simp only[go_sem,wrap_i64 (n:=(k:Int)+1) (by omega) (by omega)]
  exact⟨(k+1,sz xs[k] m),⟨rfl,rfl⟩,rfl,hP.step hk h,by simp only; omega⟩
 ·simp only[go_sem,hP.fin h]):p:=h
theorem AE8(h:p:=by
 rcases k3:(d.op==3) with _ | _
 rotate_left
 ·simp only[go_sem,k1,k2,k3]
  refine CW (F5 t.cols d.q ht.1 hd.2.1) fun _=>?_
  rcases h7:Ah t.cols d.q with _ | _
  ·rcases c1:(d.code==1) with _ | _
   ·rcases c0:(d.code==0) with _ | _
    ·rcases c4:(d.code==4) with _ | _
     ·have hok:Cm t d=false:=by simp only[Cm,c0,c4,c1]; rfl
      have hn:AY t d=none:=by simp only[AY,hdone,k1,k2,k3,hok]; rfl
      rw[Ar hn,hn]
      simp only[go_sem,k1,k2,k3,c1,c0,c4,h7,aV,aQ,AX,AO]
      try simp[OwnL,AC]
     ·have hok:Cm t d = !Ah t.cols d.q:=by simp only[Cm,c0,c4]; rfl
      rw[h7] at hok
      have hn:AY t d=some (t):=by simp only[AY,hdone,k1,k2,k3,hok,aH]; rfl
      rw[Bo hn,hn]
      simp only[go_sem,k1,k2,k3,c1,c0,c4,h7,aH,aV,aQ,AX,AO]
      try simp[OwnL,AC]
    ·have hok:Cm t d=Ah t.cols d.q:=by simp only[Cm,c0]; rfl
     rw[h7] at hok
     have hn:AY t d=none:=by simp only[AY,hdone,k1,k2,k3,hok]; rfl
     rw[Ar hn,hn]
     simp only[go_sem,k1,k2,k3,c1,c0,h7,aV,aQ,AX,AO]
     try simp[OwnL,AC]
   ·have c0:(d.code==0)=false:=by simp at c1 ⊢; omega
    have c4:(d.code==4)=false:=by simp at c1 ⊢; omega
    have hok:Cm t d=(Ah t.cols d.q&&GN d.res (answer d.q t.l)):=by simp only[Cm,c0,c4,c1]; rfl
    rw[h7] at hok
    have hn:AY t d=none:=by simp only[AY,hdone,k1,k2,k3,hok,ag]; rfl
    rw[Ar hn,hn]
    simp only[go_sem,k1,k2,k3,c1,h7,aV,aQ,AX,AO]
    refine AAO ?_
    simp only[go_sem,k1,k2,k3,c1,h7,aV,aQ,AX,AO]
    try simp[OwnL,AC]
  ·rcases c1:(d.code==1) with _ | _
   ·rcases c0:(d.code==0) with _ | _
    ·rcases c4:(d.code==4) with _ | _
     ·have hok:Cm t d=false:=by simp only[Cm,c0,c4,c1]; rfl
      have hn:AY t d=none:=by simp only[AY,hdone,k1,k2,k3,hok]; rfl
      rw[Ar hn,hn]
      simp only[go_sem,k1,k2,k3,c1,c0,c4,h7,aV,aQ,AX,AO]
      try simp[OwnL,AC]
     ·have hok:Cm t d = !Ah t.cols d.q:=by simp only[Cm,c0,c4]; rfl
      rw[h7] at hok
      have hn:AY t d=none:=by simp only[AY,hdone,k1,k2,k3,hok,aO]; rfl
      rw[Ar hn,hn]
      simp only[go_sem,k1,k2,k3,c1,c0,c4,h7,aO,aV,aQ,AX,AO]
      try simp[OwnL,AC]
    ·have hok:Cm t d=Ah t.cols d.q:=by simp only[Cm,c0]; rfl
     rw[h7] at hok
     have hn:AY t d=some (t):=by simp only[AY,hdone,k1,k2,k3,hok]; rfl
     rw[Bo hn,hn]
     simp only[go_sem,k1,k2,k3,c1,c0,h7,aV,aQ,AX,AO]
     try simp[OwnL,AC]
   ·have c0:(d.code==0)=false:=by simp at c1 ⊢; omega
    have c4:(d.code==4)=false:=by simp at c1 ⊢; omega
    have hok:Cm t d=(Ah t.cols d.q&&GN d.res (answer d.q t.l)):=by simp only[Cm,c0,c4,c1]; rfl
    rw[h7] at hok
    simp only[go_sem,k1,k2,k3,c1,h7]
    refine AAO ?_
    simp only[go_sem,k1,k2,k3,c1,h7]
    refine CY (VJ (V7 d.q t.l hd.2.1 ht.2.big)) ?_
    simp only[go_sem,k1,k2,k3,c1,h7]
    refine CY (Uw d.res (answer d.q t.l) hd.2.2.1 (VK d.q t.l hd.2.1.2 ht.2)) ?_
    rw[ah] at hok
    rcases h8:GN d.res (answer d.q t.l) with _ | _
    ·rw[h8] at hok
     have hn:AY t d=none:=by simp only[AY,hdone,k1,k2,k3,hok]; rfl
     rw[Ar hn,hn]
     simp only[go_sem,k1,k2,k3,c1,h7,h8,aV,aQ,AX,AO]
     try simp[OwnL,AC]
    ·rw[h8] at hok
     have hn:AY t d=some t:=by simp only[AY,hdone,k1,k2,k3,hok]; rfl
     rw[Bo hn,hn]
     simp only[go_sem,k1,k2,k3,c1,h7,h8,aV,aQ,AX,AO]
     try simp[OwnL,AC]
 have k4:(d.op==4)=true:=by
  simp only[Ef] at h2
  rcases h8:Ad d.op 1 4 with _ | _
  ·rw[h8] at h2; simp at h2
  ·simp[Ad] at h8 k1 k2 k3 ⊢; omega
 have hn:AY t d=some (t):=by simp only[AY,hdone,k1,k2,k3]; rfl
 rw[Bo hn,hn]
 simp only[go_sem,k1,k2,k3,k4,aV,aQ,AX,AO]
 try simp[OwnL,AC]):p:=h
theorem AE9(h:p:=by
 have hll:l.length≤1048576:=by have:=(L9 hb hdd).1; omega
 refine AAN _ hr fun _=>?_
 simp only[go_sem]
 refine AAN _ (Ey l hll) fun _=>?_
 rcases h5:typeOf l != ty with _ | _
 rotate_left
 ·have h5':¬ (typeOf l=ty∧A_ l=b):=fun q=>by simp at h5; exact h5 q.1
  simp only[go_sem,h5,bu h5',Dt]
 have h5':typeOf l=ty:=by simpa using h5
 simp only[go_sem,h5]
 refine AAN _ (N7 l hll) fun _=>?_
 simp only[go_sem]
 refine AAN _ (JI (A_ l) b) fun _=>?_
 rcases h6:decide (A_ l=b) with _ | _
 ·have h7:¬ (typeOf l=ty∧A_ l=b):=fun q=>by simp at h6; exact h6 q.2
  simp only[go_sem,h5,h6,bu h7,Dt]
 ·have h7:typeOf l=ty∧A_ l=b:=⟨h5',by simpa using h6⟩
  simp only[go_sem,h5,h6,bG h7,Dt]):p:=h
theorem AE_(h:p:=by
 rw[hsz] at hfit
 generalize hcs':(cs.toList.take (ob.xs.length*n)++news++cs.toList.drop (ob.xs.length*n+news.length)).toArray=C' at hr
 have hC's:C'.size=cs.size:=by
  rw[← hcs']
  simp only[abx,aN,aaP,holdl]
  omega
 have hC'at:∀ k,k<ob.xs.length*n+news.length→C'[k]?=(cs.toList.take (ob.xs.length*n)++news)[k]?:=fun k hk=>by
  grind
 have hturn:=k1.turn (b:=b0) p1 (yV h hl hlive hβ) hfree c3 (cs':=C') (fun o hbo=>by
  grind) hC's
 have hcell:∀ b' o,St b' o→(w.setRow b0 C').cell? ⟨b',o,none⟩=w.cell? ⟨b',o,none⟩:=fun b' o hbo=>by
  by_cases e2:b'=b0
  ·subst e2
   have ho:=(hkeep o hbo).2
   rw[hosz] at ho
   rw[World.cell?,World.cell?,setRow_heap w b' cs C' ob.ty (0,0) c3,c3]
   grind
  grind [cell_of_block,setRow_other]
 have hrr:∀ l' u,BZ w (Ak s.st l) β l' u→BZ (w.setRow b0 C') (Ak s.st l) β l' u:=by
  intro l' u hu
  unfold BZ at hu ⊢
  cases hq:(Ak s.st l)[l']? with
  | none=>grind
  | some o2 =>
   grind [setRow_other]
 obtain⟨a1,a2,a3⟩:=hturn.addObB ⟨e,n,ob.xs++ys,ob.wr,true⟩ (some b0) (by simp) (fun b' hb=>by
  simp only[ai] at hb
  subst hb
  refine⟨p1,by simp_all,hfree,fun o hbo=>?_,C',by grind [setRow_heap],hlall,fun k c hk=>?_⟩
  ·grind
  ·obtain⟨u,u1,u2⟩:=hboth k c hk
   have hk':k<ob.xs.length*n+news.length:=by
    have:=(aP.1 u1).1
    simpa only[aN,holdl] using this
   exact⟨u,by grind,RdB.mono (fun _ _ h=>h) hcell hrr _ _ u2⟩) (by
  refine XL h hl hlive hβ (ys:=ys) rfl hysno (fun x hx=>?_) (by simp_all) hcell (fun l2 o2 b2 h1 h2 h3 h4=>?_) (fun k hk=>?_)
  ·have hxb:x≠b0:=fun e2=>hx.2.2.2.2 l ob hl hlive (by rw[hβ,e2])
   grind [setRow_other]
  ·exact setRow_other w b0 b2 C' fun e2=>h4 (h.inj l l2 ob o2 b0 hl h1 hlive h2 hβ (by rw[h3,e2]))
  ·have hk':k<ob.xs.length*n:=by rw[← hxfl]; exact hk
   rw[World.cell?,World.cell?,setRow_heap w b0 cs C' ob.ty (0,0) c3,c3]
   grind)
 refine⟨_,_,_,St,_,hexec _ _ hr,.inl rfl,a1, ?_⟩
 rw[← hkl]
 exact Oh (b:=some b0) rfl (by simp) fun _=>⟨cap,C',by simp,by grind,c2,by grind [setRow_heap],by grind⟩):p:=h
theorem AFy(h:p:=by
 refine AAS _ (AQ p.col 0 _) ?_
 rcases c1:Ad p.col 0 ((cs.length:Int)-1) with _ | _
 ·simp only[go_sem,ae,k1,k2,c1,Ja,ag]
 obtain⟨m,hm,hml⟩:=hin c1
 have hgm:(cs[p.col.toNat]?).getD 0=cs[m]:=by rw[hm]; simp[hml]
 have c1':=c1
 rw[hm] at c1'
 simp only[go_sem,ae,k1,k2,c1]
 refine CY (I8 p.v) ?_
 rcases c2:BO p.v with _ | _
 ·simp only[go_sem,ae,k1,k2,c1,c2,Ja,ag,aK]
 rcases c3:(p.v.ty==cs[m]) with _ | _
 ·simp only[go_sem,ae,k1,k2,c1,c2,c3,hm,AA _ hml,hml,Ja,ag,aK]
  try simp[Ja,hgm,c1,c2,c3,hm,hml]
 simp only[go_sem,ae,k1,k2,c1,c2,c3,hm,AA _ hml,hml]
 refine AAS _ (AQ p.op 1 6) ?_
 rcases c4:Ad p.op 1 6 with _ | _
 ·simp only[go_sem,ae,k1,k2,c1,c2,c3,c4,hm,AA _ hml,hml,Ja,ag,aK]
  try simp[Ja,hgm,c1,c2,c3,c4,hm,hml]
 ·simp only[go_sem,ae,k1,k2,c1,c2,c3,c4,hm,AA _ hml,hml]
  try simp[Ja,hgm,c1,c1',c2,c3,c4,hm,hml]):p:=h
theorem AFz(h:p:=by
 refine AAS _ (AL p.col 0 _) ?_
 rcases c1:Ad p.col 0 ((cs.length:Int)-1) with _ | _
 ·simp only[go_sem,ae,h1,hl4,hwl,k1,k2,c1]
 obtain⟨m,hm,hml⟩:=hin c1
 have hgm:(cs[p.col.toNat]?).getD 0=cs[m]:=by rw[hm]; simp[hml]
 simp only[go_sem,ae,h1,hl4,hwl,k1,k2,c1]
 refine AAS _ (AL p.op 1 6) ?_
 rcases c4:Ad p.op 1 6 with _ | _
 ·simp only[go_sem,ae,h1,hl4,hwl,k1,k2,c1,c4]
 simp only[go_sem,ae,h1,hl4,hwl,k1,k2,c1,c4]
 refine CY (Dv p.v) ?_
 rcases c2:BO p.v with _ | _
 ·simp only[go_sem,ae,h1,hl4,hwl,k1,k2,c1,c2,c4]
 rcases c3:(p.v.ty==cs[m]) with _ | _
 ·simp only[go_sem,ae,h1,hl4,hwl,k1,k2,c1,c2,c3,c4,hm,AA _ hml,hml]
 have hl0:((p.l.length:Int)==0)=false:=by
  have:Ja cs p=true:=by simp only[Ja,hgm,c1,c2,c3,c4,aF]
  simpa [this] using hs1
 simp only[go_sem,ae,h1,hl4,hwl,k1,k2,c1,c2,c3,c4,hm,AA _ hml,hml,hl0]):p:=h
theorem AF0(h:p:=by
 simp only[go_sem]
 refine AAR ?_
 simp only[go_sem,AA _ hi',RV,IY,aI,au,vH,hkle,hkm,g1,g2,g3,← cZ,← cO,bJ,aaP,aaR,aG,htk,bP,wrap_i64 (n:=(i:Int)+1) (by omega) (by omega)]
 exact⟨i+1,Head.trans (OH 5 rfl (NT _ _ _)) (AAQ [(5,false)] ⟨rfl,rfl,NT _ _ _,trivial⟩ (by rw[hds,Vz]; rfl)),hi',by omega⟩):p:=h
theorem AF1(h:p:=by
 refine AAN _ (DC [] (by simp)) fun _=>?_
 rcases h5:typeOf [] != ty with _ | _
 rotate_left
 ·rw[bu (by simpa using h5)]
  simp only[go_sem,h5,Dt]
 rw[bG (by simpa using h5)]
 simp only[go_sem,h5]
 refine AAN _ (Ez [] (by simp)) fun _=>?_
 simp only[go_sem]
 refine AAN _ (CG b k [] (A_ [])) fun _=>?_
 rcases h6:again b k [] (A_ []) with _ | l'<;>simp only[go_sem,Dt]):p:=h
theorem AF2(h:p:=by
 have hll:l.length≤1048576:=by have:=(L9 hb hdd).1; omega
 refine AAN _ hr fun _=>?_
 simp only[go_sem,ak]
 refine AAN _ (DC l hll) fun _=>?_
 rcases h5:typeOf l != ty with _ | _
 rotate_left
 ·rw[bu (by simpa using h5)]
  simp only[go_sem,h5,Dt]
 rw[bG (by simpa using h5)]
 simp only[go_sem,h5]
 refine AAN _ (Ez l hll) fun _=>?_
 simp only[go_sem]
 refine AAN _ (CG b k l (A_ l)) fun _=>?_
 rcases h6:again b k l (A_ l) with _ | l'<;>simp only[go_sem,Dt]):p:=h
theorem AF3(h:p:=by
 rcases hv:rowOk cs l[k] with _ | _
 ·have hno:¬ PW cs l k:=by intro hg; have:=(hg hk').1.1; rw[hv] at this; cases this
  simp only[go_sem,hv,QO hno]
 rcases hid:decide (l[k].id>1000000000) with _ | _
 rotate_left
 ·have hno:¬ PW cs l k:=by intro hg; have:=(hg hk').2; simp at hid; omega
  simp only[go_sem,hv,hid,AA _ hk',hk',QO hno]
 have hid':l[k].id≤1000000000:=by simp at hid; omega
 rcases abh k with hz | hz
 ·have hp:decide ((k:Int)>0)=false:=by simp; omega
  simp only[go_sem,hv,hid,hp,AA _ hk',hk',wrap_i64 (n:=(k:Int)+1) (by omega) (by omega)]
  exact⟨k+1,⟨rfl,rfl⟩,rfl,⟨by omega,hnext fun _=>⟨⟨hv,fun h0=>by omega⟩,hid'⟩⟩,by omega⟩
 ·have hp:decide ((k:Int)>0)=true:=by simp; omega
  have hk1:k-1<l.length:=by omega
  have hw1:IntKind.i64.wrap ((k:Int)-1)=((k-1:Nat):Int):=by rw[wrap_i64 (by omega) (by omega)]; omega
  rcases hq:decide (l[k-1].id≥l[k].id) with _ | _
  ·simp only[go_sem,hv,hid,hp,hw1,AA _ hk',AA _ hk1,hk',hk1,hq,wrap_i64 (n:=(k:Int)+1) (by omega) (by omega)]
   exact⟨k+1,⟨rfl,rfl⟩,rfl,⟨by omega,hnext fun _=>⟨⟨hv,fun _=>by simp at hq; omega⟩,hid'⟩⟩,by omega⟩
  ·have hno:¬ PW cs l k:=by intro hg; have:=(hg hk').1.2 hz; simp at hq; omega
   simp only[go_sem,hv,hid,hp,hw1,AA _ hk',AA _ hk1,hk',hk1,hq,QO hno]):p:=h
theorem AF4(h:p:=by
 have hge:=grownCap_ge w (ob.xs.length+ys.length) cap e
 obtain⟨β',g1,g2⟩:=XM k1 e n (ob.xs++ys) ob.wr (cs.toList.take (ob.xs.length*n)++news) (Builtin.zeroCells z'.cells (grownCap w (ob.xs.length+ys.length) cap e-(ob.xs.length+ys.length))) (grownCap w (ob.xs.length+ys.length) cap e) hlall (by
  grind) hboth (by grind) (grownCap_le_maxLen w _ cap e (by simp only[maxLen]; omega)) (by rw[size_zeroCells,hzs]; simp) (by
  have hbd:=F7 w (.cells ((cs.toList.take (ob.xs.length*n)++news).toArray++Builtin.zeroCells z'.cells (grownCap w (ob.xs.length+ys.length) cap e-(ob.xs.length+ys.length))) e)
  refine XL h hl hlive hβ (ys:=ys) rfl hysno (fun x hx=>⟨fun e2=>by have:=hx.2.2.1; omega,hbd.block x hx.2.2.1⟩) hbd.size (fun b o hbo=>cell_of_block (hbd.block b (h.stIn b o hbo))) (fun l2 o2 b2 h1 h2 h3 _=>hbd.block b2 (h.obs l2 o2 b2 h1 h2 h3).2.1) (fun k hk=>?_)
  have hk':k<ob.xs.length*n:=by rw[← hxfl]; exact hk
  rw[World.cell?,World.cell?,Eu w _,c3]
  grind)
 simp only[hkl,aN] at g2
 have earr:(cs.toList.take (ob.xs.length*n)++news).toArray=(cs.toList.take (ob.xs.length*n)).toArray++news.toArray:=by simp
 rw[earr] at g1 g2
 exact⟨_,_,_,St,β',hexec _ _ hr,.inl rfl,g1,g2⟩):p:=h
theorem AF5(h:p:=by
 have hlen:xs.length≤9223372036854775807:=by have:=hw.1.1; simpa [Go.maxLen] using this
 have hl2:l≤9223372036854775807:=NP hw.2.1
 simp only[go_sem,ae,wrap_i64 (n:=l-xs.length) (by omega) (by omega)]
 refine AAP (fun h=>?_) (fun h=>?_)
 ·have h':l-xs.length<0:=by simpa using h
  simp only[go_sem]
  simp[FY,h']
 ·have h':¬ l-xs.length<0:=by simpa using h
  simp only[go_sem]
  simp[FY,h']):p:=h
theorem AF6(h:p:=by
 rcases kq:noQ t.q with _ | _
 ·simp only[go_sem,bF,aT,aG,kpc,kh,kr,kid,kq,B_,ag,ah]
 rcases kts:t.ts==0 with _ | _
 ·simp only[go_sem,bF,aT,aG,kpc,kh,kr,kid,kq,kts,B_,ag,ah]
 rcases kver:t.ver==0 with _ | _
 ·simp only[go_sem,bF,aT,aG,kpc,kh,kr,kid,kq,kts,kver,B_,ag,ah]
 rcases kl:((t.l.length:Int)==0) with _ | _
 ·simp only[go_sem,bF,aT,aG,kpc,kh,kr,kid,kq,kts,kver,kl,B_,ag,ah]
 rcases ki:t.i==0 with _ | _
 ·simp only[go_sem,bF,aT,aG,kpc,kh,kr,kid,kq,kts,kver,kl,ki,B_,ag,ah]
 rcases kj:t.j==0 with _ | _
 ·simp only[go_sem,bF,aT,aG,kpc,kh,kr,kid,kq,kts,kver,kl,ki,kj,B_,ag,ah]
 rcases ks:t.s==0 with _ | _
 ·simp only[go_sem,bF,aT,aG,kpc,kh,kr,kid,kq,kts,kver,kl,ki,kj,ks,B_,ag,ah]
 rcases kat:t.at0==0 with _ | _
 ·simp only[go_sem,bF,aT,aG,kpc,kh,kr,kid,kq,kts,kver,kl,ki,kj,ks,kat,B_,ag,ah]
 rcases kown:t.own==0 with _ | _
 ·simp only[go_sem,bF,aT,aG,kpc,kh,kr,kid,kq,kts,kver,kl,ki,kj,ks,kat,kown,B_,ag,ah]
 rcases kwon:t.won with _ | _
 rotate_left
 ·simp only[go_sem,bF,aT,aG,kpc,kh,kr,kid,kq,kts,kver,kl,ki,kj,ks,kat,kown,kwon,B_,ag,ah,aO]
 simp only[go_sem,bF,aT,aG,kpc,kh,kr,kid,kq,kts,kver,kl,ki,kj,ks,kat,kown,kwon,B_,ah,aH]):p:=h
theorem AF7(h:p:=by
 have hputT:SA t d=t:=by simp[SA,c1]
 rcases c4:(d.code==4) with _ | _
 rotate_left
 ·have hok:Fj t d = !fits t.cols d.r:=by simp[Fj,c4]
  rcases h5:fits t.cols d.r with _ | _
  ·rw[h5] at hok
   have hn:AY t d=some (t):=by simp only[AY,hdone,k1,hok,hputT,aH]; rfl
   rw[Bo hn,hn]
   simp only[go_sem,k1,c1,c4,h5,aV,aQ,AX,AO]
   try simp[OwnL,AC]
  ·rw[h5] at hok
   have hn:AY t d=none:=by simp only[AY,hdone,k1,hok,aO]; rfl
   rw[Ar hn,hn]
   simp only[go_sem,k1,c1,c4,h5,aV,aQ,AX,AO]
   try simp[OwnL,AC]
 rcases c3:(d.code==3) with _ | _
 ·have hok:Fj t d=false:=by simp[Fj,c4,c3,c1]
  have hn:AY t d=none:=by simp only[AY,hdone,k1,hok]; rfl
  rw[Ar hn,hn]
  simp only[go_sem,k1,c1,c4,c3,aV,aQ,AX,AO]
  try simp[OwnL,AC]
 ·have hok:Fj t d=fits t.cols d.r:=by simp[Fj,c4,c3]
  rcases h5:fits t.cols d.r with _ | _
  ·rw[h5] at hok
   have hn:AY t d=none:=by simp only[AY,hdone,k1,hok]; rfl
   rw[Ar hn,hn]
   simp only[go_sem,k1,c1,c4,c3,h5,aV,aQ,AX,AO]
   try simp[OwnL,AC]
  ·rw[h5] at hok
   have hn:AY t d=some (t):=by simp only[AY,hdone,k1,hok,hputT]; rfl
   rw[Bo hn,hn]
   simp only[go_sem,k1,c1,c4,c3,h5,aV,aQ,AX,AO]
   try simp[OwnL,AC]):p:=h
theorem AF9(h:p:=by
 have hr:Ah cs q=(NY cs q.out&&((q.col==0)&&Ad q.out.length 1 3)):=by simp[Ah,h1,k1]
 rw[hr]
 simp only[go_sem,ae,h1,c1,k1]
 refine AAT 1 (A:=Nat) (fun k=>[(32,.c (.v (.int .i64 (k))))]) (fun _=>[⟨71,10,[AIb q],true,true⟩]) (fun k=>k≤q.out.length∧NY cs (q.out.drop k)=NY cs q.out) (fun k=>q.out.length-k) 0 ⟨⟨rfl,rfl⟩,rfl,au _,rfl⟩ ?_
 rintro k ⟨hk,hb⟩
 simp only[go_sem,ae]
 refine AAP (fun h=>?_) (fun h=>?_)
 ·have hk':k<q.out.length:=by simpa using h
  rw[Vq cs q.out hk'] at hb
  simp only[go_sem,ae,AA _ hk',hk',hwl]
  refine AAN _ (AL q.out[k] 0 _) fun _=>?_
  rcases hv:Ad q.out[k] 0 ((cs.length:Int)-1) with _ | _
  ·rw[hv,ag] at hb
   simp only[go_sem,ae,hv,← hb,ag]
  ·rw[hv,ah] at hb
   simp only[go_sem,ae,hv,wrap_i64 (n:=(k:Int)+1) (by omega) (by omega)]
   exact⟨k+1,⟨rfl,rfl⟩,rfl,⟨by omega,hb⟩,by omega⟩
 ·have hk':k=q.out.length:=by simp at h; omega
  rw[hk',aJ] at hb
  have hb':NY cs q.out=true:=by rw[← hb]; rfl
  rw[hb',ah]
  simp only[go_sem,ae]
  refine AAN _ (AL q.out.length 1 3) fun _=>?_
  rcases hA:Ad q.out.length 1 3 with _ | _
  ·simp only[go_sem,ae,hA,aK]
  ·simp only[go_sem,ae,hA,aF]):p:=h
theorem AGT(h:p:=by
 refine CW (hgr) fun _=>?_
 simp only[go_sem]
 refine AAT 2 (A:=Nat) (fun x=>[(36,.c (.v (.int .i64 (x))))]) (fun _=>[⟨46,14,[w.c],true,true⟩,⟨204,5,[w.d.l[k].c],true,true⟩]) (Gp (o6 w w.d.l[k]) fun x=>DT w.d.l[k] x.id) (fun x=>(o6 w w.d.l[k]).length-x) 0 ⟨⟨rfl,rfl⟩,rfl,EL⟩ ?_
 intro j hj
 simp only[go_sem]
 refine AAP (fun h=>?_) (fun h=>?_)
 ·have hj':j<(o6 w w.d.l[k]).length:=by simpa using h
  simp only[go_sem,AA _ hj',hj']
  try refine AAO ?_
  try simp only[go_sem,AA _ hj',hj']
  first | refine CY (Hw w.d.l[k] (o6 w w.d.l[k])[j].id) ?_ | refine CW (Hw w.d.l[k] (o6 w w.d.l[k])[j].id) fun _=>?_
  rcases h3:DT w.d.l[k] (o6 w w.d.l[k])[j].id with _ | _
  ·simp only[go_sem,h3,BP (p:=TZ w) hk' (by rw[hp1]; exact BP (p:=fun x:DRow=>DT w.d.l[k] x.id) hj' h3)]
  ·simp only[go_sem,h3,wrap_i64 (n:=(j:Int)+1) (by omega) (by omega)]
   exact⟨j+1,⟨rfl,rfl⟩,rfl,Bv hj' hj h3,by omega⟩
 ·have hj':j=(o6 w w.d.l[k]).length:=by have:=hj.1; simp at h; omega
  subst hj'
  simp only[go_sem,wrap_i64 (n:=(k:Int)+1) (by omega) (by omega)]
  exact⟨k+1,⟨rfl,rfl⟩,rfl,Bv hk' hk (by rw[hp1]; exact DR hj),by omega⟩):p:=h
theorem AGo(h:p:=by
 refine ABQ (args:=[.c (.sl (cs.map intC)),.c (.sl ((rowsOf ids c).map DRow.c))]) _ (by simp only[DW,DU,go_sem]) rfl (RX cs (rowsOf ids c) (by rw[Du]; omega)) fun _=>?_
 rcases hok:Dq cs (rowsOf ids c) with _ | _
 ·have hno:¬ (Dq cs (rowsOf ids c)=true∧Df cs (rowsOf ids c)=b):=fun q=>by rw[hok] at q; cases q.1
  rw[dZ hno]
  simp only[go_sem,hok,X8]
  try simp[OwnL,AC,D7]
 simp only[go_sem,hok]
 refine ABQ (args:=[.c (.sl (cs.map intC)),.c (.sl ((rowsOf ids c).map DRow.c))]) [.own 5 1 ((Df cs (rowsOf ids c)).map byteC) true] (by simp only[DW,DU,go_sem]) (by simp only[aW,O7,bn,aF,AC7]) (Tu cs (rowsOf ids c) (ja n2 (by omega) hsz)) fun _=>?_
 simp only[go_sem]
 refine AAN _ (NR (Df cs (rowsOf ids c)) b) fun _=>?_
 rcases h6:decide (Df cs (rowsOf ids c)=b) with _ | _
 ·have hno:¬ (Dq cs (rowsOf ids c)=true∧Df cs (rowsOf ids c)=b):=fun q=>by simp at h6; exact h6 q.2
  rw[dZ hno]
  simp only[go_sem,hok,h6,X8]
  try simp[OwnL,AC,D7]
 ·have hyes:Dq cs (rowsOf ids c)=true∧Df cs (rowsOf ids c)=b:=⟨hok,by simpa using h6⟩
  rw[zN hyes]
  simp only[go_sem,hok,h6,X8,AO]
  try simp[OwnL,AC]):p:=h
theorem AHA(h:p:=by try simp[OwnL,AC]):p:=h
theorem AHB(h:p:=by
 refine AAR ?_
 simp only[go_sem,ae,MH,hk,aaR,vH,QU,aI,au,vI]
 refine CZ (IU (l.take k) (V8 hl k)) ?_
 simp only[go_sem]
 refine CZ (Hz r hr) ?_
 have hol2:(l.take k).length+1≤2147483648:=by simp; omega
 simp only[go_sem,aW,bn,ae,hol2,GM,ay,ak]
 simp only[go_sem,ae,MH,hk,UC,aI,vI]
 refine CZ (IU (l.drop k) (fit_drop hl k)) ?_
 have hol3:(l.take k).length+1+(l.drop k).length≤2147483648:=by simp; omega
 simp only[go_sem,aN,bz,bV,Ry,ae,hol3,AO,ak]
 refine AE2 (t:=⟨35,[(4,.c (.ref 0))],[⟨201,2,(Um l r).map DRow.o,true,true⟩]⟩) (ABP [(6,true),(2,false)] 1 0 ⟨rfl,rfl,pg DRow.o_nr _ (l.take k) (l.drop k) rfl,AP DVal.pure,trivial⟩ ⟨(l.take k).length,(l.take k).map DRow.o ++ [DRow.o r]++(l.drop k).map DRow.o,_,DRow.o r,_,⟨bD 0,rfl,pY DRow.o_nr _ (l.take k) (l.drop k) _ _,by simp,rfl⟩,
  ⟨rfl,rfl,rfl,rfl,rfl,rfl,BH _,by simp[CP],fun l hl=>by simp[CP] at hl; omega⟩,⟨rfl, ?tr⟩, ?eq⟩) ?post
 case tr=>unfold Am; rw[set_mid]; exact allA (AU (AO _))
 case eq=>unfold Am; rw[set_mid,hput]; rfl
 case post =>
  simp only[go_sem,AO]
  try simp):p:=h
theorem AHC(h:p:=by
 refine AAR ?_
 simp only[go_sem,ae,MH,hk,aaR,vH,QU,aI,au,vI]
 refine CZ (GI (l.take k) (V8 hl k)) ?_
 simp only[go_sem]
 refine CZ (Fq r hr) ?_
 have hol2:(l.take k).length+1≤2147483648:=by simp; omega
 simp only[go_sem,aW,bn,ae,hol2,GM,ay,ak]
 simp only[go_sem,ae,MH,hk,UC,aI,vI]
 refine CW (GI (l.drop k) (fit_drop hl k)) fun _=>?_
 have hol3:(l.take k).length+1+(l.drop k).length≤2147483648:=by simp; omega
 simp only[go_sem,aN,bz,bV,Ry,ae,hol3,AO,ak]
 refine AE2 (t:=⟨37,[(4,.c (.ref 0))],[⟨201,2,(Um l r).map DRow.o,true,true⟩]⟩) (ABP [(6,true),(2,false)] 1 0 ⟨rfl,rfl,pg DRow.o_nr _ (l.take k) (l.drop k) rfl,AP DVal.pure,trivial⟩ ⟨(l.take k).length,(l.take k).map DRow.o ++ [DRow.o r]++(l.drop k).map DRow.o,_,DRow.o r,_,⟨bD 0,rfl,pY DRow.o_nr _ (l.take k) (l.drop k) _ _,by simp,rfl⟩,
  ⟨rfl,rfl,rfl,rfl,rfl,rfl,BH _,by simp[CP],fun l hl=>by omega⟩,⟨rfl, ?tr⟩, ?eq⟩) ?post
 case tr=>unfold Am; rw[set_mid]; exact allA (AU (AO _))
 case eq=>unfold Am; rw[set_mid,hput]; rfl
 case post =>
  simp only[go_sem,AO]
  try simp):p:=h
theorem AHD(h:p:=by
 rcases hv:rowOk t.cols t.l[k] with _ | _
 ·simp only[go_sem,hv]
  have hno:¬ rowAt t.cols t.l k:=by intro hg; have:=(hg hk').1; rw[hv] at this; cases this
  simp only[GR,QC hno,aK]
 ·rcases abh k with hz | hz
  ·have hp:decide ((k:Int)>0)=false:=by simp; omega
   simp only[go_sem,hv,hp,wrap_i64 (n:=(k:Int)+1) (by omega) (by omega)]
   exact⟨k+1,⟨rfl,rfl⟩,rfl,⟨by omega,hnext fun _=>⟨hv,fun h0=>by omega⟩⟩,by omega⟩
  ·have hp:decide ((k:Int)>0)=true:=by simp; omega
   have hk1:k-1<t.l.length:=by omega
   have hw1:IntKind.i64.wrap ((k:Int)-1)=((k-1:Nat):Int):=by rw[wrap_i64 (by omega) (by omega)]; omega
   rcases hq:decide (t.l[k-1].id≥t.l[k].id) with _ | _
   ·simp only[go_sem,hv,hp,hw1,AA _ hk',AA _ hk1,hq,wrap_i64 (n:=(k:Int)+1) (by omega) (by omega)]
    exact⟨k+1,⟨rfl,rfl⟩,rfl,⟨by omega,hnext fun _=>⟨hv,fun _=>by grind⟩⟩,by omega⟩
   ·simp only[go_sem,hv,hp,hw1,AA _ hk',AA _ hk1,hq]
    have hno:¬ rowAt t.cols t.l k:=by intro hg; have:=(hg hk').2 hz; simp at hq; omega
    simp only[GR,QC hno,aK]):p:=h
theorem AHE(h:p:=by
 intro hpl hn0
 unfold RD at hpl
 have hbs:Rt w k w.b[k]=Vr w k w.b[k]:=by simp only[Rt,hp1,ah]
 rcases h4:w.b[k].kind==0 with _ | _
 ·have g4:(w.b[k].kind != 0)=true:=by simp[bne,h4]
  rcases h5:n != 1 with _ | _
  ·simp only[go_sem,AA _ hk',hk',h4,g4,h5,wrap_i64 (n:=(k:Int)+1) (by omega) (by omega)]
   exact⟨k+1,⟨rfl,rfl⟩,rfl,PU hk' hk (by rw[hbs,hpl,h4,g4,h5]; rfl),by omega⟩
  ·simp only[go_sem,AA _ hk',hk',h4,g4,h5,Jk (p:=Rt w) hk' (by rw[hbs,hpl,h4,g4,h5]; rfl),ag]
 ·have g4:(w.b[k].kind != 0)=false:=by simp[bne,h4]
  rcases h5:n != 0 with _ | _
  ·have g5:decide (n>0)=false:=by have:n=0:=(by simpa using h5); rw[this]; rfl
   simp only[go_sem,AA _ hk',hk',h4,g4,h5,wrap_i64 (n:=(k:Int)+1) (by omega) (by omega)]
   exact⟨k+1,⟨rfl,rfl⟩,rfl,PU hk' hk (by rw[hbs,hpl,h4,g4,g5]; rfl),by omega⟩
  ·have g5:decide (n>0)=true:=by have:n≠0:=(by simpa using h5); simp; omega
   simp only[go_sem,AA _ hk',hk',h4,g4,h5,Jk (p:=Rt w) hk' (by rw[hbs,hpl,h4,g4,g5]; rfl),ag]):p:=h
theorem AHF(h:p:=by
 exact {
  defers:=rfl
  size:=by simp; omega
  lim:=hlim
  env:=fun i=>by
   rw[ABS (by simp; omega) rfl]
   simp only[Qz,au,bH,vH]
   rcases bZ i args.length with hi | hi
   ·obtain⟨u,hu,hr⟩:=hva i args[i] (by simp[hi])
    have e1:args.getD i .un=args[i]:=by simp[hi]
    have e2:(vs.toArray++Array.replicate (fn.ntmps-vs.toArray.size) Go.undef).getD i Go.undef=u:=by
     have hiv:i<vs.length:=by omega
     simp only[abj]
     rw[aaO (by omega)]
     simp[hu]
    rw[e1,e2]
    exact hr.toAVR
   ·have e1:args.getD i .un = .un:=by simp[hi]
    rw[e1]
    simp only[AVR]
  below:=BelowB.refl _ _
  st0:=fun _ _ h=>h
  stOld:=fun _ _ h _ _=>h
  stIn:=hSt
  obs:=fun l ob b hl=>by simp at hl
  nil:=fun l ob hl=>by simp at hl
  inj:=fun l l' ob ob' b hl=>by simp at hl
  sep:=fun l ob b o hl=>by simp at hl
  own:=⟨fun _ _ _=>False,fun l ob b k c hl=>by simp at hl,fun _ _ _ h=>h.elim,fun _ _ _ _ _ h=>h.elim⟩ }):p:=h
theorem AHo(h:p:=by
 have h1':x≥128:=by simp at h1; omega
 cases f with
 | zero=>simp at hx1; omega
 | succ f =>
 rw[jX,bG h1'] at hb
 have hwt:IntKind.i64.wrap (x.tmod 128)=x%128:=by rw[aaC (by omega),wrap_i64 (by omega) (by omega)]
 have hwd:IntKind.i64.wrap (x.tdiv 128)=x/128:=by rw[aag (by omega),wrap_i64 (by omega) (by omega)]
 have hwa:IntKind.i64.wrap (x%128+128)=x%128+128:=wrap_i64 (by omega) (by omega)
 have hwb:IntKind.i64.wrap (128+x%128)=x%128+128:=by rw[wrap_i64 (by omega) (by omega)]; omega
 have hwu:IntKind.u8.wrap (x%128+128)=x%128+128:=wrap_u8 (by omega) (by omega)
 simp only[go_sem,aW,bn,h1,ae,hwt,hwd,hwa,hwb,hwu,hol2,ak]
 exact⟨(f,x/128,out ++ [x%128+128]),AAQ [(2,false)] ⟨rfl,rfl,by rw[← Lc]; exact AP byteC.pure,trivial⟩ (by rw[← Lc]; rfl),⟨by simp only; omega,by simp only; omega,by simp only; rw[abp] at hx1; omega,by simp only; rw[← hb,aZ]; rfl⟩,by simp only; omega⟩):p:=h
theorem AHp(h:p:=by
 rcases h3:Ad d.code 0 5 with _ | _
 ·simp only[go_sem,Ef,h1,h2,h3,aK,aH]
 rcases h4:decide (d.stamp<0) with _ | _
 rotate_left
 ·simp only[go_sem,Ef,h1,h2,h3,h4,aF,aO,Pv]
 rcases h5:decide (d.inv<0) with _ | _
 rotate_left
 ·simp only[go_sem,Ef,h1,h2,h3,h4,h5,aF,aO,Pv,bW]
 rcases h6:decide (d.id < -1) with _ | _
 rotate_left
 ·simp only[go_sem,Ef,h1,h2,h3,h4,h5,h6,aF,aO,Pv,bW]
 rcases h7:d.lin == -1 with _ | _
 ·have h7':(d.lin != -1)=true:=by simp[bne,h7]
  rcases h8:decide (d.lin<d.inv) with _ | _
  rotate_left
  ·simp only[go_sem,Ef,h1,h2,h3,h4,h5,h6,h7,h7',h8,aF,aO,aH,Pv,bW]
  rcases h9:d.ret == -1 with _ | _
  all_goals simp only[go_sem,Ef,h1,h2,h3,h4,h5,h6,h7,h7',h8,h9,aF,aK,ah,aO,aH,Pv,bW,abQ]
 ·have h7':(d.lin != -1)=false:=by simp[bne,h7]
  rcases h9:d.ret == -1 with _ | _
  all_goals simp only[go_sem,Ef,h1,h2,h3,h4,h5,h6,h7,h7',h9,aF,aK,ag,aO,aH,Pv,bW,abQ]):p:=h
theorem AHr(h:p:=by
 rcases h:Ad n 0 2000000000 with _ | _
 ·simp only[go_sem,h,dA]
 ·have hb:0≤n∧n≤2000000000:=by simpa [Ad] using h
  obtain⟨m,rfl⟩:=aU hb.1
  have e1:IntKind.i64.wrap ((m:Int).tmod 2)=(m:Int)%2:=by rw[aaC (by omega)]; exact wrap_i64 (by omega) (by omega)
  simp only[go_sem,h,e1]
  refine AAP (fun h1=>?_) (fun h1=>?_)
  ·have h1':(m:Int)%2=1:=by simpa using h1
   simp only[go_sem]
   rw[wrap_i64 (n:=(m:Int)+1) (by omega) (by omega),wrap_i64 (n:=0-((m:Int)+1)) (by omega) (by omega)]
   have e2:(0-((m:Int)+1)).tdiv 2 = -(((m:Int)+1)/2):=by rw[show 0-((m:Int)+1) = -((m:Int)+1) by omega,Int.neg_tdiv,aag (by omega)]
   rw[e2,wrap_i64 (by omega) (by omega)]
   simp only[dA,h,bH,zag,bG h1']
  ·have h1':¬ (m:Int)%2=1:=by simpa using h1
   simp only[go_sem]
   rw[aag (by omega),wrap_i64 (by omega) (by omega)]
   simp only[dA,h,bH,zag,bu h1']):p:=h
theorem AHs(h:p:=by
 rintro k ⟨hk,hf⟩
 simp only[go_sem]
 refine AAP (fun h=>?_) (fun h=>?_)
 ·have hk':k<a.length:=by simpa using h
  have hk2:k<b.length:=by omega
  rw[jR a b hk' hk2] at hf
  rcases hv:a[k]==b[k] with _ | _
  ·have hv2:(a[k] != b[k])=true:=by simp[bne,hv]
   simp only[go_sem,AA _ hk',AA _ hk2,hk',hk2,hv,hv2]
   refine AAO ?_
   simp only[go_sem,AA _ hk',AA _ hk2,hk',hk2,hv,hv2]
   rw[hv,ag] at hf
   rw[hf]
  ·have hv2:(a[k] != b[k])=false:=by simp[bne,hv]
   simp only[go_sem,AA _ hk',AA _ hk2,hk',hk2,hv,hv2]
   refine AAO ?_
   simp only[go_sem,AA _ hk',AA _ hk2,hk',hk2,hv,hv2,wrap_i64 (n:=(k:Int)+1) (by omega) (by omega)]
   rw[hv,ah] at hf
   exact⟨k+1,⟨rfl,rfl⟩,rfl,⟨by omega,hf⟩,by omega⟩
 ·have hk':k=a.length:=by simp at h; omega
  subst hk'
  simp only[go_sem]
  rw[← hf,aJ,he,aJ]; rfl):p:=h
theorem AIC(h:p:=by
 have e1:=hb.ret
 subst e1
 obtain⟨Φs3,hr3,_⟩:=hb3.res
 have k3:=sV rs hr3
 refine⟨St3,β,k1.put o.dst (PL ?_)⟩
 have key:∀ (xs:List AV) (us:List Value),RdAs w' St3 xs us→AVRs w' St3 s.st β xs us:=by
  intro xs
  induction xs with
  | nil=>intro us h; simp only[AVRs]; exact h
  | cons x xs ih =>
   intro us h
   obtain⟨y,ys,h1,h2,h3⟩:=h
   simp only[AVRs]
   exact⟨y,ys,h1,h2.toAVR,ih ys h3⟩
 grind):p:=h
theorem AIr(h:p:=by
 rintro k ⟨hk,hb⟩
 simp only[go_sem]
 refine AAP (fun h=>?_) (fun h=>?_)
 ·have hk':k<p.l.length:=by simpa using h
  have hk2:k<q.l.length:=by omega
  rw[Zc p.l q.l hk' hk2] at hb
  simp only[go_sem,AA _ hk',AA _ hk2,hk',hk2]
  try refine AAO ?_
  try simp only[go_sem,AA _ hk',AA _ hk2,hk',hk2]
  first | refine CY (hx p.l[k] (aj hk') q.l[k] (aj hk2)) ?_ | refine CW (hx p.l[k] (aj hk') q.l[k] (aj hk2)) fun _=>?_
  rcases hv:PT p.l[k] q.l[k] with _ | _
  ·simp only[go_sem,hv]
   rw[hv,ag] at hb
   rw[← hb]
  ·simp only[go_sem,hv,wrap_i64 (n:=(k:Int)+1) (by omega) (by omega)]
   rw[hv,ah] at hb
   exact⟨k+1,⟨rfl,rfl⟩,rfl,⟨by omega,hb⟩,by omega⟩
 ·have hk':k=p.l.length:=by simp at h; omega
  subst hk'
  simp only[go_sem]
  rw[← hb,aJ,he,aJ,IQ]):p:=h
theorem AIs(h:p:=by
 rintro k ⟨hk,hf⟩
 simp only[go_sem,ae]
 refine AAP (fun h=>?_) (fun h=>?_)
 ·have hk':k<a.length:=by simpa using h
  have hk2:k<b.length:=by omega
  rw[fU a b hk' hk2] at hf
  simp only[go_sem,ae,AA _ hk',AA _ hk2,hk',hk2]
  try refine AAO ?_
  try simp only[go_sem,ae,AA _ hk',AA _ hk2,hk',hk2]
  have e1:(a[k].ty==b[k].ty&&(a[k].n==b[k].n&&a[k].s.toList==b[k].s.toList))=LG a[k] b[k]:=rfl
  try simp only[Dx,G9,e1,aF]
  rcases hv:LG a[k] b[k] with _ | _
  ·simp only[go_sem,hv,e1,aH,aF]
   grind
  ·simp only[go_sem,hv,e1,aO,wrap_i64 (n:=(k:Int)+1) (by omega) (by omega)]
   rw[hv,ah] at hf
   exact⟨k+1,⟨rfl,rfl⟩,rfl,⟨by omega,hf⟩,by omega⟩
 ·have hk':k=a.length:=by simp at h; omega
  subst hk'
  simp only[go_sem]
  rw[← hf,aJ,he,aJ]; rfl):p:=h
theorem AIt(h:p:=by exact⟨x+1,AAQ [] ⟨rfl,rfl,trivial⟩ (by rw[hb]; rfl),hx',by omega⟩):p:=h
theorem AIu(h:p:=by simp only[go_sem]):p:=h
theorem AIv(h:p:=by
 simp only[go_sem] at hset
 simp only[go_sem,AA _ hk',Bh hk,EI hk',hk',hset,wrap_i64 (n:=(k:Int)+1) (by omega) (by omega)]
 refine CW (hx xs[k] (aj hk')) fun _=>?_
 simp only[go_sem,AA _ hk',Bh hk,EI hk',hk',hset,wrap_i64 (n:=(k:Int)+1) (by omega) (by omega)]
 exact⟨k+1,⟨rfl,hg _⟩,rfl,by omega,by first | omega | (simp only; omega)⟩):p:=h
theorem AIw(h:p:=by
 simp only[go_sem,AA _ hk',Bh hk,EI hk',hk',hset,wrap_i64 (n:=(k:Int)+1) (by omega) (by omega)]
 exact⟨k+1,⟨rfl,hg _⟩,rfl,by omega,by first | omega | (simp only; omega)⟩):p:=h
theorem AIx(h:p:=by
 rw[bu (by grind)] at he
 rcases h5:p.kind==5 with _ | _
 rotate_left
 ·rw[bG h5] at he
  rw[he]
  rcases h0:((p.l.length:Int)==0) with _ | _
  ·have hp0:0<p.l.length:=by simp at h0; exact aaQ.2 h0
   simp only[go_sem,ae,h1,h2,h3,h4,h5,h0,aH,AA _ hp0,hp0]
   try refine AAO ?_
   try simp only[go_sem,ae,h1,h2,h3,h4,h5,h0,aH,AA _ hp0,hp0]
   first | refine CY (hx p.l[0] (aj hp0)) ?_ | refine CW (hx p.l[0] (aj hp0)) fun _=>?_
   have:=V6 l p.l hp0
   simp only[go_sem,h0,this]
  ·have hp0:p.l = []:=by simpa using h0
   simp only[go_sem,ae,h1,h2,h3,h4,h5,h0,aO]
   rw[hp0]; rfl
 rw[bu (by grind)] at he
 simp only[go_sem,ae,h1,h2,h3,h4,h5,he]):p:=h
theorem AIy(h:p:=by
 rintro k ⟨hk,hb⟩
 simp only[go_sem,ae]
 refine AAP (fun h=>?_) (fun h=>?_)
 ·have hk':k<p.l.length:=by simpa using h
  rw[Uo p.l l hk'] at hb
  simp only[go_sem,ae,AA _ hk',hk']
  try refine AAO ?_
  try simp only[go_sem,ae,AA _ hk',hk']
  first | refine CY (hx p.l[k] (aj hk')) ?_ | refine CW (hx p.l[k] (aj hk')) fun _=>?_
  rcases hv:holds p.l[k] l with _ | _
  ·simp only[go_sem,hv]
   grind
  ·simp only[go_sem,hv,wrap_i64 (n:=(k:Int)+1) (by omega) (by omega)]
   rw[hv,ah] at hb
   exact⟨k+1,⟨rfl,rfl⟩,rfl,⟨by omega,hb⟩,by omega⟩
 ·have hk':k=p.l.length:=by simp at h; omega
  subst hk'
  simp only[go_sem]
  rw[← hb,aJ]; rfl):p:=h
theorem AIz(h:p:=by
 rintro k ⟨hk,hb⟩
 simp only[go_sem,ae]
 refine AAP (fun h=>?_) (fun h=>?_)
 ·have hk':k<p.l.length:=by simpa using h
  rw[Ur p.l l hk'] at hb
  simp only[go_sem,ae,AA _ hk',hk']
  try refine AAO ?_
  try simp only[go_sem,ae,AA _ hk',hk']
  first | refine CY (hx p.l[k] (aj hk')) ?_ | refine CW (hx p.l[k] (aj hk')) fun _=>?_
  rcases hv:holds p.l[k] l with _ | _
  ·simp only[go_sem,hv,wrap_i64 (n:=(k:Int)+1) (by omega) (by omega)]
   rw[hv,bW] at hb
   exact⟨k+1,⟨rfl,rfl⟩,rfl,⟨by omega,hb⟩,by omega⟩
  ·simp only[go_sem,hv]
   grind
 ·have hk':k=p.l.length:=by simp at h; omega
  subst hk'
  simp only[go_sem]
  rw[← hb,aJ]; rfl):p:=h
theorem AI0(h:p:=by
 rcases h2:Ad w 0 31 with _ | _
 ·have:¬ ((0≤k∧k≤64)∧0≤w∧w≤31):=by simp[Ad] at h2; omega
  simp only[go_sem,h,h2,GL,bu this]
 have hk:0≤k∧k≤64:=by simp[Ad] at h; omega
 have hw:0≤w∧w≤31:=by simp[Ad] at h2; omega
 have hm:0≤k*w:=abe hk.1 hw.1
 have hm2:k*w≤64*31:=Int.le_trans (aak hk.2 hw.1) (abt hw.2 (by omega))
 have e1:IntKind.i64.wrap (k*w)=k*w:=wrap_i64 (by omega) (by omega)
 have e2:IntKind.i64.wrap (k*w+7)=k*w+7:=wrap_i64 (by omega) (by omega)
 have e3:IntKind.i64.wrap ((k*w+7).tdiv 8)=(k*w+7)/8:=by rw[aag (by omega),wrap_i64 (by omega) (by omega)]
 simp only[go_sem,h,h2,GL,hk,hw,e1,e2,e3,vI,bH]):p:=h
theorem AI1(h:p:=by
 simp only[go_sem,ae,AA _ hi',AA _ h0,ak]
 rcases h2:BO l[i] with _ | _
 ·rw[Ua h0 (i:=i) hi' (fun q=>by rw[h2] at q; cases q.1)]
  simp only[go_sem,h2]
 rcases h3:l[i].ty != l[0].ty with _ | _
 ·have h3':l[i].ty=l[0].ty:=by simpa using h3
  simp only[go_sem,ae,AA _ hi',AA _ h0,h2,h3,wrap_i64 (n:=(i:Int)+1) (by omega) (by omega)]
  exact⟨i+1,⟨rfl,rfl⟩,rfl,⟨hi',fun m h4 h5=>by
   by_cases e:m=i
   ·subst e; exact⟨h2,h3'⟩
   ·exact hb m h4 (by omega)⟩,by omega⟩
 ·have h3':l[i].ty≠l[0].ty:=by simpa using h3
  rw[Ua h0 (i:=i) hi' (fun q=>h3' q.2)]
  simp only[go_sem,ae,AA _ hi',AA _ h0,h2,h3]):p:=h
theorem AI3(h:p:=by
 refine⟨(k+1,out ++ [⟨IntKind.i64.wrap (first+k),c.l[k].l⟩]),⟨[(0,false),(5,true),(3,false)],⟨rfl,rfl,rfl,FH DRow.o_nr _ out rfl,AP DVal.pure,trivial⟩,.inr ⟨out.length,out.map DRow.o ++ [DRow.o ⟨IntKind.i64.wrap (first+k),c.l[k].l⟩],_,DRow.o ⟨IntKind.i64.wrap (first+k),c.l[k].l⟩,_,⟨bD 1,rfl,FD DRow.o_nr _ out _ _,by simp,rfl⟩,
  ⟨rfl,rfl,rfl,rfl,rfl,rfl,BH _,by simp[CP],fun l hl=>by simp[CP] at hl; omega⟩,⟨rfl, ?tr⟩, ?eq⟩⟩,⟨hk',by rw[We hk' hc,← hb]⟩,by simp only; omega⟩
 case tr=>unfold Am; rw[Ae]; exact all2 rfl (AU (AO _))
 case eq=>unfold Am; rw[Ae]; rfl):p:=h
theorem AI5(h:p:=by
 simp only[Dl,KZ,go_sem,Ae]
 refine EndH.self ?_
 have e3:w.deeds.map DDeed.o ++ [DDeed.o (KI w n (Be l) (DK l))]=(w.deeds ++ [KI w n (Be l) (DK l)]).map DDeed.o:=by simp
 have e4:FQ w n (Be l) (DK l) 0=⟨w.c0,IntKind.i64.wrap (w.time+1),w.t,w.e,w.d,w.b,w.m,w.x,w.p,w.tasks.set n (Hg w (Be l)),w.deeds ++ [KI w n (Be l) (DK l)]⟩:=by simp[FQ]; rfl
 have e5:(w.tasks.map DTask.o).set n (DTask.o (Hg w (Be l)))=(w.tasks.set n (Hg w (Be l))).map DTask.o:=yI.symm
 simp only[go_sem] at e3 e5
 simp only[go_sem,bH,e3,e4,e5]
 simp[AC]
 try first | rfl | simp only[go_sem]):p:=h
theorem AI6(h:p:=by
 simp only[Dl,KZ,go_sem,Ae]
 refine EndH.self ?_
 have e3:w.deeds.map DDeed.o ++ [DDeed.o (KI w n (BA q) (Ba q))]=(w.deeds ++ [KI w n (BA q) (Ba q)]).map DDeed.o:=by simp
 have e4:FQ w n (BA q) (Ba q) 0=⟨w.c0,IntKind.i64.wrap (w.time+1),w.t,w.e,w.d,w.b,w.m,w.x,w.p,w.tasks.set n (Hg w (BA q)),w.deeds ++ [KI w n (BA q) (Ba q)]⟩:=by simp[FQ]; rfl
 have e5:(w.tasks.map DTask.o).set n (DTask.o (Hg w (BA q)))=(w.tasks.set n (Hg w (BA q))).map DTask.o:=yI.symm
 simp only[go_sem] at e3 e5
 simp only[go_sem,bH,e3,e4,e5]
 simp[AC]
 try first | rfl | simp only[go_sem]):p:=h
theorem AJl(h:p:=by
 simp only[go_sem]
 rcases h3:BU b q' with _ | ⟨n,q2⟩<;>rw[h3] at hg2 hb2<;>simp only[Xn] at hg2
 ·refine AAN _ hg2 fun _=>?_
  simp only[X6] at hb2
  rw[← hb2]
  simp only[go_sem,dC]
  try simp[D7]
 ·refine AAN _ hg2 fun _=>?_
  have hl2:l.length+1≤2147483648:=by omega
  simp only[go_sem,ae,aW,bn,hl2,ak,wrap_i64 (n:=(i:Int)+1) (by omega) (by omega)]
  exact⟨(i+1,q2,l ++ [n]),AAQ [(2,false)] ⟨rfl,rfl,by rw[← Gv]; exact AP OC,trivial⟩ (by rw[← Gv]; rfl),⟨hi',by simp; omega,by rw[← hb2,aa6]; congr 1; funext y; simp⟩,by simp only; omega⟩):p:=h
theorem AJ9(h:p:=by
 refine⟨(k+1,out ++ [c.l[k]]),ABP [(0,false),(1,true),(2,true),(7,true),(5,false)] 4 3 ⟨rfl,rfl,rfl,rfl,rfl,FH DSlot.o_nr _ out rfl,AP DVal.pure,trivial⟩ ⟨out.length,out.map DSlot.o ++ [DSlot.o c.l[k]],_,DSlot.o c.l[k],_,⟨bD 3,rfl,FD DSlot.o_nr _ out _ _,by simp,rfl⟩,
  ⟨rfl,rfl,rfl,rfl,rfl,rfl,BH _,by simp[CP],fun l hl=>by simp[CP] at hl; omega⟩,⟨rfl, ?tr⟩, ?eq⟩,⟨hk',by simp; omega,(aZ _ _ _).trans hb⟩,by simp only; omega⟩
 case tr=>unfold Am; rw[Ae]; exact AAV rfl rfl rfl (AU (Ha _))
 case eq=>unfold Am; rw[Ae,bQ]; rfl):p:=h
theorem AJ_(h:p:=by
 rintro k ⟨hk,hf⟩
 simp only[go_sem,ae]
 refine AAP (fun h=>?_) (fun h=>?_)
 ·have hk':k<l.length:=by simpa using h
  rw[aA hk',O4] at hf
  simp only[go_sem,ae,AA _ hk',hk']
  try refine AAO ?_
  try simp only[go_sem,ae,AA _ hk',hk']
  rcases hv:l[k]==n with _ | _
  ·simp only[go_sem,hv,wrap_i64 (n:=(k:Int)+1) (by omega) (by omega)]
   rw[hv,bW] at hf
   exact⟨k+1,⟨rfl,rfl⟩,rfl,⟨by omega,hf⟩,by omega⟩
  ·simp only[go_sem,hv]
   grind
 ·have hk':k=l.length:=by simp at h; omega
  subst hk'
  simp only[go_sem]
  rw[← hf,aJ]; rfl):p:=h
theorem AKA(h:p:=by
 cases hl:listed.getD j false with
 | true=>rw[GH (X:=fun j=>if i=j then true else listed.getD j false) hdst hj (by simp only[hne,aY]; exact hl) ops.size hjs,GH (X:=fun j=>listed.getD j false) hdst hj hl ops.size hjs]
 | false=>rw[BR (X:=fun j=>if i=j then true else listed.getD j false) ops.size (fun k _ hk=>by have:=hdst k j t hk hj; subst this; simp only[hne,aY]; exact hl),BR (X:=fun j=>listed.getD j false) ops.size (fun k _ hk=>by have:=hdst k j t hk hj; subst this; exact hl)]):p:=h
theorem AKB(h:p:=by exact⟨k+1,⟨rfl,rfl⟩,rfl,⟨by omega,hf⟩,by omega⟩):p:=h
theorem AKC(h:p:=by
 rw[e]
 simp only[go_sem,h1]
 try simp[OwnL,AC,D7]):p:=h
theorem AKD(h:p:=by
 intro k hk
 simp only[go_sem]
 refine AAP (fun h=>?_) (fun h=>?_)
 ·have hk':k<d.l.length:=by simpa using h
  rcases h1:d.l[k].buf==n with _ | _
  ·simp only[go_sem,AA _ hk',hk',h1,wrap_i64 (n:=(k:Int)+1) (by omega) (by omega)]
   exact⟨k+1,⟨rfl,rfl⟩,rfl,Bv hk' hk (by simp[h1]),by omega⟩
  ·simp only[go_sem,AA _ hk',hk',h1,Ew,uC (p:=fun r:DRef=>r.buf==n) hk' h1]
 ·have hk':k=d.l.length:=by have:=hk.1; simp at h; omega
  subst hk'
  simp only[go_sem,Ew,ABo hk]):p:=h
theorem AKE(h:p:=by
 rcases h5:Fb b (n:Int) != 0 with _ | _
 ·have h5':Fb b (n:Int)=0:=by simpa using h5
  simp only[go_sem,h5,wrap_i64 (n:=(n:Int)+1) (by omega) (by omega)]
  exact⟨n+1,⟨rfl,all1 (AU (AX _))⟩,rfl,⟨by omega,by omega,fun m h1 h2=>by
   grind⟩,by omega⟩
 ·have h5':Fb b (n:Int)≠0:=by simpa using h5
  have:unpack b W i=none:=by
   unfold unpack
   rw[bu]
   rintro⟨_,q⟩
   exact h5' (q n (abJ.2 hn') (by omega))
  rw[this]
  simp only[go_sem,h5,eP]
  try simp[D7]):p:=h
theorem AKL(h:p:=by
 subst hne
 have hy0:([]:List (List Cl)).length=0:=rfl
 rw[hy0] at hvy
 have hrun:(Builtin.append_ #[T,T] o.type #[a.eval x,a.eval y]).run P w = .ok (.slice none 0 0) w:=by
  rw[hvx,hvy]; exact Ia ht hs none 0 0 (aI _) ad capy w
 obtain⟨a1,a2,a3⟩:=k1.addOb ⟨e,n,[],ob.wr,true⟩ none (fun _=>rfl) (by simp) k1.own (by simp)
 refine⟨_,.slice none 0 0,w,St,_,hexec _ _ hrun,.inl rfl,a1, ?_⟩
 rw[← hkl]
 exact Oh (b:=none) rfl (by simp) fun _=>⟨rfl,rfl⟩):p:=h
theorem AK8(h:p:=by
 rcases h:EN n with _ | _
 ·simp only[go_sem,h,b_]
 ·have hb:=UY.1 h
  simp only[go_sem,h]
  refine AAP (fun h1=>?_) (fun h1=>?_)
  ·have h1':n<0:=by simpa using h1
   simp only[go_sem]
   rw[wrap_i64 (n:=-2*n) (by omega) (by omega),wrap_i64 (n:=-2*n-1) (by omega) (by omega)]
   simp only[b_,h,bH,zig,bG h1']
  ·have h1':¬ n<0:=by simpa using h1
   simp only[go_sem]
   rw[wrap_i64 (n:=2*n) (by omega) (by omega)]
   simp only[b_,h,bH,zig,bu h1']):p:=h
theorem AK9(h:p:=by
 have hk':k=a.length:=by simp at h; omega
 subst hk'
 simp only[go_sem]
 rw[← hf,aJ,he,aJ]; rfl):p:=h
theorem AK_(h:p:=by
 simp only[go_sem]
 refine AAP (fun h=>by simp only[go_sem,KP h]) fun h=>?_
 have h0:=Rw h
 simp only[go_sem,KQ h]):p:=h
theorem ALA(h:p:=by exact EndH.self (by simp only[go_sem]; simp[OwnL,AC])):p:=h
theorem ALB(h:p:=by
 have h1:SizeOf.sizeOf x<SizeOf.sizeOf p.l:=aao hx
 have h2:SizeOf.sizeOf p.l<SizeOf.sizeOf p:=by cases p; simp[DPred.l]; omega
 omega):p:=h
theorem ALC(h:p:=by try simp[OwnL,AC,D7]):p:=h
theorem ALD(h:p:=by
 have g5:((t.l.length:Int) != 1)=true:=by simp only[bne,h5,aH]
 simp only[go_sem,g5,ag]
 try refine AAO ?_
 try simp only[go_sem,g5]):p:=h
theorem ALE(h:p:=by
 rcases hn:d.l.length with _ | k
 ·have e0:((d.l.length:Int)==0)=true:=by rw[hn]; rfl
  simp only[go_sem,e0,oZ (List.length_eq_zero_iff.1 hn)]
 obtain⟨hk,he⟩:=zA hn
 have e0:((d.l.length:Int)==0)=false:=by rw[hn]; simp; omega
 have e1:IntKind.i64.wrap ((d.l.length:Int)-1)=(k:Int):=by rw[wrap_i64 (by omega) (by omega)]; omega
 simp only[go_sem,e0,e1,AA _ hk,hk,he]):p:=h
theorem ALe(h:p:=by
 refine⟨(m+1,ys),AAQ [(0,false),(1,true),(2,true),(3,true),(4,false),(5,true),(6,false)] ⟨rfl,rfl,rfl,rfl,rfl,Bc (AO _),rfl,rfl,AP DVal.pure,trivial⟩ ?_,⟨hm',hc⟩,by omega⟩
 show (⟨111,_,[_,_,_,⟨201,2,(out.map DRow.o).map (fun x=>x.map (NM [(0,false),(1,true),(2,true),(3,true),(4,false),(5,true),(6,false)])),true,true⟩,_,_,_]⟩:MS)=_
 rw[BM (AO out)]
 rfl):p:=h
theorem AL0(h:p:=by
 refine AAN _ hr fun _=>?_
 simp only[go_sem,Dt]):p:=h
theorem AL1(h:p:=by
 have e7:((p:Int)+1+(c:Int)==0)=false:=by simp; omega
 have e8:((p+1+c:Nat):Int)=(p:Int)+1+(c:Int):=by omega
 rcases hv:BO ⟨2,0,strOfNums ((b.drop (p+1)).take c)⟩ with _ | _
 ·simp only[go_sem,hv,kL,Rq,ay,aY]
 ·simp only[go_sem,hv,e7,kL,e8,wrap_i64 (n:=(p:Int)+1) (by omega) (by omega),wrap_i64 (n:=(p:Int)+1+(c:Int)) (by omega) (by omega)]):p:=h
theorem AL2(h:p:=by
 simp only[go_sem]
 refine ABQ (args:=[.agg X.c,.agg X.c]) _ (by simp only[D8,CO,Cf,DF,D9,FB,DU,ET,go_sem]) rfl (Et _) fun _=>?_
 simp only[go_sem,e0]
 refine ABQ (args:=[.agg (PI 1 X).c,.c (.v (.int .i64 1))]) _ (by simp only[D8,CO,Cf,DF,D9,FB,DU,go_sem]; rfl) rfl (KR X 1 (by omega) hf2 (by omega)) fun _=>?_
 simp only[go_sem,hn2,ax]):p:=h
theorem AL3(h:p:=by
 induction i using Nat.strongRecOn with
 | _ i ih =>
  intro hi
  cases hc:listed.getD i false with
  | true=>rfl
  | false =>
   exfalso
   have:i∈Region.ready .any ops listed:=by
    rw[mem_ready]
    refine⟨?_,ops[i],by simp[hi],fun e he hb=>?_⟩
    ·grind
    ·have:=(Gn hok (i:=i) (o:=ops[i]) (by simp[hi])).1 e he hb
     grind
   grind):p:=h
theorem AL4(h:p:=by
 simp only[go_sem]
 refine AAP (fun h=>by simp only[go_sem,KP h]) fun h=>?_
 have h1:=Rw h
 simp only[go_sem,KQ h]):p:=h
theorem AL5(h:p:=by
 unfold Ac at hs; unfold TB at hz; unfold FK at hb
 cases hi:P.info? e with
 | none=>grind
 | some i =>
  cases hiz:i.zero with
  | none=>grind
  | some z' =>
   grind):p:=h
theorem AL6(h:p:=by
 simp only[go_sem]
 refine CW (EY w hf) fun _=>?_
 simp only[go_sem,ae,bi,aN,bz,bV,Ry,ax,hlt,hlp,hld,AHL,ay,hsp,h40,bD,AA _ hlt,AA _ hlp,DTask.o_eq w.tasks[n]]
 repeat (refine AAR ?_; simp only[go_sem,ae,bi,aN,bz,bV,Ry,ax,hlt,hlp,hld,AHL,ay,hsp,h40,bD,AA _ hlt,AA _ hlp,DTask.o_eq w.tasks[n]])
 exact⟨rfl,rfl⟩):p:=h
theorem AMy(h:p:=by
 simp only[go_sem]
 refine CW (EY w hf) fun _=>?_
 simp only[go_sem,ae,bi,aN,bz,bV,Ry,ax,hlt,hlp,hld,ACH,ay,hsp,h40,bD,AA _ hlt,AA _ hlp,DTask.o_eq w.tasks[n]]
 repeat (refine AAR ?_; simp only[go_sem,ae,bi,aN,bz,bV,Ry,ax,hlt,hlp,hld,ACH,ay,hsp,h40,bD,AA _ hlt,AA _ hlp,DTask.o_eq w.tasks[n]])
 exact⟨rfl,rfl⟩):p:=h
theorem AMz(h:p:=by
 refine AAN _ hg2 fun _=>?_
 have hl2:l.length+1≤2147483648:=by omega
 simp only[go_sem,hl2,wrap_i64 (n:=(i:Int)+1) (by omega) (by omega)]
 exact⟨(i+1,q2,l ++ [n]),AAQ [(3,false)] ⟨rfl,rfl,Nz l n,trivial⟩ (by rw[Gw]; rfl),⟨hi',by simp; omega,by rw[← hb2,aa6]; congr 1; funext y; simp⟩,by simp only; omega⟩):p:=h
theorem AM0(h:p:=by
 have hj':j=W:=by simp at h2; omega
 subst hj'
 have hol2:i+1≤2147483648:=by omega
 simp only[go_sem,ae,ADF,aW,bn,hol2,ak,wrap_i64 (n:=(i:Int)+1) (by omega) (by omega)]
 exact⟨i+1,AAQ [(2,false)] ⟨rfl,rfl,by rw[← hsucc]; exact AP (fun _=>rfl),trivial⟩ (by rw[← hsucc]; rfl),hi',by omega⟩):p:=h
theorem AM1(h:p:=by simp[AC,JH,NW,H8,DPred.kind,DPred.col,DPred.op,DPred.v,DPred.l]):p:=h
theorem AM2(h:p:=by
 have hk':k=l.length:=by simp at h; omega
 subst hk'
 simp only[go_sem,wrap_i64 (n:=(i:Int)+1) (by omega) (by omega)]
 refine⟨i+1,⟨rfl,rfl⟩,rfl,⟨by omega,fun i' k' hi2 hk2 hlt=>?_⟩,by omega⟩
 by_cases e:i'=i
 ·subst e; exact hg k' hk2 hk2
 ·exact hf i' k' hi2 hk2 (by omega)):p:=h
theorem AM3(h:p:=by
 simp[AC]
 try first | rfl | simp only[go_sem]):p:=h
theorem AM4(h:p:=by
 subst hj'
 simp only[go_sem,F8,wrap_i64 (n:=(i:Int)+1) (by omega) (by omega)]
 exact⟨(i+1,out++List.replicate j r[i].1),AAQ [(0,false)] ⟨rfl,rfl,RI _,trivial⟩ rfl,⟨hi',by simp; omega,by
  rw[← hp,aa6,aN,aap]; congr 1; funext y; simp⟩,by simp only; omega⟩):p:=h
theorem AM5(h:p:=by simp only[go_sem,Dt]):p:=h
theorem AM6(h:p:=by
 cases c with
 | ow ty sz xs=>exact hc
 | v y=>exact hkr (.v y) u hc
 | sl y=>exact hkr (.sl y) u hc
 | ref y=>exact hkr (.ref y) u hc):p:=h
theorem ANX(h:p:=by
 have key:∀ m,m≤ops.size→Bi ops R env (fun _=>true) m=Bi ops R env (fun i=>listed.getD i false) m:=by
  intro m
  induction m with
  | zero=>intro _; rfl
  | succ m ih=>intro hm; simp only[Bi,ih (by omega),hl m (by omega)]
 rw[key ops.size (aI _)]):p:=h
theorem ANZ(h:p:=by
 rcases h1:F_ a.rows b.rows with _ | _
 ·simp only[go_sem,GN,h1,ag]
 rcases h2:a.n==b.n with _ | _
 ·simp only[go_sem,GN,h1,h2,ag,aK]
 rcases h3:a.has==b.has with _ | _
 ·simp only[go_sem,GN,h1,h2,h3,ag,aK]
 ·simp only[go_sem,GN,h1,h2,h3,Dx,G9,LG]):p:=h
theorem ANe(h:p:=by
 rw[ea] at hcall
 refine hcall.mono fun e w' hb=>?_
 obtain⟨us,bs,St2,hb⟩:=hb
 obtain⟨β',k1,k2⟩:=jC q1 hb
 have hwf:lm rs:=by
  obtain⟨Φs,hr,_⟩:=hb.res
  exact hr.wf
 have e1:=hb.ret
 subst e1
 exact⟨_,hK hwf,ZW _ _ _,St2,β',k1.put o.dst (PL k2)⟩):p:=h
theorem ANf(h:p:=by
 have hyes:l[k].id<r.id:=by simpa using e2
 simp only[go_sem,ae,e1]
 refine AAO ?_
 simp only[go_sem,ae,AA _ hk',hk',e1,e2,wrap_i64 (n:=(k:Int)+1) (by omega) (by omega)]
 exact⟨k+1,⟨rfl,rfl⟩,rfl,⟨by omega,fun j hj hjk=>by
  grind⟩,by omega⟩):p:=h
theorem ANh(h:p:=by
 have h7':c≥128:=by simp at h7; omega
 rw[bG h7'] at hg
 simp only[go_sem,h7,hwi]
 exact⟨(i+1,x+c%128*128 ^ i),⟨rfl,rfl⟩,rfl,⟨by simp only; omega,by simp only; omega,hP2,by rw[show 5-(i+1)=4-i by omega]; exact hg⟩,by simp only; omega⟩):p:=h
theorem ANi(h:p:=by
 have hk':k<xs.length:=by simpa using h
 simp only[go_sem]
 refine AAO ?_
 simp only[go_sem,ae,ax,aB,AA _ hk',hk',wrap_i64 (n:=(k:Int)+1) (by omega) (by omega)]
 exact⟨k+1,⟨rfl,rfl⟩,rfl,by omega,by first | omega | (simp only; omega)⟩):p:=h
theorem ANy(h:p:=by
 rcases h2:Ad l[k] 0 e with _ | _
 ·simp only[go_sem,h2,Pn,BP (p:=TS e) hk' (by simp[TS,h1,h2])]
 ·simp only[go_sem,h2,wrap_i64 (n:=(k:Int)+1) (by omega) (by omega)]
  exact⟨k+1,⟨rfl,rfl⟩,rfl,Bv hk' hk (by simp[TS,h1,h2]),by omega⟩):p:=h
theorem AN2(h:p:=by
 have hn':n=8*b.length:=by simp at h2; omega
 subst hn'
 have:unpack b W i=some (vJ b W i):=by
  unfold unpack
  rw[bG ⟨⟨hw0,hk0,hlen⟩,fun n hn h=>hz n (by omega) (abJ.1 hn)⟩]
  simp only[YM,vJ]
 rw[this]
 simp only[go_sem,eP,AX]
 grind):p:=h
theorem AN4(h:p:=by
 simp only[Op.operands,Call.operands,aaX,lM,az] at hc
 exact hc.2):p:=h
theorem AN5(h:p:=by
 rcases h2:LG d[i] v with _ | _
 ·simp only[h2,ay,aY] at hp
  simp only[go_sem,h2,wrap_i64 (n:=(i:Int)+1) (by omega) (by omega)]
  exact⟨i+1,⟨rfl,rfl⟩,rfl,⟨hi',hp⟩,by omega⟩
 ·simp only[h2,bH] at hp
  rw[← hp]
  simp only[go_sem,h2]):p:=h
theorem AN6(h:p:=by
 rw[h3] at hn
 simp only[go_sem,AA _ hi',hi',hk1,h3]
 try refine AAO ?_
 try simp only[go_sem,AA _ hi',hi',hk1,h3]
 simp only[go_sem,wrap_i64 (n:=(i3:Int)+1) (by omega) (by omega)]
 exact⟨i3+1,⟨rfl,rfl⟩,by rw[hn]; rfl,hi',by omega⟩):p:=h
theorem AN9(h:p:=by
 simp only[go_sem,h1,h2,wrap_i64 (n:=(i:Int)+1) (by omega) (by omega)]
 exact⟨i+1,⟨rfl,rfl⟩,rfl,⟨hi',fun m h3 h4=>by
  by_cases e:m=i
  ·subst e; simp[Ad] at h1; simp at h2; exact⟨h1,h2⟩
  ·exact hb m h3 (by omega)⟩,by omega⟩):p:=h
theorem AOA(h:p:=by
 rw[h3] at hn
 simp only[go_sem,AA _ hi',hi',h3]
 try refine AAO ?_
 try simp only[go_sem,AA _ hi',hi',h3]
 simp only[go_sem,wrap_i64 (n:=(i2:Int)+1) (by omega) (by omega)]
 exact⟨i2+1,⟨rfl,rfl⟩,by rw[hn]; rfl,hi',by omega⟩):p:=h
theorem AOB(h:p:=by
 obtain⟨v1,v2⟩:=tZ (P:=P) (Q:=Q) hok d1 p1 g1 hne L (Array.replicate l.toArray.size false) (Array.replicate (Ij σ1 e1 e2 l).toArray.size false) (by simp) (by rw[jH p1]; simp) (fun i hi=>by grind) hv (.inr hb)
 grind):p:=h
theorem AOC(h:p:=by exact⟨i2+1,⟨rfl,rfl⟩,by rw[hn]; rfl,hi',by omega⟩):p:=h
theorem AOD(h:p:=by exact⟨i3+1,⟨rfl,rfl⟩,by rw[hn]; rfl,hi',by omega⟩):p:=h
theorem AOE(h:p:=by
 unfold Am
 have:=Ae (f:=DRow.o) ((ids.take i).map fun n=>(⟨n,[]⟩:DRow)) ⟨ids[i],[]⟩
 rw[show ((ids.take i).map fun n=>(⟨n,[]⟩:DRow)).length=i by simp; omega] at this
 rw[this,Lh (fun n=>(⟨n,[]⟩:DRow)) hi']
 rfl):p:=h
theorem AOG(h:p:=by simp only[go_sem,ax,aB]):p:=h
theorem AOH(h:p:=by simp only[go_sem,h1,ag]):p:=h
theorem AOI(h:p:=by
 by_cases hids:ids = []
 ·have hx:=hemp hids
  simp only[bU] at hx
  obtain⟨_,hp0,hc0⟩:=hx
  rw[hc0,hp0]; exact bG hids
 ·have hne:=hne hids
  rw[hk',aJ,He] at hne
  simp only[dm,bK] at hne
  rw[hne]; exact bu hids):p:=h
theorem AOJ(h:p:=by exact⟨_,_,_,St,β',hexec _ _ hr,.inl rfl,g1,g2⟩):p:=h
theorem AOK(h:p:=by
 have hr:Ah cs q=((q.col==0)&&((q.out.length:Int)==0)):=by simp[Ah,h1,k1,k2]
 rw[hr]
 rcases hA:(q.col==0) with _ | _
 ·simp only[go_sem,ae,h1,c1,k1,k2,hA,ag]
 ·simp only[go_sem,ae,h1,c1,k1,k2,hA,ah]):p:=h
theorem AOL(h:p:=by exact RdCs.glue (o:=0) (n:=1) r0 rfl (RdCs.glue (o:=1) (n:=1) r1 rfl (RdCs.last (o:=2) (n:=1) r2 hl))):p:=h
theorem AOM(h:p:=by
 cases x with
 | v y=>simp only[RdC,RdD] at h; grind [ACj]
 | sl xs=>simp only[RdC,RdD] at h; obtain⟨a,cap,rfl,_⟩:=h; rfl
 | ref l=>simp only[RdC,BZ] at h; grind
 | ow ty sz xs=>simp[RdC,RdD] at h):p:=h
theorem AON(h:p:=by
 have hk':k=(meant q l).length:=by simp at h; omega
 subst hk'
 rw[aJ] at hb
 have:out=(meant q l).map fun r=>QT r q.out:=by simpa using hb
 subst this
 simp only[go_sem,AO]
 try simp[OwnL,AC,zeroV]):p:=h
theorem AOO(h:p:=by
 simp only[go_sem,AO]
 try simp):p:=h
theorem AOP(h:p:=by
 intro i hi
 have h0:listed.toList.countP (fun b=>!b)=0:=by omega
 rw[List.countP_eq_zero] at h0
 have hi':i<listed.size:=by omega
 have:=h0 listed[i] (by simp)
 simp[hi'] at this ⊢
 exact this):p:=h
theorem AOQ(h:p:=by exact RdCs.glue (o:=0) (n:=1) r0 rfl (RdCs.last (o:=1) (n:=1) r1 hl)):p:=h
theorem AOR(h:p:=by
 have hi':i=l.length:=by simp at h; omega
 subst hi'
 have:typeOf l=l[0].ty:=Ui hlen.1 hlen.2 fun v hv=>by
  obtain⟨m,hm,rfl⟩:=aaT hv
  exact hb m hm hm
 rw[this]
 simp only[go_sem,ae,AA _ h0]):p:=h
theorem AOS(h:p:=by
 have:typeOf l=0:=by
  cases l with
  | nil=>rfl
  | cons v r =>
   show (if(v::r).length≤64∧_ then v.ty else 0)=0
   rw[bu]
   rintro⟨q,_⟩
   simp[Ad] at h1 q; omega
 simp only[go_sem,h1,this]):p:=h
theorem AOT(h:p:=by
 have h1:meant q l=meant q (l.take k)++meant q (l.drop k):=by unfold meant; rw[← List.filter_append,aas]
 rw[List.append_cancel_right (hb.trans h1)]
 exact aba (aaJ _ _) (by simp; omega)):p:=h
theorem AOU(h:p:=by
 have hk':k=(Dp (meant q l) q.col).length:=by simp at h; omega
 subst hk'
 rw[aJ] at hb
 have:n=AAW (Dp (meant q l) q.col):=by simpa using hb
 subst this
 simp only[go_sem,zeroV]
 try simp):p:=h
theorem AOV(h:p:=by exact⟨[.ref 0],[.ow 3 1 _],[],rfl,.inr rfl,⟨rfl,rfl,rfl,rfl,FW _,by simp,trivial⟩,by simp only[EP,Hr,aF]; exact Il fun x hx=>by obtain⟨y,_,rfl⟩:=UT.1 hx; rfl,rfl,rfl,_,rfl,rfl,hM⟩):p:=h
theorem AOW(h:p:=by
 refine AEH (fun e1=>?_) (fun e1=>?_)
 ·simp only[go_sem,e1]
  refine AEH (fun e2=>?_) (fun e2=>?_)<;>simp only[go_sem,e1,e2]<;>rw[← hfin',e1,e2]<;>simp
 ·simp only[go_sem,e1]
  grind):p:=h
theorem AOX(h:p:=by
 rw[aaS] at hk
 rcases bZ k (ob.xs.length*n) with h' | h'
 ·grind
 ·rw[bf (by omega),hxfl] at hk
  rw[bf (by omega),holdl]
  obtain⟨u,u1,u2⟩:=n3 _ c hk
  exact⟨u,u1,(hkr _ _ u2).toB⟩):p:=h
theorem AOY(h:p:=by rw[BR (X:=fun j=>if i=j then true else listed.getD j false) ops.size (fun k _ hk=>(hj ⟨k,hk⟩).elim),BR (X:=fun j=>listed.getD j false) ops.size (fun k _ hk=>(hj ⟨k,hk⟩).elim)]):p:=h
theorem AOZ(h:p:=by exact⟨[.ref 0],[.ow 3 1 _],[],rfl,.inr rfl,⟨rfl,rfl,rfl,rfl,FW _,by simp,trivial⟩,by simp only[EP,Hr,aF]; exact Il fun x hx=>by obtain⟨y,_,rfl⟩:=UT.1 hx; rfl,rfl,rfl,rfl,rfl⟩):p:=h
theorem AOa(h:p:=by
 rw[Kt,h3,h4,g4,h5,h6] at hb
 simp only[aF,ah,aO,aH,ag,aK] at hb
 simp only[go_sem,h6,wrap_i64 (n:=(k:Int)+1) (by omega) (by omega)]
 exact⟨k+1,⟨rfl,rfl⟩,rfl,⟨hk',hb⟩,by omega⟩):p:=h
theorem AOb(h:p:=by
 exact⟨(i+1,out ++ [d[p]]),AAQ [(2,false)] ⟨rfl,rfl,Nz _ _,trivial⟩ (by rw[Gw]; rfl),⟨hi',by simp; omega,by
  rw[← hp,aa6]; congr 1; funext y; simp⟩,by simp only; omega⟩):p:=h
theorem AOc(h:p:=by simp[AC,JH,NW,DPred.kind,DPred.col,DPred.op,DPred.v,DPred.l]):p:=h
theorem AOd(h:p:=by exact⟨(k+1,out),AAQ [(0,false)] ⟨rfl,rfl,AP DVal.pure,trivial⟩ rfl,⟨hk',hb⟩,by omega⟩):p:=h
theorem AOe(h:p:=by cases o.dst<;>simp[MS.put]; split<;>rfl):p:=h
theorem AOf(h:p:=by
 obtain⟨t,hh,hq⟩:=hq
 obtain⟨St1,β1,hc1⟩:=hs'
 obtain⟨St2,β2,hc2⟩:=hh.2 _ _ _ _ _ _ hc1
 obtain⟨us,bs,St',p1,p2,p3⟩:=dW ⟨St2,β2,hc2⟩ hq
 exact⟨p2,_,p1,us,bs,St',p3⟩):p:=h
theorem AOg(h:p:=by
 refine AAN _ (Dv ⟨2,0,ByteArray.empty⟩) fun _=>?_
 have e7:((0:Int)==0)=true:=rfl
 rcases hv:BO ⟨2,0,ByteArray.empty⟩ with _ | _<;>simp only[go_sem,hv,e7,kL,Rq]):p:=h
theorem AOh(h:p:=by
 simp only[go_sem,q1,q2,q3,q4,wrap_i64 (n:=(j:Int)+1) (by omega) (by omega)]
 exact⟨j+1,⟨rfl,rfl⟩,rfl,Bv hj' hj (by simp only[deed1,q1,q2,q3,q4]; rfl),by omega⟩):p:=h
theorem AOi(h:p:=by cases k<;>simp[IntKind.min,IntKind.max,IntKind.bits,IntKind.signed] at * <;> omega):p:=h
theorem AOj(h:p:=by
 obtain⟨a0,h1,e0⟩:=Aa h0
 obtain⟨g0,b0⟩:=C9 a0 (by omega)
 exact⟨g0,by rw[e0]; omega⟩):p:=h
theorem AOk(h:p:=by
 simp only[go_sem,q2,Jd,aB,ax,Ag,Int.reduceAdd,wz (n:=k1+1),wz (n:=(i:Int)+1)]
 refine⟨(i+1,k1+1),⟨rfl,rfl⟩,rfl,hP.step hi Jt, ?mu⟩
 case mu=>simp only; omega):p:=h
theorem AOl(h:p:=by
 cases hq:s.st[l']? with
 | none=>grind
 | some o2 =>
  grind):p:=h
theorem AOm(h:p:=by
 have h6':¬ m+i<b.length:=by simp at h6; omega
 rw[aaq (by omega)] at hg
 simp only[go_sem,ae,h5,h6,hw1,hw2]
 simp only at hg
 rw[← hg]
 simp only[go_sem,Xn]):p:=h
theorem AOn(h:p:=by
 have e1:decide ((m:Int)≥(w.deeds.length:Int))=true:=by simp; omega
 rw[aaq hml]
 simp only[go_sem,hm,e1]
 try refine AAO ?_
 try simp only[go_sem,hm,e1]):p:=h
theorem AOo(h:p:=by
 have hk':k=l.length:=by simp at h; omega
 subst hk'
 rw[aJ] at hb
 have:out=kept w l ts:=by simpa [kept] using hb
 subst this
 simp only[go_sem,AO]
 simp):p:=h
theorem AOp(h:p:=by
 refine⟨_,_,w,St,_,hexec _ _ hrun,.inl rfl,a1, ?_⟩
 rw[← hkl]
 exact Oh (b:=some b0) rfl (by simp) fun _=>⟨cap,cs,by simp,by grind,c2,by grind,hcap⟩):p:=h
theorem AOq(h:p:=by
 have hk':k=l.length:=by simp at h; omega
 subst hk'
 rw[aJ] at hb
 have:out=Dp l n:=by simpa [Dp] using hb
 subst this
 simp only[go_sem,BH]
 try simp):p:=h
theorem AOr(h:p:=by
 rcases hsplit l o2 hl with ⟨h1,h2⟩ | ⟨rfl,rfl⟩
 ·have hne:¬ l=s.st.length:=by omega
  simp only[hne,aY] at hβ
  exact h.nil l o2 h2 hlive hβ
 grind):p:=h
theorem AOs(h:p:=by
 have hk':k=l.length:=by simp at h; omega
 subst hk'
 rw[aJ] at hf
 have hn:GX l n=none:=by rw[← hf]; rfl
 simp only[go_sem,hn,SK,SI,aQ]
 trace_state):p:=h
theorem AOt(h:p:=by
 have g6:(t.l[0].kind != 1)=true:=by simp[bne,h6]
 simp only[go_sem,g5,g6,AA _ h0,h0,ag]
 try refine AAO ?_
 try simp only[go_sem,g5,g6,AA _ h0,h0]):p:=h
theorem AOu(h:p:=by
 have e1:¬ l1=s.st.length:=by omega
 have e2:¬ l2=s.st.length:=by omega
 simp only[e1,e2,aY] at h5 h6
 exact h.inj l1 l2 o1 o2 b p2 q2 h3 h4 h5 h6):p:=h
theorem AOv(h:p:=by
 simp only[go_sem,h1,g1,h2,wrap_i64 (n:=(k:Int)+1) (by omega) (by omega)]
 exact⟨k+1,⟨rfl,rfl⟩,rfl,PU hk' hk (by rw[hp,h1,g1,h2]; rfl),by omega⟩):p:=h
theorem AOw(h:p:=by
 have:unpack b w k=none:=by unfold unpack; rw[bu]; rintro⟨⟨q1,q2,_⟩,_⟩; simp[Ad] at h2; omega
 rw[this]
 simp only[go_sem,h1,h2,eP]
 try simp[D7]):p:=h
theorem AOx(h:p:=by exact⟨k+1,⟨rfl,rfl⟩,rfl,⟨hk',hb⟩,by omega⟩):p:=h
theorem AOy(h:p:=by
 simp only[go_sem,AA _ hk',hk',h1,wrap_i64 (n:=(k:Int)+1) (by omega) (by omega)]
 exact⟨k+1,⟨rfl,rfl⟩,rfl,Bv hk' hk (by simp[TS,h1]),by omega⟩):p:=h
theorem AOz(h:p:=by
 have hl3:(FX (Cc l)).length+1+(Eo (offsets l) (DI (offsets l))).length≤2147483648:=by omega
 simp only[go_sem,hl3,Gg]
 try simp[OwnL,AC,byteC]):p:=h
theorem AO0(h:p:=by
 have:=k2 (.c c) u (by simpa only[AVR] using hc)
 simpa only[AVR] using this):p:=h
theorem AO1(h:p:=by
 have:unpack b w k=none:=by unfold unpack; rw[bu]; rintro⟨⟨q1,q2,_⟩,_⟩; simp[Ad] at h1; omega
 rw[this]
 simp only[go_sem,h1,eP]
 try simp[D7]):p:=h
theorem AO2(h:p:=by
 have:unpack b w k=none:=by unfold unpack; rw[bu]; rintro⟨⟨_,_,q⟩,_⟩; simp[q] at h3
 rw[this]
 simp only[go_sem,h1,h2,h3,ae,eP]
 try simp[D7]):p:=h
theorem AO3(h:p:=by
 simp only[go_sem,h14,wrap_i64 (n:=(k:Int)+1) (by omega) (by omega)]
 exact⟨k+1,⟨rfl,rfl⟩,rfl,PU hk' hk (by rw[e1]; exact h14),by omega⟩):p:=h
theorem AO4(h:p:=by
 have hk':k=l.length:=by simp at h; omega
 subst hk'
 rw[aJ] at hb
 have:out=l:=by simpa using hb
 subst this
 simp only[go_sem,D5]
 try simp):p:=h
theorem AO5(h:p:=by
 rw[aa2] at hj
 split at hj
 ·rw[addr_add,World.cell?,c3]
  grind
 ·cases hj):p:=h
theorem AO6(h:p:=by
 rw[RU hi' (fun q=>by have:=q.2; simp at h3; omega)]
 simp only[go_sem,AA _ hi',h2,h3,wrap_i64 (n:=base+l[i]) (by omega) (by omega),Dt]):p:=h
theorem AO7(h:p:=by
 intro l
 induction l with
 | nil=>intro _; rfl
 | cons p l ih=>intro hl; simp only[JC,hl p (by simp),ih (fun q hq=>hl q (by simp[hq]))]):p:=h
theorem AO8(h:p:=by
 have h2:=congrArg List.length hb
 simp at h2; omega):p:=h
theorem AO9(h:p:=by
 induction m with
 | zero=>intro _; rfl
 | succ m ih =>
  intro hm
  have hmk:m<k:=by omega
  simp only[Bi,ih (by omega),hmk,decide_true]):p:=h
theorem AO_(h:p:=by
 have h1:SizeOf.sizeOf x<SizeOf.sizeOf d.l:=aao hx
 have h2:SizeOf.sizeOf d.l<SizeOf.sizeOf d:=by cases d; simp[DPred.l]; omega
 omega):p:=h
theorem APA(h:p:=by rw[Po,jv .i64 hx0 (by rw[← Po]; exact hx1) (by omega) (by rw[← Po]; simp[IntKind.bits]; omega),← Po,wrap_i64 (by omega) (by omega)]):p:=h
theorem APB(h:p:=by
 apply List.ext_getElem
 ·simp
 ·intro i h1 h2
  simp at h1 h2 ⊢
  simp[h2]):p:=h
theorem APC(h:p:=by
 obtain⟨o3,r1,r2,r3⟩:=IM h2
 by_cases e2:l=l'
 ·grind
 ·have:=r3 e2
  subst this
  exact e2 (h.inj l l' ob o2 b0 hl r1 hlive hl2 hβ hb2)):p:=h
theorem APD(h:p:=by
 simp only[go_sem,wrap_i64 (n:=(i:Int)+1) (by omega) (by omega)]
 exact⟨i+1,AAQ [(2,false)] ⟨rfl,rfl,FN _,trivial⟩ rfl,hi',by omega⟩):p:=h
theorem APE(h:p:=by
 refine AAN _ (AQ q.col 0 _) fun _=>?_
 rcases c1:Ad q.col 0 ((cs.length:Int)-1) with _ | _
 all_goals simp only[go_sem,ae,c1,ag,ah]):p:=h
theorem APF(h:p:=by
 simp only[go_sem,AA _ hi',h2,h3,wrap_i64 (n:=(i:Int)+1) (by omega) (by omega)]
 exact⟨i+1,⟨rfl,rfl⟩,by rw[e]; rfl,hi',by omega⟩):p:=h
theorem APG(h:p:=by
 intro v w' hr
 simp[execOp,ho,resolve,hcl,ha1,ha2,invoke,builtin,hr]):p:=h
theorem APH(h:p:=by
 simp only[go_sem,e3,e4,wrap_i64 (n:=(j:Int)+1) (by omega) (by omega)]
 exact⟨j+1,⟨rfl,all1 (AU (AX _))⟩,rfl,by omega,by omega⟩):p:=h
theorem API(h:p:=by
 have h0:0<l.length:=by omega
 obtain⟨_,x,hx,e2⟩:=Yn (aj h0)
 have:=eU (q3 x hx).1 ((q3 x hx).2.trans h1')
 rw[EF,e2]; exact this):p:=h
theorem APJ(h:p:=by
 simp only[ai,bU] at hf
 obtain⟨rfl,rfl⟩:=hf
 exact⟨St,h,fun _ _ h=>h,fun _ _ h=>h,fun u hu=>by simp only[AVR] at hu; exact hu⟩):p:=h
theorem APK(h:p:=by
 refine⟨k+1,⟨rfl,rfl⟩,rfl,⟨by omega,by omega,fun i hi hik=>?_⟩,by omega⟩
 by_cases e:i=k
 ·subst e; simp only[Z7]; grind
 grind):p:=h
theorem APL(h:p:=by
 obtain⟨x,_,rfl⟩:=UT.1 hr
 rfl):p:=h
theorem APM(h:p:=by
 have h1:=EJ x.2
 have h2:=Xt (q3 _ hx'.1).1
 simp only[Yl,aN]; omega):p:=h
theorem APN(h:p:=by
 have ha:answer q l=⟨[],0,false,zeroV⟩:=by simp[answer,k1,k2,k3,k4,k5]
 simp only[go_sem,ae,k1,k2,k3,k4,k5,ha,zeroV]
 try simp):p:=h
theorem APO(h:p:=by
 have ha:answer q l=⟨[],(meant q l).length,false,zeroV⟩:=by simp[answer,k1,k2]
 simp only[go_sem,ae,k1,k2,ha,zeroV]
 try simp):p:=h
theorem APP(h:p:=by
 unfold Fb
 rw[bu (by omega)]
 have q1:((m:Int)/8).toNat=m/8:=by omega
 have q2:((m:Int)%8).toNat=m%8:=by omega
 rw[q1,q2]
 rfl):p:=h
theorem APQ(h:p:=by
 rw[BM (D5 w.b)]
 exact AFI rfl rfl rfl (AU (AX _)) (AU (E_ _)) (AU (D5 _)) (AU (AX _)) (AU (Jo _)) (AU (AX _)) (AU (GU _))):p:=h
theorem APR(h:p:=by simp only[go_sem,Xn]):p:=h
theorem APS(h:p:=by
 intro l i off u hu
 have hl:=ABV hu
 have hne:¬ l=s.st.length:=by omega
 simp only[AVR,hold l hl,hne,aY] at hu ⊢
 exact hu):p:=h
theorem APT(h:p:=by
 unfold dA
 by_cases h2:x+c%128*128 ^ i>2000000000
 ·rw[bG h2,bu (by simp[Ad]; omega)]
 ·rw[bu h2,bG (by simp[Ad]; omega)]):p:=h
theorem APU(h:p:=by
 refine⟨β',h1,Oh rfl h2 fun _=>⟨cap,_,rfl,hcap,hcm,Eu w _, ?_⟩⟩
 simp only[Array.size_append,abx,hvl,hrest,← sD]
 grind):p:=h
theorem APV(h:p:=by
 simp only[go_sem,h5,wrap_i64 (n:=(j:Int)+1) (by omega) (by omega)]
 exact⟨j+1,⟨rfl,rfl⟩,rfl,Bv hj' hj h5,by omega⟩):p:=h
theorem APW(h:p:=by
 have hi':i=l.length:=by simp at h; omega
 subst hi'
 simp only[go_sem]
 rw[← iJ fun i' k' h1 h2=>hf i' k' h1 h2 h1]):p:=h
theorem APX(h:p:=by
 have he:=CX h x (by simpa [Op.operands] using hc)
 simp only[JJ,ai] at hy; subst hy
 exact⟨_,by simp[execOp],he⟩):p:=h
theorem APY(h:p:=by
 obtain⟨p1,q1,r1⟩:=key l o1 h1 h3
 obtain⟨p2,q2,r2⟩:=key l' o2 h2 h4
 exact h.inj l l' p1 p2 b q1 q2 r1 r2 h5 h6):p:=h
theorem APZ(h:p:=by simp only[go_sem,holds1,h1,h2,h3,h4,h5,h6]):p:=h
theorem APa(h:p:=by exact⟨i+1,AAQ [(3,false)] ⟨rfl,rfl,by rw[← Gv]; exact CB _,trivial⟩ (by rw[Lh _ hi',Gv]; rfl),hi',by omega⟩):p:=h
theorem APb(h:p:=by
 simp only[Result.andThen_ok,Sem.run_pure]
 congr 1
 match rv with
 | []=>rfl
 | [u]=>rfl
 | u::u2::us=>simp[YT]):p:=h
theorem APc(h:p:=by
 simp only[go_sem]
 refine AEH (fun h=>?_) (fun h=>?_)<;>simp only[go_sem,h]<;>simp at h<;>simp[Ad]<;>omega):p:=h
theorem APd(h:p:=by simp only[go_sem,ae,h1,c1,k1,k2,k3,k4,k5]):p:=h
theorem APe(h:p:=by
 cases hq:s.st[l]? with
 | none=>grind
 | some o2 =>
  grind):p:=h
theorem APf(h:p:=by
 obtain⟨a0,h1,e0⟩:=Aa h0
 obtain⟨g0,b0⟩:=Dk d.l (fun x _=>DL x) a0 (by omega)
 exact⟨g0,by rw[e0]; omega⟩):p:=h
theorem APg(h:p:=by
 have hi':i=d.length:=by simp at h; omega
 subst hi'
 rw[aJ] at hp
 rw[← hp]
 simp only[go_sem,placeOf,aaF]):p:=h
theorem APh(h:p:=by
 have hk':k<ys.flatten.length:=by rw[← n1]; exact(aP.1 hk).1
 obtain⟨u,u1,u2,u3⟩:=n2 k _ (aC hk')
 grind):p:=h
theorem APi(h:p:=by
 rw[← hb] at h1
 simp at h1; omega):p:=h
theorem APj(h:p:=by
 have:f=0∨f=1∨f=2∨f=3∨f=4:=by omega
 rcases this with rfl | rfl | rfl | rfl | rfl<;>simp at hx1<;>omega):p:=h
theorem APk(h:p:=by
 simp only[go_sem]
 rcases h1:a.ret != -1 with _ | _<;>simp only[go_sem,h1]<;>simp only[ahead,h1,ag,ah]):p:=h
theorem APl(h:p:=by
 simp only[bH,hj,ai] at hk
 subst hk
 exact⟨_,h,fun u hu=>hr _ u (h2 u hu),fun hc=>by simp[G7] at hc⟩):p:=h
theorem APm(h:p:=by rcases h1:a.ty != b.ty with _ | _<;>rcases h2:a.n != b.n with _ | _<;>simp only[go_sem,h1,h2,Dj]):p:=h
theorem APn(h:p:=by rw[jv .i64 hbd.1 hbd.2 h01.1 (by simp[IntKind.bits]; omega),wrap_i64 (by omega) (by omega)]; rfl):p:=h
theorem APo(h:p:=by
 have hne:¬ l=s.st.length:=by omega
 simp only[hne,aY] at hβ
 exact h.sep l o2 b o h2 hlive hβ hbo):p:=h
theorem APp(h:p:=by
 have hi':i=l.length:=by simp at h; omega
 subst hi'
 rw[aJ] at hb
 simp only[go_sem]
 rw[← hb]; rfl):p:=h
theorem APq(h:p:=by
 have hk':k=vs.length:=by simp at h; omega
 subst hk'
 simp only[go_sem]
 rw[← hf,aJ,← he,aJ]; rfl):p:=h
theorem APr(h:p:=by
 obtain⟨j,hj,rfl⟩:=aaT hx
 exact(hp.lt j _ (aC hj)).1):p:=h
theorem APs(h:p:=by simp only[go_sem,h2,Dt]):p:=h
theorem APt(h:p:=by
 rw[dh]
 refine aS.2 fun y hy=>?_
 rcases abd hy with hy | rfl
 ·exact aS.1 (Bc (AO _)) y hy
 ·rfl):p:=h
theorem APu(h:p:=by
 have g0:((w.b.length:Int) != w.c0.bufs)=true:=by simp only[bne,h0,aH]
 simp only[go_sem,g0,ag]):p:=h
theorem APv(h:p:=by
 split at h3
 ·rename_i y st' he
  refine⟨y,st', ?_,h3⟩
  simp only[FM]
  exact he
 ·exact h3.elim):p:=h
theorem APw(h:p:=by
 have:¬ (0≤k∧k≤64):=by simp[Ad] at h2; omega
 simp only[go_sem,Fg,h1,dC,h2,this]
 try simp[D7]):p:=h
theorem APx(h:p:=by exact⟨j+1+1,AAQ [(0,false)] ⟨rfl,rfl,ADI _ _ _ _,trivial⟩ (by rw[hs,uV]; rfl),hi',by omega⟩):p:=h
theorem APy(h:p:=by
 rw[show ((ids.take i).map fun n=>(⟨n,[]⟩:DRow)).length=i by simp; omega] at this
 exact this):p:=h
theorem APz(h:p:=by simp[execOp,ho,resolve,hcl,ha1,ha2,invoke,builtin,Builtin.len_,run_underlying hu,hv,goInt]):p:=h
theorem AP0(h:p:=by
 obtain⟨a1,h2,e1⟩:=Aa h1
 obtain⟨g1,b1⟩:=C9 a1 (by omega)
 exact⟨⟨g0,g1⟩,by rw[e0,e1]; omega⟩):p:=h
theorem AP1(h:p:=by
 simp only[go_sem]
 refine AEH (fun h=>?_) (fun h=>?_)<;>simp only[go_sem,h]<;>simp_all [BO]):p:=h
theorem AP2(h:p:=by
 have h1:(FX n).length≤5:=eF 4 _
 have h2:=congrArg List.length hb
 simp only[aN] at h2
 omega):p:=h
theorem AP3(h:p:=by
 have h1':typeOf l=0:=by simpa using h1
 have e:BF l = -1:=bG h1'
 rw[e]
 simp only[go_sem,h1]):p:=h
theorem AP4(h:p:=by
 have hk':k=w.d.l.length:=by have:=hk.1; simp at h; omega
 subst hk'
 simp only[go_sem,DR hk]):p:=h
theorem AP5(h:p:=by
 by_cases e:l=l'
 ·grind
 ·grind):p:=h
theorem AP6(h:p:=by
 have hk':k=l.length:=by have:=hk.1; simp at h; omega
 subst hk'
 simp only[go_sem,Pn,DR hk]):p:=h
theorem AP7(h:p:=by
 simp only[go_sem,hl2,hl3,Gg]
 try simp[OwnL,AC,byteC,hl2,hl3]
 exact CE (BF l::EU (BF l) l)):p:=h
theorem AP8(h:p:=by
 have:i=0∨i=1∨i=2∨i=3∨i=4:=by omega
 rcases this with rfl | rfl | rfl | rfl | rfl<;>decide):p:=h
theorem AP9(h:p:=by
 unfold GL at hlen
 rw[bG ⟨hk0,hw0⟩] at hlen
 have:(K:Int)*W=((K*W:Nat):Int):=by simp
 omega):p:=h
theorem AP_(h:p:=by exact RdD.mono (fun b o hbo=>.inl hbo) (fun _ _ _=>rfl) _ _ (XA hpc (hc.toC (MV hpc)))):p:=h
theorem AQA(h:p:=by
 cases hq:st[l']? with
 | none=>grind
 | some ob =>
  simp only[hq] at h
  rw[PM hq]
  grind):p:=h
theorem AQB(h:p:=by
 simp only[TP] at hv
 obtain⟨st',St',r1,r2,r3,r4,r5⟩:=XY xs rs us' st St K h h2 hv
 grind):p:=h
theorem AQC(h:p:=by
 have g3:(p.op != q.op)=true:=by simp[bne,h3]
 simp only[go_sem,h1,g1,h2,g2,h3,g3,ag,ah]):p:=h
theorem AQD(h:p:=by
 obtain⟨cl',rs,rv,p0,p1,p2,G',p3⟩:=y7 hgu hs' hq
 exact⟨p2,_,p1,cl',rs,rv,G',p0,rfl,p3⟩):p:=h
theorem AQE(h:p:=by
 rw[← EZ g2]
 rcases bZ (i*ob.sz+j) ob.xs.flatten.length with h' | h'
 ·exact h'
 ·grind):p:=h
theorem AQF(h:p:=by simp[DataW.trod,ht] at h):p:=h
theorem AQG(h:p:=by
 have:¬ ((0≤k∧k≤64)∧0≤w∧w≤31):=by simp[Ad] at h; omega
 simp only[go_sem,h,GL,bu this]):p:=h
theorem AQH(h:p:=by
 intro hl k' hk'' hlt
 by_cases e:k'=k
 ·subst e; exact hl
 ·exact hg k' hk'' (by omega)):p:=h
theorem AQI(h:p:=by
 refine ABO _ (Gh b hl2) ?_
 simp only[go_sem,w1,g1,g2,CE,aZ]
 try simp[OwnL,AC,byteC]):p:=h
theorem AQJ(h:p:=by
 rcases h2:Q_ cs b.c0 with _ | _
 ·simp only[go_sem,h2,ag,ah]
 simp only[go_sem,h2,ah]):p:=h
theorem AQK(h:p:=by
 have a1:(w.tasks.length:Int)=5:=nz.1 h11
 have a2:(w.p.length:Int)=5:=nz.1 h12
 omega):p:=h
theorem AQL(h:p:=by
 have g2:(p.col != q.col)=true:=by simp[bne,h2]
 simp only[go_sem,h1,g1,h2,g2,ag,ah]):p:=h
theorem AQM(h:p:=by
 rcases abh b.length with h | h
 ·rw[h] at h0; exact absurd h0 (by decide)
 ·exact h):p:=h
theorem AQN(h:p:=by rw[show min (7*i) 64=7*i from dO (by omega),← Po,wrap_i64 (by omega) (by omega)]):p:=h
theorem AQO(h:p:=by
 simp only[ai] at hc
 subst hc
 exact⟨St,h,fun _ _ h=>h,fun _ _ h=>h,fun u hu=>hu⟩):p:=h
theorem AQP(h:p:=by rw[Am,hset]; exact hg _):p:=h
theorem AQQ(h:p:=by simp only[go_sem,h2,ag]):p:=h
theorem AQR(h:p:=by
 have:c%128*128 ^ i≤127*128 ^ i:=aak (by omega) (aa5 (by omega))
 rw[abp]; omega):p:=h
theorem AQS(h:p:=by
 have:b.length≤m/8:=by simp at h1; omega
 simp only[go_sem,h0,h1,e1,ae,aaq this]):p:=h
theorem AQT(h:p:=by
 refine⟨q1,q2,cs,g1,g2,fun k c hk=>?_⟩
 grind):p:=h
theorem AQU(h:p:=by
 have:l[0]∈DJ l:=(ND l _).2 (aj (by omega))
 exact List.length_pos_of_mem this):p:=h
theorem AQV(h:p:=by
 cases hoj:ops[j]? with
 | none=>simp[hoj] at hj
 | some oj=>exact(bT.1 hoj).1):p:=h
theorem AQW(h:p:=by
 simp only[go_sem,h1,h2,h3,h4]
 simp only[go_sem,holds1,h1,h2,h3,h4,LG,Dx,G9]):p:=h
theorem AQX(h:p:=by
 have g1:(p.kind != q.kind)=true:=by simp[bne,h1]
 simp only[go_sem,h1,g1,ag]):p:=h
theorem AQY(h:p:=by
 rw[show ((1:Nat):Int)=1 from rfl] at this
 rw[this,Nat.and_one_is_mod]
 omega):p:=h
theorem AQZ(h:p:=by simp[Rz,Lit.wf,IntKind.min,IntKind.max,IntKind.signed,IntKind.bits]; omega):p:=h
theorem AQa(h:p:=by
 have:(vi+1)*n≤(vi+(ps.length+1))*n:=aaG _ (by omega)
 rw[sD] at this; omega):p:=h
theorem AQb(h:p:=by
 cases j with
 | zero=>simp only[aX,ai] at hj; subst hj; rfl
 | succ j=>grind):p:=h
theorem AQc(h:p:=by exact⟨j+1,⟨rfl,rfl⟩,rfl,Bv hk' hj (by simp only[Gq,h5,h6]; rfl),by omega⟩):p:=h
theorem AQd(h:p:=by exact⟨k+1,⟨rfl,rfl⟩,rfl,Bv hk' hk (by simp only[QL,h1,h2]; rfl),by omega⟩):p:=h
theorem AQe(h:p:=by
 simp only[go_sem,DDeed.o_eq,DQuery.o_eq,DPred.o_eq,DResult.o_eq]
 simp[AC]):p:=h
theorem AQf(h:p:=by
 cases hc:E e' with
 | false=>rfl
 | true=>exact absurd ⟨e',x1,x2,hc⟩ hex):p:=h
theorem AQg(h:p:=by
 have h1:=Ox hw.1.2
 have h2:=Ox hw.2.1.2
 simp only[go_sem,Ov,ADH h1 h2]):p:=h
theorem AQh(h:p:=by
 intro hg i hi
 by_cases e:i=k
 ·subst e; exact hg
 ·exact hf i (by omega)):p:=h
theorem AQi(h:p:=by
 induction l with
 | nil=>rfl
 | cons c l ih=>simp only[TA,JD,ih,aF]; rfl):p:=h
theorem AQj(h:p:=by
 simp only[go_sem,h1,h2,h3]
 simp only[go_sem,holds1,h1,h2,h3,LG,Dx,G9]):p:=h
theorem AQk(h:p:=by
 rw[BM (AO out)]
 rfl):p:=h
theorem AQl(h:p:=by
 simp only[go_sem,h6,aO,ag]
 try refine AAO ?_
 try simp only[go_sem,h6]):p:=h
theorem AQm(h:p:=by
 simp[hi2] at hun ⊢
 exact hun):p:=h
theorem AQn(h:p:=by
 rcases(hEE e).1 he with h' | h'
 ·have:=hI.below e h'; omega
 ·omega):p:=h
theorem AQo(h:p:=by
 rw[Yo (by rw[← EF,h1]; simp)]
 simp only[go_sem,h1,Dt]
 try simp[D7]):p:=h
theorem AQp(h:p:=by
 cases hc:E e with
 | false=>rfl
 | true=>have:=hprev e hc x2; omega):p:=h
theorem AQq(h:p:=by
 intro l o2 hl
 rcases bZ l s.st.length with h1 | h1
 ·grind
 ·grind):p:=h
theorem AQr(h:p:=by
 have:=(aP.1 hl).1
 simp at this
 omega):p:=h
theorem AQs(h:p:=by
 simp only[Pj] at hq
 split at hq
 ·exact⟨_,‹_›,hq⟩
 ·exact hq.elim):p:=h
theorem AQt(h:p:=by
 have:=Dc hbt (hcl e oe this hoe)
 rw[this] at hun'; cases hun'):p:=h
theorem AQu(h:p:=by
 simp only[there,hat] at h2
 cases h2):p:=h
theorem AQv(h:p:=by
 obtain⟨e',x1,x2,x3⟩:=hex
 have:=ihd e' (by omega) x3 x2
 omega):p:=h
theorem AQw(h:p:=by
 rcases hbd with rfl | ⟨e,he,rfl⟩
 ·omega
 ·exact hE e he):p:=h
theorem AQx(a:q)(b:r)(h:q→r→p:=by
 intro zz zy
 simp only[go_sem]
 exact AAP zz zy):p:=h a b
theorem AQy(a:q)(b:r)(h:q→r→p:=by
 intro zz zy
 simp only[go_sem,ae]
 exact AAP zz zy):p:=h a b
theorem AQz(a:q)(b:r)(h:q→r→p:=by
 intro zz zy
 simp only[go_sem,mkS,ae,hn]
 exact AAP zz zy):p:=h a b
theorem AQ0(a:q)(b:r)(h:q→r→p:=by
 intro zz zy
 simp only[go_sem,lK,ae,Jm]
 exact AAP zz zy):p:=h a b
theorem AQ1(a:q)(h:q→p:=by
 intro zz
 simp only[go_sem,ae,h5,h6,hw1,hw2,AA _ h6',hc]
 simp only[go_sem,ae,h5,h6,hw1,hw2,AA _ h6',hc,hwc,hwa,hwt,hw7,hws,hwo,hwp]
 exact zz):p:=h a
theorem AQ2(h:p:=by omega):p:=h
theorem AQ3(h:p:=by simp):p:=h
theorem AQ4(h:p:=by simp only; omega):p:=h
theorem AQ5(h:p:=by simp; omega):p:=h
theorem AQ6(h:p:=by grind):p:=h
theorem AQ7(h:p:=by rw[wrap_i64 (by omega) (by omega)]; omega):p:=h
theorem AQ8(h:p:=by simp only[cu,VY,aW,bn,aF,BI]):p:=h
theorem AQ9(h:p:=by have:=hg 0; simp only[Cj,ae] at this; exact this):p:=h
theorem AQ_(h:p:=by simp[Op.operands]):p:=h
theorem ARA(h:p:=by simp[CP] at hl; omega):p:=h
theorem ARB(h:p:=by simp only[go_sem,KP h]):p:=h
theorem ARC(h:p:=by simp only[D8,Cf,DF,DW,CO,D9,FB,DU,ET,go_sem]; try rfl):p:=h
theorem ARD(h:p:=by simp at h; omega):p:=h
theorem ARF(h:p:=by simp[CP]):p:=h
theorem ARH(h:p:=by simp[Ad] at h2; omega):p:=h
theorem ARI(h:p:=by simpa only[OwnL] using ho):p:=h
theorem ARJ(h:p:=by decide):p:=h
theorem ARK(h:p:=by rw[aag (by omega),wrap_i64 (by omega) (by omega)]; omega):p:=h
theorem ARL(h:p:=by simp only[D8,CO,Cf,DF,D9,FB,DU,ET]; first | rfl | simp only[go_sem]):p:=h
theorem ARN(h:p:=by simp at h2; omega):p:=h
theorem ARO(h:p:=by simpa [Op.operands] using hc):p:=h
theorem ARP(h:p:=by have:=hw.1.1; simpa [Go.maxLen] using this):p:=h
theorem ARQ(h:p:=by simpa using h3):p:=h
theorem ARR(h:p:=by simpa using h1):p:=h
theorem ARS(h:p:=by simp[hx]):p:=h
theorem ART(h:p:=by simp only[D8,CO,Cf,DF,D9,FB,DU,ET,go_sem]):p:=h
theorem ARU(h:p:=by simp only[Cj,ae]; rfl):p:=h
theorem ARV(h:p:=by rw[aaC (by omega),wrap_i64 (by omega) (by omega)]; omega):p:=h
theorem ARW(h:p:=by first | omega | (simp only; omega)):p:=h
theorem ARX(h:p:=by have:=hj.1; simp at h; omega):p:=h
theorem ARY(h:p:=by simpa using h):p:=h
theorem ARZ(h:p:=by simpa using hb):p:=h
theorem ARa(h:p:=by simp at h):p:=h
theorem ARb(h:p:=by simp only[Rz]; exact Go.wf_wrap _ _):p:=h
theorem ARc(h:p:=by simpa using hk):p:=h
theorem ARd(h:p:=by simpa using h4):p:=h
theorem ARe(h:p:=by obtain⟨y,_,rfl⟩:=UT.1 hx; rfl):p:=h
theorem ARf(h:p:=by rw[aaN _ (by omega),wrap_u64 (by omega) (by omega)]; omega):p:=h
theorem ARg(h:p:=by simpa only[go_sem,hm] using MB w t d hf HT):p:=h
theorem ARh(h:p:=by simp only[aN]; omega):p:=h
theorem ARi(h:p:=by simp at hk):p:=h
theorem ARj(h:p:=by simp only[AY,hdone,k1,hok2]; rfl):p:=h
theorem ARk(h:p:=by simpa using hk0):p:=h
theorem ARl(h:p:=by simp[Ad] at h1; omega):p:=h
theorem ARm(h:p:=by simpa using hl):p:=h
theorem ARn(h:p:=by have:=congrArg List.toArray hct; simpa using this):p:=h
theorem ARo(h:p:=by have:=congrArg List.toArray hca; simpa using this):p:=h
theorem ARp(h:p:=by rw[hbs]; have:=MX (m:=by') hle hby (aI _); omega):p:=h
theorem ARq(h:p:=by apply abG; simp):p:=h
theorem ARr(h:p:=by simp at h3; omega):p:=h
theorem ARs(h:p:=by simpa using hk1):p:=h
theorem ARt(h:p:=by intro r ob; unfold LD; split<;>rfl):p:=h
theorem ARu(h:p:=by simp only[AY,hdone,k1,k2,hok]; rfl):p:=h
theorem ARv(h:p:=by simpa only[Ji] using h):p:=h
theorem ARw(h:p:=by simpa using h2):p:=h
theorem ARx(h:p:=by simp[Ad] at h4; omega):p:=h
theorem ARy(h:p:=by rw[Ce]; exact⟨hf.1,by simp[O5],by simp[O5]⟩):p:=h
theorem ARz(h:p:=by simp only[late,ha,h1,h2,h3]; rfl):p:=h
theorem AR0(h:p:=by cases h):p:=h
theorem AR1(h:p:=by simpa using hlt):p:=h
theorem AR2(h:p:=by rw[Bh hk]; exact hk'):p:=h
theorem AR3(h:p:=by rw[spread,← hp]; rfl):p:=h
theorem AR4(h:p:=by simp only[AVR] at h ⊢; exact h):p:=h
theorem AR5(h:p:=by exact_mod_cast aaH (by omega) (by omega)):p:=h
theorem AR6(h:p:=by cases d; simp[DPred.l]; omega):p:=h
theorem AR7(h:p:=by cases x; simp[DPred.l]; omega):p:=h
theorem AR8(h:p:=by simpa using h0):p:=h
theorem AR9(h:p:=by rw[hbt,ah] at hs1; exact hs1):p:=h
theorem AR_(h:p:=by unfold LD; split<;>rfl):p:=h
theorem ASA(h:p:=by cases d; simp at h):p:=h
theorem ASB(h:p:=by rw[← hp,aa6]; congr 1; funext y; simp):p:=h
theorem ASC(h:p:=by rw[Ai,Es] at hf; exact hf.1):p:=h
theorem ASD(h:p:=by grind [BI]):p:=h
theorem ASE(h:p:=by simp[hy]):p:=h
theorem ASF(h:p:=by rw[BG] at hp; exact hp.2.1):p:=h
theorem ASG(h:p:=by simp only[AVR,rnA] at h ⊢; exact h):p:=h
theorem ASH(h:p:=by simp only[aW,O7,OV,bn,aF]):p:=h
theorem ASI(h:p:=by rw[hsz,n1,hcap,← sD]; exact hcapm):p:=h
theorem ASJ(h:p:=by simp only[maxLen]; omega):p:=h
theorem ASL(h:p:=by simp[Ad] at h1 h2; omega):p:=h
theorem ASM(h:p:=by simp_all):p:=h
theorem ASN(h:p:=by simp at hl):p:=h
theorem ASO(h:p:=by simp only[AVRs] at h ⊢; exact h):p:=h
theorem ASP(h:p:=by rw[offsets,bu (by omega)]; simp):p:=h
theorem ASQ(h:p:=by simpa using hk2):p:=h
theorem ASR(h:p:=by simpa using hj):p:=h
theorem ASS(h:p:=by simp[hc]):p:=h
theorem AST(h:p:=by decide +kernel):p:=h
theorem ASU(h:p:=by simp[Ad] at h3; omega):p:=h
theorem ASV(h:p:=by simpa using hzl0):p:=h
theorem ASW(h:p:=by simp[OwnL] at ho):p:=h
theorem ASX(h:p:=by simpa [inA] using hc):p:=h
theorem ASY(h:p:=by simp only[bne,h5,aO]):p:=h
theorem ASZ(h:p:=by simp[Ei,e1]):p:=h
theorem ASa(h:p:=by simp[JS,e1]):p:=h
theorem ASb(h:p:=by simp[hi]):p:=h
theorem ASc(h:p:=by simpa [Oj] using hc):p:=h
theorem ASd(h:p:=by simp at c1 ⊢; omega):p:=h
theorem ASe(h:p:=by simp[FY]; omega):p:=h
theorem ASf(h:p:=by simp[bne,h1]):p:=h
end
theorem ae:type_of% @List.length_map:=@List.length_map
theorem ag:type_of% @Bool.false_and:=@Bool.false_and
theorem ah:type_of% @Bool.true_and:=@Bool.true_and
theorem ai:type_of% @Option.some.injEq:=@Option.some.injEq
theorem aj:type_of% @List.getElem_mem:=@List.getElem_mem
theorem ak:type_of% @Option.getD_some:=@Option.getD_some
theorem au:type_of% @Nat.zero_le:=@Nat.zero_le
theorem ax:type_of% @bne_self_eq_false:=@bne_self_eq_false
theorem ay:type_of% @Bool.false_eq_true:=@Bool.false_eq_true
theorem az:type_of% @Bool.and_eq_true:=@Bool.and_eq_true
theorem aA:type_of% @List.drop_eq_getElem_cons:=@List.drop_eq_getElem_cons
theorem aB:type_of% @beq_self_eq_true:=@beq_self_eq_true
theorem aC:type_of% @List.getElem?_eq_getElem:=@List.getElem?_eq_getElem
theorem aF:type_of% @Bool.and_true:=@Bool.and_true
theorem aG:type_of% @List.nil_append:=@List.nil_append
theorem aH:type_of% @Bool.not_false:=@Bool.not_false
theorem aI:type_of% @Nat.le_refl:=@Nat.le_refl
theorem aJ:type_of% @List.drop_length:=@List.drop_length
theorem aK:type_of% @Bool.and_false:=@Bool.and_false
theorem aN:type_of% @List.length_append:=@List.length_append
theorem aO:type_of% @Bool.not_true:=@Bool.not_true
theorem aP:type_of% @List.getElem?_eq_some_iff:=@List.getElem?_eq_some_iff
theorem aQ:type_of% @Option.isSome_none:=@Option.isSome_none
theorem aS:type_of% @List.all_eq_true:=@List.all_eq_true
theorem aT:type_of% @List.cons_append:=@List.cons_append
theorem aU:type_of% @Int.eq_ofNat_of_zero_le:=@Int.eq_ofNat_of_zero_le
theorem aV:type_of% @Option.isSome_some:=@Option.isSome_some
theorem aW:type_of% @List.all_cons:=@List.all_cons
theorem aX:type_of% @List.getElem?_cons_zero:=@List.getElem?_cons_zero
theorem aY:type_of% @if_false:=@if_false
theorem aZ:type_of% @List.append_assoc:=@List.append_assoc
theorem bf:type_of% @List.getElem?_append_right:=@List.getElem?_append_right
theorem bi:type_of% @List.length_set:=@List.length_set
theorem bn:type_of% @List.all_nil:=@List.all_nil
theorem bu:type_of% @if_neg:=@if_neg
theorem bz:type_of% @List.length_cons:=@List.length_cons
theorem bC:type_of% @decide_eq_true_eq:=@decide_eq_true_eq
theorem bD:type_of% @Nat.lt_succ_self:=@Nat.lt_succ_self
theorem bF:type_of% @List.append_eq:=@List.append_eq
theorem bG:type_of% @if_pos:=@if_pos
theorem bH:type_of% @if_true:=@if_true
theorem bI:type_of% @List.mem_of_getElem?:=@List.mem_of_getElem?
theorem bJ:type_of% @List.length_take:=@List.length_take
theorem bK:type_of% @List.append_nil:=@List.append_nil
theorem bM:type_of% @List.getElem?_append_left:=@List.getElem?_append_left
theorem bP:type_of% @List.take_length:=@List.take_length
theorem bQ:type_of% @List.map_append:=@List.map_append
theorem bT:type_of% @Array.getElem?_eq_some_iff:=@Array.getElem?_eq_some_iff
theorem bU:type_of% @Prod.mk.injEq:=@Prod.mk.injEq
theorem bV:type_of% @List.length_nil:=@List.length_nil
theorem bW:type_of% @Bool.false_or:=@Bool.false_or
theorem bY:type_of% @List.eq_nil_of_length_eq_zero:=@List.eq_nil_of_length_eq_zero
theorem bZ:type_of% @Nat.lt_or_ge:=@Nat.lt_or_ge
theorem cu:type_of% @List.take_succ_cons:=@List.take_succ_cons
theorem cO:type_of% @List.map_drop:=@List.map_drop
theorem cZ:type_of% @List.map_take:=@List.map_take
theorem df:type_of% @List.map_nil:=@List.map_nil
theorem dh:type_of% @List.set_set:=@List.set_set
theorem di:type_of% @Nat.lt_of_lt_of_le:=@Nat.lt_of_lt_of_le
theorem dm:type_of% @Option.map_some:=@Option.map_some
theorem YL:type_of% @of_decide_eq_true:=@of_decide_eq_true
theorem Pv:type_of% @Bool.true_or:=@Bool.true_or
theorem YM:type_of% @Int.toNat_natCast:=@Int.toNat_natCast
theorem Rx:type_of% @List.mem_cons:=@List.mem_cons
theorem TA:type_of% @List.map_cons:=@List.map_cons
theorem aag:type_of% @Int.tdiv_eq_ediv_of_nonneg:=@Int.tdiv_eq_ediv_of_nonneg
theorem VY:type_of% @List.take_zero:=@List.take_zero
theorem X6:type_of% @Option.map_none:=@Option.map_none
theorem Ry:type_of% @Nat.zero_add:=@Nat.zero_add
theorem aak:type_of% @Int.mul_le_mul_of_nonneg_right:=@Int.mul_le_mul_of_nonneg_right
theorem lL:type_of% @List.flatten_cons:=@List.flatten_cons
theorem UT:type_of% @List.mem_map:=@List.mem_map
theorem lg:type_of% @List.getElem?_map:=@List.getElem?_map
theorem aao:type_of% @List.sizeOf_lt_of_mem:=@List.sizeOf_lt_of_mem
theorem aap:type_of% @List.length_replicate:=@List.length_replicate
theorem aaq:type_of% @List.getElem?_eq_none:=@List.getElem?_eq_none
theorem dO:type_of% @Nat.min_eq_left:=@Nat.min_eq_left
theorem aas:type_of% @List.take_append_drop:=@List.take_append_drop
theorem aat:type_of% @List.take_of_length_le:=@List.take_of_length_le
theorem lM:type_of% @List.all_append:=@List.all_append
theorem lN:type_of% @List.mem_append:=@List.mem_append
theorem vG:type_of% @List.getElem?_set:=@List.getElem?_set
theorem aax:type_of% @Option.map_eq_some_iff:=@Option.map_eq_some_iff
theorem aay:type_of% @List.mem_singleton:=@List.mem_singleton
theorem aaz:type_of% @List.mem_of_mem_take:=@List.mem_of_mem_take
theorem ZO:type_of% @Nat.sub_self:=@Nat.sub_self
theorem aaB:type_of% @List.take_succ_eq_append_getElem:=@List.take_succ_eq_append_getElem
theorem aaC:type_of% @Int.tmod_eq_emod_of_nonneg:=@Int.tmod_eq_emod_of_nonneg
theorem aaD:type_of% @decide_eq_false_iff_not:=@decide_eq_false_iff_not
theorem aaE:type_of% @List.length_filterMap_le:=@List.length_filterMap_le
theorem aaF:type_of% @Option.getD_none:=@Option.getD_none
theorem aaG:type_of% @Nat.mul_le_mul_right:=@Nat.mul_le_mul_right
theorem aaH:type_of% @Nat.pow_le_pow_right:=@Nat.pow_le_pow_right
theorem yH:type_of% @Option.some.inj:=@Option.some.inj
theorem aaJ:type_of% @List.length_filter_le:=@List.length_filter_le
theorem aaK:type_of% @List.set_append_right:=@List.set_append_right
theorem aaL:type_of% @List.getElem?_concat_length:=@List.getElem?_concat_length
theorem aaM:type_of% @List.mem_of_mem_drop:=@List.mem_of_mem_drop
theorem aaN:type_of% @Int.fdiv_eq_ediv_of_nonneg:=@Int.fdiv_eq_ediv_of_nonneg
theorem aaO:type_of% @Array.getElem?_append_left:=@Array.getElem?_append_left
theorem aaP:type_of% @List.length_drop:=@List.length_drop
theorem aaQ:type_of% @List.length_pos_iff:=@List.length_pos_iff
theorem aaR:type_of% @List.drop_zero:=@List.drop_zero
theorem aaS:type_of% @List.flatten_append:=@List.flatten_append
theorem aaT:type_of% @List.getElem_of_mem:=@List.getElem_of_mem
theorem aaU:type_of% @List.flatten_nil:=@List.flatten_nil
theorem vH:type_of% @Nat.sub_zero:=@Nat.sub_zero
theorem aaW:type_of% @List.map_congr_left:=@List.map_congr_left
theorem aaX:type_of% @Array.toList_append:=@Array.toList_append
theorem aaY:type_of% @Bool.or_eq_true:=@Bool.or_eq_true
theorem yI:type_of% @List.map_set:=@List.map_set
theorem sD:type_of% @Nat.add_mul:=@Nat.add_mul
theorem aa1:type_of% @List.getElem?_set_self:=@List.getElem?_set_self
theorem aa2:type_of% @List.getElem?_take:=@List.getElem?_take
theorem aa3:type_of% @Nat.zero_lt_one:=@Nat.zero_lt_one
theorem aa4:type_of% @Nat.le_of_ble_eq_true:=@Nat.le_of_ble_eq_true
theorem aa5:type_of% @Int.pow_nonneg:=@Int.pow_nonneg
theorem aa6:type_of% @Option.map_map:=@Option.map_map
theorem nz:type_of% @beq_iff_eq:=@beq_iff_eq
theorem aa8:type_of% @List.getElem?_cons_succ:=@List.getElem?_cons_succ
theorem aa9:type_of% @List.pairwise_append:=@List.pairwise_append
theorem aba:type_of% @Nat.le_trans:=@Nat.le_trans
theorem abb:type_of% @List.getElem?_drop:=@List.getElem?_drop
theorem abd:type_of% @List.mem_or_eq_of_mem_set:=@List.mem_or_eq_of_mem_set
theorem abe:type_of% @Int.mul_nonneg:=@Int.mul_nonneg
theorem abf:type_of% @Array.getElem?_replicate:=@Array.getElem?_replicate
theorem abg:type_of% @List.drop_drop:=@List.drop_drop
theorem abh:type_of% @Nat.eq_zero_or_pos:=@Nat.eq_zero_or_pos
theorem abj:type_of% @Array.getD_eq_getD_getElem?:=@Array.getD_eq_getD_getElem?
theorem abk:type_of% @List.getD_eq_getElem?_getD:=@List.getD_eq_getElem?_getD
theorem abl:type_of% @Bool.not_eq_true':=@Bool.not_eq_true'
theorem abm:type_of% @Int.natCast_one:=@Int.natCast_one
theorem abn:type_of% @List.mem_iff_getElem?:=@List.mem_iff_getElem?
theorem abo:type_of% @List.getElem?_toArray:=@List.getElem?_toArray
theorem abp:type_of% @Int.pow_succ:=@Int.pow_succ
theorem abq:type_of% @List.pairwise_cons:=@List.pairwise_cons
theorem abr:type_of% @List.mem_flatten:=@List.mem_flatten
theorem abt:type_of% @Int.mul_le_mul_of_nonneg_left:=@Int.mul_le_mul_of_nonneg_left
theorem abu:type_of% @Nat.add_zero:=@Nat.add_zero
theorem abv:type_of% @List.drop_left:=@List.drop_left
theorem abw:type_of% @Nat.mul_le_mul:=@Nat.mul_le_mul
theorem abx:type_of% @List.size_toArray:=@List.size_toArray
theorem aby:type_of% @List.foldl_cons:=@List.foldl_cons
theorem vI:type_of% @and_self:=@and_self
theorem abA:type_of% @Array.mapM_eq_mapM_toList:=@Array.mapM_eq_mapM_toList
theorem abB:type_of% @List.getElem?_eq_none_iff:=@List.getElem?_eq_none_iff
theorem abC:type_of% @List.mem_iff_getElem:=@List.mem_iff_getElem
theorem abD:type_of% @List.mem_cons_of_mem:=@List.mem_cons_of_mem
theorem abE:type_of% @List.ext_getElem?:=@List.ext_getElem?
theorem abG:type_of% @Array.ext':=@Array.ext'
theorem abH:type_of% @Option.bind_some:=@Option.bind_some
theorem abI:type_of% @List.Perm.refl:=@List.Perm.refl
theorem abJ:type_of% @List.mem_range:=@List.mem_range
theorem abK:type_of% @List.length_eq_one_iff:=@List.length_eq_one_iff
theorem abL:type_of% @Nat.ne_of_beq_eq_false:=@Nat.ne_of_beq_eq_false
theorem abM:type_of% @List.getElem_cons_zero:=@List.getElem_cons_zero
theorem abN:type_of% @List.getElem_cons_succ:=@List.getElem_cons_succ
theorem abO:type_of% @Int.le_refl:=@Int.le_refl
theorem abP:type_of% @and_true:=@and_true
theorem abQ:type_of% @Bool.or_false:=@Bool.or_false
theorem abR:type_of% @List.take_add_one:=@List.take_add_one
theorem abS:type_of% @Int.natCast_zero:=@Int.natCast_zero
theorem abT:type_of% @Nat.mod_eq_of_lt:=@Nat.mod_eq_of_lt
theorem abU:type_of% @decide_false:=@decide_false
theorem abV:type_of% @true_and:=@true_and
open Go.RowKit
inductive Cl where
 | v (x:Value)
 | sl (xs:List (List Cl))
 | ref (l:Nat)
 | ow (ty:TypeId) (sz:Nat) (xs:List (List Cl))
 deriving Inhabited
inductive AV where
 | c (x:Cl)
 | agg (xs:List Cl)
 | lp (l i off:Nat)
 | ip (xs:List Cl)
 | tup (xs:List AV)
 | undef
 | un
 | pin (x:AV) (u:Value)
 | clo (f:FuncId) (xs:List (List Cl))
 deriving Inhabited
structure Ob where
 ty:TypeId
 sz:Nat
 xs:List (List Cl)
 wr:Bool
 live:Bool
 deriving Inhabited
structure MS where
 n:Nat
 env:List (Nat×AV)
 st:List Ob
def CV:List (Nat×AV)→Nat→AV
 | [],_=>.un
 | (k,v)::r,i=>if k=i then v else CV r i
def MS.put (s:MS) (d:Option Nat) (v:AV):MS:=match d with
 | some d=>if d<s.n then⟨s.n,(d,v)::s.env,s.st⟩ else s
 | none=>s
def Rz:Value→Bool
 | .agg _ | .tuple _=>false
 | .int k n=>(Lit.int k n).wf
 | .string s=>decide (s.size≤maxLen)
 | _=>true
theorem ACj {x:Value} (h:Rz x=true):x.oneCell'=true:=by cases x<;>simp_all [Rz,Value.oneCell']
mutual
def RdD (w:World) (St:Nat→Nat→Prop):Cl→Value→Prop
 | .v x,u=>u=x∧Rz x=true
 | .ref _,_=>False
 | .ow _ _ _,_=>False
 | .sl xs,u=>∃ a cap,u = .slice a xs.length cap∧xs.length≤cap∧cap≤maxLen∧(∃ sz,∀ x∈xs,x.length=sz)∧(xs = []∨∃ b off,a=some ⟨b,off,none⟩∧RdE w St xs b off)
def RdE (w:World) (St:Nat→Nat→Prop):List (List Cl)→Nat→Nat→Prop
 | [],_,_=>True
 | x::xs,b,off=>RdL w St x b off∧RdE w St xs b (off+x.length)
def RdL (w:World) (St:Nat→Nat→Prop):List Cl→Nat→Nat→Prop
 | [],_,_=>True
 | c::cs,b,off=>(St b off∧∃ u,w.cell? ⟨b,off,none⟩=some u∧RdD w St c u)∧RdL w St cs b (off+1)
end
mutual
theorem RdD.mono {w w':World} {St St':Nat→Nat→Prop} (hS:∀ b o,St b o→St' b o) (hw:∀ b o,St b o→w'.cell? ⟨b,o,none⟩=w.cell? ⟨b,o,none⟩) :
  ∀ (c:Cl) (u:Value),RdD w St c u→RdD w' St' c u
 | .v x,u,h=>by simp only[RdD] at h ⊢; exact h
 | .ref _,_,h=>by simp[RdD] at h
 | .ow _ _ _,_,h=>by simp[RdD] at h
 | .sl xs,u,h=>by
  simp only[RdD] at h ⊢
  obtain⟨a,cap,h1,h2,h3,h4,h5⟩:=h
  refine⟨a,cap,h1,h2,h3,h4, ?_⟩
  rcases h5 with h5 | ⟨b,off,h5,h6⟩
  ·exact .inl h5
  ·exact .inr ⟨b,off,h5,RdE.mono hS hw xs b off h6⟩
theorem RdE.mono {w w':World} {St St':Nat→Nat→Prop} (hS:∀ b o,St b o→St' b o) (hw:∀ b o,St b o→w'.cell? ⟨b,o,none⟩=w.cell? ⟨b,o,none⟩) :
  ∀ (xs:List (List Cl)) (b off:Nat),RdE w St xs b off→RdE w' St' xs b off
 | [],_,_,_=>by simp[RdE]
 | x::xs,b,off,h=>by
  simp only[RdE] at h ⊢
  exact⟨RdL.mono hS hw x b off h.1,RdE.mono hS hw xs b _ h.2⟩
theorem RdL.mono {w w':World} {St St':Nat→Nat→Prop} (hS:∀ b o,St b o→St' b o) (hw:∀ b o,St b o→w'.cell? ⟨b,o,none⟩=w.cell? ⟨b,o,none⟩) :
  ∀ (cs:List Cl) (b off:Nat),RdL w St cs b off→RdL w' St' cs b off
 | [],_,_,_=>by simp[RdL]
 | c::cs,b,off,h=>by
  simp only[RdL] at h ⊢
  obtain⟨⟨h1,u,h2,h3⟩,h4⟩:=h
  exact⟨⟨hS _ _ h1,u,by rw[hw _ _ h1]; exact h2,RdD.mono hS hw c u h3⟩,RdL.mono hS hw cs b _ h4⟩
end
theorem RdL.at {w:World} {St:Nat→Nat→Prop}:∀ {cs:List Cl} {b off:Nat},RdL w St cs b off→∀ j c,cs[j]?=some c →
  St b (off+j)∧∃ u,w.cell? ⟨b,off+j,none⟩=some u∧RdD w St c u
 | [],_,_,_,j,c,h=>ARa
 | c0::cs,b,off,h,j,c,hj=>by
  simp only[RdL] at h
  cases j with
  | zero=>simp only[aX,ai] at hj; subst hj; exact h.1
  | succ j =>
   simp only[aa8] at hj
   have:=RdL.at h.2 j c hj
   rwa [show off+1+j=off+(j+1) from AQ2] at this
theorem AEI {w:World} {St:Nat→Nat→Prop}:∀ {cs:List Cl} {b off:Nat},(∀ j c,cs[j]?=some c→St b (off+j)∧∃ u,w.cell? ⟨b,off+j,none⟩=some u∧RdD w St c u)→RdL w St cs b off
 | [],_,_,_=>by simp[RdL]
 | c0::cs,b,off,h=>by
  simp only[RdL]
  refine⟨by simpa using h 0 c0 rfl,AEI fun j c hj=>?_⟩
  have:=h (j+1) c ASR
  rwa [show off+(j+1)=off+1+j from AQ2] at this
theorem RdL.drop {w:World} {St:Nat→Nat→Prop} {cs:List Cl} {b off:Nat} (h:RdL w St cs b off) (n:Nat):RdL w St (cs.drop n) b (off+n):=
 AEI fun j c hj=>by
  have:=h.at (n+j) c AQ6
  grind
theorem RdL.take {w:World} {St:Nat→Nat→Prop} {cs:List Cl} {b off:Nat} (h:RdL w St cs b off) (n:Nat):RdL w St (cs.take n) b off:=
 AEI fun j c hj=>by
  rw[aa2] at hj
  split at hj
  ·exact h.at j c hj
  ·simp at hj
theorem RdE.at {w:World} {St:Nat→Nat→Prop} (sz:Nat):∀ {xs:List (List Cl)} {b off:Nat},RdE w St xs b off→(∀ x∈xs,x.length=sz)→∀ i x,xs[i]?=some x→RdL w St x b (off+i*sz)
 | [],_,_,_,_,i,x,h=>ARa
 | x0::xs,b,off,h,hl,i,x,hi=>by
  simp only[RdE] at h
  cases i with
  | zero=>simp only[aX,ai] at hi; subst hi; simpa using h.1
  | succ i =>
   simp only[aa8] at hi
   have:=RdE.at sz h.2 (fun y hy=>hl y ASE) i x hi
   rw[hl x0 AQ3] at this
   rwa [show off+sz+i*sz=off+(i+1)*sz by rw[sD]; omega] at this
theorem AEV {w:World} {St:Nat→Nat→Prop} (sz:Nat):∀ {xs:List (List Cl)} {b off:Nat},(∀ x∈xs,x.length=sz)→(∀ i x,xs[i]?=some x→RdL w St x b (off+i*sz))→RdE w St xs b off
 | [],_,_,_,_=>by simp[RdE]
 | x0::xs,b,off,hl,h=>by
  simp only[RdE]
  refine⟨by simpa using h 0 x0 rfl,AEV sz (fun y hy=>hl y ASE) fun i x hi=>?_⟩
  have:=h (i+1) x AQ6
  grind
def AC:Cl→Bool
 | .v (.slice _ _ _)=>false
 | .v (.agg _)=>false
 | .v (.tuple _)=>false
 | .v _=>true
 | .sl _=>true
 | .ref _=>false
 | .ow _ _ _=>false
def CS (cs:List Cl):Bool:=cs.all AC
def Fv (xs:List (List Cl)):Bool:=xs.all CS
def BZ (w:World) (st:List Ob) (β:Nat→Option Nat) (l:Nat) (u:Value):Prop:=
 match st[l]? with
 | none=>False
 | some ob=>u.oneCell'=true∧(ob.live=true→match β l with
  | none=>u = .slice none 0 0∧ob.xs = []
  | some b=>∃ cap cs,u = .slice (some ⟨b,0,none⟩) ob.xs.length cap∧ob.xs.length≤cap∧cap≤maxLen∧w.heap[b]?=some (.cells cs ob.ty (0,0))∧cs.size=cap*ob.sz)
def RdC (w:World) (St:Nat→Nat→Prop) (st:List Ob) (β:Nat→Option Nat):Cl→Value→Prop
 | .ref l,u=>BZ w st β l u
 | c,u=>RdD w St c u
mutual
def AVR (w:World) (St:Nat→Nat→Prop) (st:List Ob) (β:Nat→Option Nat):AV→Value→Prop
 | .c x,u=>RdC w St st β x u
 | .agg xs,u=>∃ us:List Value,u = .agg us.toArray∧us.length=xs.length∧∀ (k:Nat) (c:Cl),xs[k]?=some c→∃ y,us[k]?=some y∧RdC w St st β c y
 | .lp l i off,u=>match st[l]? with
  | none=>False
  | some ob=>ob.live=true→∃ b,β l=some b∧u = .pointer (some ⟨b,i*ob.sz+off,none⟩)
 | .ip xs,u=>∃ b off,u = .pointer (some ⟨b,off,none⟩)∧RdL w St xs b off
 | .tup xs,u=>∃ us:List Value,u = .tuple us.toArray∧AVRs w St st β xs us
 | .undef,u=>u=Go.undef
 | .un,_=>True
 | .pin x u0,u=>u=u0∧AVR w St st β x u
 | .clo f xs,u=>∃ us:List Value,u = .func (.func f) #[] us.toArray∧us.length=xs.length∧∀ (k:Nat) (c:List Cl),xs[k]?=some c→∃ b off,us[k]?=some (.pointer (some ⟨b,off,none⟩))∧RdL w St c b off
def AVRs (w:World) (St:Nat→Nat→Prop) (st:List Ob) (β:Nat→Option Nat):List AV→List Value→Prop
 | [],us=>us = []
 | x::xs,us=>∃ y ys,us=y::ys∧AVR w St st β x y∧AVRs w St st β xs ys
end
def RdB (w:World) (St:Nat→Nat→Prop) (st:List Ob) (β:Nat→Option Nat):Cl→Value→Prop
 | .ow _ _ _,u=>u.oneCell'=true
 | c,u=>RdC w St st β c u
def ObR (w:World) (St:Nat→Nat→Prop) (st:List Ob) (β:Nat→Option Nat) (ob:Ob) (b:Nat):Prop:=
 ∃ cs:Array Value,w.heap[b]?=some (.cells cs ob.ty (0,0))∧(∀ x∈ob.xs,x.length=ob.sz) ∧
  ∀ (k:Nat) (c:Cl),ob.xs.flatten[k]?=some c→∃ u,cs[k]?=some u∧RdB w St st β c u
def G7:Cl→Bool
 | .ow _ _ _=>true
 | _=>false
mutual
def RdO (w:World) (St:Nat→Nat→Prop):Cl→Value→(Nat→Prop)→Prop
 | .ow ty sz xs,u,F=>(u = .slice none 0 0∧xs = [])∨∃ (b cap:Nat) (cs:Array Value) (G:Nat→Nat→Prop),u = .slice (some ⟨b,0,none⟩) xs.length cap∧xs.length≤cap∧cap≤maxLen ∧
   w.heap[b]?=some (.cells cs ty (0,0))∧cs.size=cap*sz∧(∀ x∈xs,x.length=sz)∧F b∧(∀ k x,G k x→F x∧x≠b)∧(∀ k k' x,G k x→G k' x→k=k')∧RdOE w St xs 0 cs G
 | .v x,u,_=>u=x∧Rz x=true
 | .sl xs,u,_=>RdD w St (.sl xs) u
 | .ref _,_,_=>False
def RdOE (w:World) (St:Nat→Nat→Prop):List (List Cl)→Nat→Array Value→(Nat→Nat→Prop)→Prop
 | [],_,_,_=>True
 | x::xs,n,cs,G=>RdOL w St x n cs G∧RdOE w St xs (n+x.length) cs G
def RdOL (w:World) (St:Nat→Nat→Prop):List Cl→Nat→Array Value→(Nat→Nat→Prop)→Prop
 | [],_,_,_=>True
 | c::cl,n,cs,G=>(∃ y,cs[n]?=some y∧RdO w St c y (G n))∧RdOL w St cl (n+1) cs G
end
mutual
theorem RdO.mono {w w':World} {St St':Nat→Nat→Prop} (hS:∀ b o,St b o→St' b o) (hw:∀ b o,St b o→w'.cell? ⟨b,o,none⟩=w.cell? ⟨b,o,none⟩) :
  ∀ (c:Cl) (u:Value) (F F':Nat→Prop),(∀ x,F x→F' x)→(∀ x,F x→w'.heap[x]?=w.heap[x]?)→RdO w St c u F→RdO w' St' c u F'
 | .v x,u,F,F',_,_,h=>by simp only[RdO] at h ⊢; exact h
 | .ref _,_,_,_,_,_,h=>by simp[RdO] at h
 | .sl xs,u,F,F',_,_,h=>by simp only[RdO] at h ⊢; exact RdD.mono hS hw _ _ h
 | .ow ty sz xs,u,F,F',hF,hh,h=>by
  simp only[RdO] at h ⊢
  rcases h with h | ⟨b,cap,cs,G,h1,h2,h3,h4,h5,h6,h7,h8,h9,h10⟩
  ·exact .inl h
  ·exact .inr ⟨b,cap,cs,G,h1,h2,h3,AQ6,h5,h6,hF b h7,fun k x hx=>⟨hF x (h8 k x hx).1,(h8 k x hx).2⟩,h9,RdOE.mono hS hw xs 0 cs G (fun k x hx=>hh x (h8 k x hx).1) h10⟩
theorem RdOE.mono {w w':World} {St St':Nat→Nat→Prop} (hS:∀ b o,St b o→St' b o) (hw:∀ b o,St b o→w'.cell? ⟨b,o,none⟩=w.cell? ⟨b,o,none⟩) :
  ∀ (xs:List (List Cl)) (n:Nat) (cs:Array Value) (G:Nat→Nat→Prop),(∀ k x,G k x→w'.heap[x]?=w.heap[x]?)→RdOE w St xs n cs G→RdOE w' St' xs n cs G
 | [],_,_,_,_,_=>by simp[RdOE]
 | x::xs,n,cs,G,hh,h=>by
  simp only[RdOE] at h ⊢
  exact⟨RdOL.mono hS hw x n cs G hh h.1,RdOE.mono hS hw xs _ cs G hh h.2⟩
theorem RdOL.mono {w w':World} {St St':Nat→Nat→Prop} (hS:∀ b o,St b o→St' b o) (hw:∀ b o,St b o→w'.cell? ⟨b,o,none⟩=w.cell? ⟨b,o,none⟩) :
  ∀ (cl:List Cl) (n:Nat) (cs:Array Value) (G:Nat→Nat→Prop),(∀ k x,G k x→w'.heap[x]?=w.heap[x]?)→RdOL w St cl n cs G→RdOL w' St' cl n cs G
 | [],_,_,_,_,_=>by simp[RdOL]
 | c::cl,n,cs,G,hh,h=>by
  simp only[RdOL] at h ⊢
  obtain⟨⟨y,h1,h2⟩,h3⟩:=h
  exact⟨⟨y,h1,RdO.mono hS hw c y (G n) (G n) (fun _ h=>h) (fun x hx=>hh n x hx) h2⟩,RdOL.mono hS hw cl _ cs G hh h3⟩
end
structure Bs where
 w:World
 own:Nat→Prop
 gs:Nat→Value
def Bs.heap (b:Bs):Array Obj:=b.w.heap
def Bs.may (b:Bs) (x:Nat):Prop:=b.heap.size≤x∨b.own x
def bsz (w:World) (k:Nat):Nat:=match w.heap[k]? with
 | some (.cells cs _ _)=>cs.size
 | _=>0
theorem ABR {w w':World} {k:Nat} (h:w'.heap[k]?=w.heap[k]?):bsz w' k=bsz w k:=by simp only[bsz,h]
theorem AF8 {w w':World} {k:Nat} {cs cs':Array Value} {ty ty':TypeId} {x x':Nat×Nat} (h:w.heap[k]?=some (.cells cs ty x)) (h':w'.heap[k]?=some (.cells cs' ty' x')):bsz w' k=bsz w k↔cs'.size=cs.size:=by simp only[bsz,h,h']
structure BelowB (w0:Bs) (w:World):Prop where
 rest:Below 0 w0.w w
 blk:∀ k,k<w0.heap.size→¬ w0.own k→w.heap[k]?=w0.heap[k]?
 siz:∀ k,k<w0.heap.size→bsz w k=bsz w0.w k
theorem BelowB.size {w0:Bs} {w:World} (h:BelowB w0 w):w0.heap.size≤w.heap.size:=h.rest.size
theorem BelowB.refl (w:World) (O:Nat→Prop) {g:Nat→Value}:BelowB ⟨w,O,g⟩ w:=⟨Below.refl _ _,fun _ _ _=>rfl,fun _ _=>rfl⟩
theorem BelowB.step {w0:Bs} {w w':World} (h:BelowB w0 w) {n:Nat} (hb:Below n w w') (hk:∀ k,k<w0.heap.size→¬ w0.own k→w'.heap[k]?=w.heap[k]?) (hs:∀ k,k<w0.heap.size→bsz w' k=bsz w k):BelowB w0 w':=
 ⟨h.rest.trans (hb.mono (au _)),fun k h1 h2=>(hk k h1 h2).trans (h.blk k h1 h2),fun k h1=>(hs k h1).trans (h.siz k h1)⟩
theorem BelowB.grow {w0:Bs} {w w':World} (h:BelowB w0 w) (hb:Below w.heap.size w w'):BelowB w0 w':=
 h.step hb (fun k h1 _=>hb.block k (di h1 h.size)) fun k h1=>ABR (hb.block k (di h1 h.size))
theorem BelowB.plain {w w':World} (h:BelowB ⟨w,fun _=>False,fun _=>Go.undef⟩ w'):Below w.heap.size w w':=
 ⟨h.rest.os,h.rest.tape,h.rest.output,h.rest.size,fun k hk=>h.blk k hk fun h=>h⟩
def QE (w0:Bs) (R:Nat→Prop) (w:World) (St:Nat→Nat→Prop) (st:List Ob) (β:Nat→Option Nat) (x:Nat):Prop:=w0.may x∧¬ R x∧x<w.heap.size∧(∀ o,¬ St x o)∧∀ (l:Nat) (ob:Ob),st[l]?=some ob→ob.live=true→β l≠some x
def Own (w0:Bs) (R:Nat→Prop) (w:World) (St:Nat→Nat→Prop) (st:List Ob) (β:Nat→Option Nat):Prop:=∃ φ:Nat→Nat→Nat→Prop,
 (∀ (l:Nat) (ob:Ob) (b k:Nat) (c:Cl),st[l]?=some ob→ob.live=true→β l=some b→ob.xs.flatten[k]?=some c→G7 c=true→∃ u,w.cell? ⟨b,k,none⟩=some u∧RdO w St c u (φ l k)) ∧
 (∀ l k x,φ l k x→(∃ ob b,st[l]?=some ob∧ob.live=true∧β l=some b)∧QE w0 R w St st β x) ∧
 ∀ l l' k k' x,φ l k x→φ l' k' x→l=l'∧k=k'
theorem Own.move {w0:Bs} {R R':Nat→Prop} {w w':World} {St St':Nat→Nat→Prop} {st st':List Ob} {β β':Nat→Option Nat} (h:Own w0 R w St st β) (σ:Nat→Nat)
  (hx:∀ x,QE w0 R w St st β x→QE w0 R' w' St' st' β' x∧w'.heap[x]?=w.heap[x]?) (hS:∀ b o,St b o→St' b o) (hw:∀ b o,St b o→w'.cell? ⟨b,o,none⟩=w.cell? ⟨b,o,none⟩)
  (hob:∀ (l':Nat) (ob':Ob) (b k:Nat) (c:Cl),st'[l']?=some ob'→ob'.live=true→β' l'=some b→ob'.xs.flatten[k]?=some c→G7 c=true →
   ∃ ob b0,st[σ l']?=some ob∧ob.live=true∧β (σ l')=some b0∧ob.xs.flatten[k]?=some c∧w'.cell? ⟨b,k,none⟩=w.cell? ⟨b0,k,none⟩)
  (hσ:∀ (l1 l2:Nat) (o1 o2:Ob),st'[l1]?=some o1→st'[l2]?=some o2→o1.live=true→o2.live=true→σ l1=σ l2→l1=l2):Own w0 R' w' St' st' β':=by
 obtain⟨φ,h1,h2,h3⟩:=h
 refine⟨fun l k x=>(∃ ob b,st'[l]?=some ob∧ob.live=true∧β' l=some b)∧φ (σ l) k x, ?_, ?_, ?_⟩
 ·grind [RdO.mono]
 ·grind
 grind
def nm (w0:Bs) (a:Act) (i:Nat):Value:=if i<1000000 then a.tmps.getD i undef else w0.gs (i-1000000)
theorem ABS {w0:Bs} {a:Act} (h:a.tmps.size≤1000000) (hg:w0.gs=fun _=>undef) (i:Nat):nm w0 a i=a.tmps.getD i undef:=by
 unfold nm
 split
 ·rfl
 ·rw[hg]
  have:¬ i<a.tmps.size:=AQ2
  simp[this]
theorem AI2 {w0:Bs} {a:Act} {i:Nat} (h:¬ i<1000000):nm w0 a i=w0.gs (i-1000000):=bu h
theorem Wy {w0:Bs} {a:Act} {i:Nat} (h:i<1000000):nm w0 a i=a.tmps.getD i undef:=bG h
structure Core (w0:Bs) (St0 St:Nat→Nat→Prop) (β:Nat→Option Nat) (s:MS) (a:Act) (w:World):Prop where
 defers:a.defers = []
 size:a.tmps.size=s.n
 lim:s.n≤1000000
 env:∀ i,AVR w St s.st β (CV s.env i) (nm w0 a i)
 below:BelowB w0 w
 st0:∀ b o,St0 b o→St b o
 stOld:∀ b o,St b o→b<w0.heap.size→¬ w0.own b→St0 b o
 stIn:∀ b o,St b o→b<w.heap.size
 obs:∀ l ob b,s.st[l]?=some ob→ob.live=true→β l=some b→w0.may b∧b<w.heap.size∧ObR w St s.st β ob b
 nil:∀ l ob,s.st[l]?=some ob→ob.live=true→β l=none→ob.xs = []
 inj:∀ l l' ob ob' b,s.st[l]?=some ob→s.st[l']?=some ob'→ob.live=true→ob'.live=true→β l=some b→β l'=some b→l=l'
 sep:∀ l ob b o,s.st[l]?=some ob→ob.live=true→β l=some b→St b o→ob.wr=false∧o<ob.xs.length*ob.sz
 own:Own w0 (fun _=>False) w St s.st β
def Sim (w0:Bs) (St0:Nat→Nat→Prop) (s:MS) (a:Act) (w:World):Prop:=∃ St β,Core w0 St0 St β s a w
theorem RdC.mono {w w':World} {St St':Nat→Nat→Prop} {st st':List Ob} {β β':Nat→Option Nat} (hS:∀ b o,St b o→St' b o) (hw:∀ b o,St b o→w'.cell? ⟨b,o,none⟩=w.cell? ⟨b,o,none⟩)
  (hr:∀ l u,BZ w st β l u→BZ w' st' β' l u) (c:Cl) (u:Value) (h:RdC w St st β c u):RdC w' St' st' β' c u:=by
 cases c with
 | ref l=>exact hr l u h
 | v x=>exact RdD.mono hS hw _ _ h
 | sl xs=>exact RdD.mono hS hw _ _ h
 | ow ty sz xs=>simp[RdC,RdD] at h
theorem RdC.toB {w:World} {St:Nat→Nat→Prop} {st:List Ob} {β:Nat→Option Nat} {c:Cl} {u:Value} (h:RdC w St st β c u):RdB w St st β c u:=by
 cases c with
 | ow ty sz xs=>simp[RdC,RdD] at h
 | _=>exact h
theorem RdB.toC {w:World} {St:Nat→Nat→Prop} {st:List Ob} {β:Nat→Option Nat} {c:Cl} {u:Value} (hc:G7 c=false) (h:RdB w St st β c u):RdC w St st β c u:=by
 cases c with
 | ow ty sz xs=>simp[G7] at hc
 | _=>exact h
theorem RdC.notOw {w:World} {St:Nat→Nat→Prop} {st:List Ob} {β:Nat→Option Nat} {c:Cl} {u:Value} (h:RdC w St st β c u):G7 c=false:=by
 cases c with
 | ow ty sz xs=>simp[RdC,RdD] at h
 | _=>rfl
theorem RdB.mono {w w':World} {St St':Nat→Nat→Prop} {st st':List Ob} {β β':Nat→Option Nat} (hS:∀ b o,St b o→St' b o) (hw:∀ b o,St b o→w'.cell? ⟨b,o,none⟩=w.cell? ⟨b,o,none⟩)
  (hr:∀ l u,BZ w st β l u→BZ w' st' β' l u) (c:Cl) (u:Value) (h:RdB w St st β c u):RdB w' St' st' β' c u:=by
 cases c with
 | ow ty sz xs=>exact h
 | v x=>exact RdC.mono hS hw hr (.v x) u h
 | sl xs=>exact RdC.mono hS hw hr (.sl xs) u h
 | ref l=>exact RdC.mono hS hw hr (.ref l) u h
mutual
theorem AVR.mono {w w':World} {St St':Nat→Nat→Prop} {st st':List Ob} {β β':Nat→Option Nat} (hS:∀ b o,St b o→St' b o) (hw:∀ b o,St b o→w'.cell? ⟨b,o,none⟩=w.cell? ⟨b,o,none⟩)
  (hr:∀ l u,BZ w st β l u→BZ w' st' β' l u) (hp:∀ l i off u,AVR w St st β (.lp l i off) u→AVR w' St' st' β' (.lp l i off) u) :
  ∀ (x:AV) (u:Value),AVR w St st β x u→AVR w' St' st' β' x u
 | .c x,u,h=>by simp only[AVR] at h ⊢; exact RdC.mono hS hw hr x u h
 | .agg xs,u,h=>by
  simp only[AVR] at h ⊢
  obtain⟨us,h1,h2,h3⟩:=h
  refine⟨us,h1,h2,fun k c hk=>?_⟩
  obtain⟨y,hy,hc⟩:=h3 k c hk
  exact⟨y,hy,RdC.mono hS hw hr c y hc⟩
 | .lp l i off,u,h=>hp l i off u h
 | .ip xs,u,h=>by
  simp only[AVR] at h ⊢
  obtain⟨b,off,h1,h2⟩:=h
  exact⟨b,off,h1,RdL.mono hS hw xs b off h2⟩
 | .tup xs,u,h=>by
  simp only[AVR] at h ⊢
  obtain⟨us,h1,h2⟩:=h
  exact⟨us,h1,AVRs.mono hS hw hr hp xs us h2⟩
 | .undef,_,h=>AR4
 | .un,_,_=>by simp only[AVR]
 | .pin x u0,u,h=>by
  simp only[AVR] at h ⊢
  exact⟨h.1,AVR.mono hS hw hr hp x u h.2⟩
 | .clo f xs,u,h=>by
  simp only[AVR] at h ⊢
  obtain⟨us,h1,h2,h3⟩:=h
  refine⟨us,h1,h2,fun k c hk=>?_⟩
  obtain⟨b,off,hy,hc⟩:=h3 k c hk
  exact⟨b,off,hy,RdL.mono hS hw c b off hc⟩
theorem AVRs.mono {w w':World} {St St':Nat→Nat→Prop} {st st':List Ob} {β β':Nat→Option Nat} (hS:∀ b o,St b o→St' b o) (hw:∀ b o,St b o→w'.cell? ⟨b,o,none⟩=w.cell? ⟨b,o,none⟩)
  (hr:∀ l u,BZ w st β l u→BZ w' st' β' l u) (hp:∀ l i off u,AVR w St st β (.lp l i off) u→AVR w' St' st' β' (.lp l i off) u) :
  ∀ (xs:List AV) (us:List Value),AVRs w St st β xs us→AVRs w' St' st' β' xs us
 | [],us,h=>ASO
 | x::xs,us,h=>by
  simp only[AVRs] at h ⊢
  obtain⟨y,ys,h1,h2,h3⟩:=h
  exact⟨y,ys,h1,AVR.mono hS hw hr hp x y h2,AVRs.mono hS hw hr hp xs ys h3⟩
end
theorem ObR.mono {w w':World} {St St':Nat→Nat→Prop} {st st':List Ob} {β β':Nat→Option Nat} (hS:∀ b o,St b o→St' b o) (hw:∀ b o,St b o→w'.cell? ⟨b,o,none⟩=w.cell? ⟨b,o,none⟩)
  (hr:∀ l u,BZ w st β l u→BZ w' st' β' l u) {ob:Ob} {b:Nat} (hb:w'.heap[b]?=w.heap[b]?) (h:ObR w St st β ob b):ObR w' St' st' β' ob b:=by
 obtain⟨cs,h1,h2,h3⟩:=h
 refine⟨cs,AQ6,h2,fun k c hk=>?_⟩
 grind [RdB.mono]
theorem cell_of_block {w w':World} {b o:Nat} (h:w'.heap[b]?=w.heap[b]?):w'.cell? ⟨b,o,none⟩=w.cell? ⟨b,o,none⟩:=by simp[World.cell?,h]
theorem Own.grow {w0:Bs} {R R':Nat→Prop} {w w':World} {St St':Nat→Nat→Prop} {st:List Ob} {β:Nat→Option Nat} (h:Own w0 R w St st β) (hb:Below w.heap.size w w')
  (hS:∀ b o,St b o→St' b o) (hS':∀ b o,St' b o→b<w.heap.size→St b o) (hin:∀ b o,St b o→b<w.heap.size)
  (hob:∀ (l:Nat) (ob:Ob) (b:Nat),st[l]?=some ob→ob.live=true→β l=some b→b<w.heap.size) (hR:∀ x,x<w.heap.size→R' x→R x):Own w0 R' w' St' st β:=by
 refine h.move id (fun x hx=>?_) hS (fun b o hbo=>cell_of_block (hb.block b (hin b o hbo))) (fun l ob b k c h1 h2 h3 h4 h5=>?_) (fun _ _ _ _ _ _ _ _ e=>e)
 ·obtain⟨q1,q2,q3,q4,q5⟩:=hx
  exact⟨⟨q1,fun h=>q2 (hR x q3 h),di q3 hb.size,fun o ho=>q4 o (hS' x o ho q3),q5⟩,hb.block x q3⟩
 ·exact⟨ob,b,h1,h2,h3,h4,cell_of_block (hb.block b (hob l ob b h1 h2 h3))⟩
theorem Core.grow {w0:Bs} {St0 St:Nat→Nat→Prop} {β:Nat→Option Nat} {s:MS} {a:Act} {w w':World} (h:Core w0 St0 St β s a w) (hb:Below w.heap.size w w')
  {St':Nat→Nat→Prop} (hS:∀ b o,St b o→St' b o) (hS':∀ b o,St' b o→b<w.heap.size→St b o) (hin:∀ b o,St' b o→b<w'.heap.size):Core w0 St0 St' β s a w':=by
 have hw0:w0.heap.size≤w.heap.size:=h.below.size
 have hblk:∀ k,k<w.heap.size→w'.heap[k]?=w.heap[k]?:=hb.block
 have hw:∀ b o,St b o→w'.cell? ⟨b,o,none⟩=w.cell? ⟨b,o,none⟩:=fun b o hbo=>cell_of_block (hblk b (h.stIn b o hbo))
 have hr:∀ l u,BZ w s.st β l u→BZ w' s.st β l u:=by
  intro l u hu
  unfold BZ at hu ⊢
  cases hl:s.st[l]? with
  | none=>grind
  | some ob =>
   grind
 have hp:∀ l i off u,AVR w St s.st β (.lp l i off) u→AVR w' St' s.st β (.lp l i off) u:=by
  intro l i off u hu; simpa only[AVR] using hu
 exact {
  defers:=h.defers
  size:=h.size
  lim:=h.lim
  env:=fun i=>AVR.mono hS hw hr hp _ _ (h.env i)
  below:=h.below.grow hb
  st0:=fun b o hbo=>hS b o (h.st0 b o hbo)
  stOld:=fun b o hbo hlt=>h.stOld b o (hS' b o hbo (di hlt hw0)) hlt
  stIn:=hin
  obs:=fun l ob b hl hlive hβ=>by
   obtain⟨h1,h2,h3⟩:=h.obs l ob b hl hlive hβ
   grind [di,ObR.mono]
  nil:=h.nil
  inj:=h.inj
  sep:=fun l ob b o hl hlive hβ hbo=>h.sep l ob b o hl hlive hβ (hS' b o hbo (h.obs l ob b hl hlive hβ).2.1)
  own:=h.own.grow hb hS hS' h.stIn (fun l ob b h1 h2 h3=>(h.obs l ob b h1 h2 h3).2.1) (fun _ _ h=>h) }
theorem Core.put {w0:Bs} {St0 St:Nat→Nat→Prop} {β:Nat→Option Nat} {s:MS} {a:Act} {w:World} (h:Core w0 St0 St β s a w) (d:Option Nat) {x:AV} {u:Value} (hx:AVR w St s.st β x u) :
  Core w0 St0 St β (s.put d x) (a.put d u) w:=by
 cases d with
 | none=>exact h
 | some d =>
  by_cases hd:d<s.n
  ·have e1:s.put (some d) x=⟨s.n,(d,x)::s.env,s.st⟩:=by simp[MS.put,hd]
   rw[e1]
   exact {
    defers:=h.defers
    size:=by simpa [Act.put] using h.size
    lim:=h.lim
    env:=fun i=>by
     simp only[CV,Act.put]
     by_cases hi:d=i
     ·subst hi
      have:d<a.tmps.size:=by rw[h.size]; exact hd
      rw[Wy (di hd h.lim)]
      simpa [this] using hx
     ·have:=h.env i
      unfold nm at this ⊢
      simpa [hi,Array.getElem?_setIfInBounds] using this
    below:=h.below,st0:=h.st0,stOld:=h.stOld,stIn:=h.stIn,obs:=h.obs,nil:=h.nil,inj:=h.inj,sep:=h.sep,own:=h.own }
  ·have e1:s.put (some d) x=s:=by simp[MS.put,hd]
   rw[e1]
   have e2:a.put (some d) u=a:=by
    have:¬ d<a.tmps.size:=by rw[h.size]; exact hd
    cases a
    simp only[Act.put,Act.mk.injEq,abP]
    simp only at this
    exact Array.setIfInBounds_eq_of_size_le AQ2
   grind
theorem AVR.un {w:World} {St:Nat→Nat→Prop} {st:List Ob} {β:Nat→Option Nat} {u:Value}:AVR w St st β .un u:=by simp only[AVR]
def Ac (P:Program) (t:TypeId):Option Nat:=(P.info? t).map (·.size)
def BX (P:Program) (t:TypeId):Option Bool:=(P.underlying t).map fun d=>match d with | .struct _ | .array _ _=>true | _=>false
def TB (P:Program) (t:TypeId):Option (List Value):=(P.info? t).bind fun i=>i.zero.map fun z=>z.cells.toList
def ABT (zs:List Value):Bool:=zs.all Rz
def VZ (P:Program) (t:TypeId):Option (List Cl):=match TB P t with
 | some zs=>if ABT zs then some (zs.map .v) else none
 | none=>none
theorem TC {P:Program} {t:TypeId} {cs:List Cl} (h:VZ P t=some cs):∃ zs,TB P t=some zs∧ABT zs=true∧cs=zs.map .v:=by
 unfold VZ at h
 grind
def AB (P:Program) (t:TypeId) (f:Nat):Option (Nat×TypeId):=match P.underlying t with
 | some (.struct fs)=>(fs[f]?).map fun x=>(x.offset,x.type)
 | _=>none
def EO (P:Program) (t:TypeId):Option TypeId:=match P.underlying t with
 | some (.slice e)=>some e
 | _=>none
theorem JB {P:Program} {t:TypeId} {n:Nat} (h:Ac P t=some n) (w:World):(sizeOf t).run P w = .ok n w:=by
 unfold Ac at h
 cases hi:P.info? t with
 | none=>grind
 | some i=>simp[hi] at h; simp[sizeOf,typeInfo,hi,h]
theorem W9 {P:Program} {t:TypeId} {g:Bool} (h:BX P t=some g) (w:World):(isAgg t).run P w = .ok g w:=by
 unfold BX at h
 cases hu:P.underlying t with
 | none=>grind
 | some d =>
  simp only[hu,dm,ai] at h
  subst h
  simp only[isAgg,Sem.run_bind,run_underlying hu,Result.andThen_ok]
  cases d<;>rfl
theorem W_ {P:Program} {t:TypeId} {cs:List Value} (h:TB P t=some cs) (w:World):∃ z,(zeroValue t).run P w = .ok z w∧z.cells.toList=cs:=by
 unfold TB at h
 cases hi:P.info? t with
 | none=>grind
 | some i =>
  cases hz:i.zero with
  | none=>grind
  | some z=>simp[hi,hz] at h; exact⟨z,by simp[zeroValue,typeInfo,hi,hz],h⟩
def YN (v:Value):AV:=match v with
 | .agg cs=>.agg (cs.toList.map .v)
 | .tuple vs=>if vs.toList.isEmpty then .undef else .un
 | v=>.c (.v v)
def sF (v:Value):Bool:=match v with
 | .agg cs=>cs.toList.all Rz
 | .tuple _=>true
 | v=>Rz v
def BD:Operand→Bool
 | .tmp t=>decide (t<1000000)
 | .const v=>sF v
 | _=>true
def unpin:AV→AV
 | .pin x _=>x
 | .c x=>.c x
 | .agg xs=>.agg xs
 | .lp l i off=>.lp l i off
 | .ip xs=>.ip xs
 | .tup xs=>.tup xs
 | .undef=>.undef
 | .un=>.un
 | .clo f xs=>.clo f xs
theorem AVR.unpin {w:World} {St:Nat→Nat→Prop} {st:List Ob} {β:Nat→Option Nat} {x:AV} {u:Value} (h:AVR w St st β x u):AVR w St st β (unpin x) u:=by
 cases x with
 | pin x u0=>simp only[AVR] at h; exact h.2
 | _=>exact h
def FC (s:MS):Operand→AV
 | .tmp t=>unpin (CV s.env t)
 | .const v=>YN v
 | .global g=>.c (.v (.pointer (some ⟨g,0,none⟩)))
 | .func f=>.c (.v (.func (.func f) #[] #[]))
theorem AEK {w:World} {St:Nat→Nat→Prop} {st:List Ob} {β:Nat→Option Nat} (v:Value) (hv:sF v=true):AVR w St st β (YN v) v:=by
 cases v with
 | agg cs =>
  simp only[YN,AVR]
  simp only[sF] at hv
  refine⟨cs.toList,AQ3,AQ3,fun k c hk=>?_⟩
  simp only[lg,aax] at hk
  obtain⟨y,hy,rfl⟩:=hk
  refine⟨y,hy, ?_⟩
  simp only[RdC,RdD,abV]
  grind
 | tuple vs =>
  simp only[YN]
  split
  ·rename_i h
   have:vs = #[]:=by cases vs; simp_all
   subst this
   simp only[AVR]; rfl
  ·simp only[AVR]
 | _=>simp only[YN,AVR,RdC,RdD,abV]; exact hv
theorem CX {w0:Bs} {St0 St:Nat→Nat→Prop} {β:Nat→Option Nat} {s:MS} {a:Act} {w:World} (h:Core w0 St0 St β s a w) (x:Operand) (hx:BD x=true):AVR w St s.st β (FC s x) (a.eval x):=by
 cases x with
 | tmp t =>
  have:=h.env t
  rw[Wy (by simpa [BD] using hx)] at this
  exact this.unpin
 | const v=>exact AEK v hx
 | global g=>simp[FC,AVR,RdC,RdD,Act.eval,Rz]
 | func f=>simp[FC,AVR,RdC,RdD,Act.eval,Rz]
def cellsA:AV→Option (List Cl)
 | .c x=>some [x]
 | .agg xs=>some xs
 | _=>none
theorem UU {w:World} {St:Nat→Nat→Prop} {st:List Ob} {β:Nat→Option Nat} {x:AV} {u:Value} {cs:List Cl} (h:AVR w St st β x u) (hc:cellsA x=some cs) :
  u.cells.toList.length=cs.length∧∀ (k:Nat) (c:Cl),cs[k]?=some c→∃ y,u.cells.toList[k]?=some y∧RdC w St st β c y:=by
 cases x with
 | c x =>
  simp only[cellsA,ai] at hc
  subst hc
  simp only[AVR] at h
  have h1:u.oneCell'=true:=by
   exact AOM
  have h2:u.cells = #[u]:=by cases u<;>first | rfl | simp[Value.oneCell'] at h1
  grind
 | agg xs =>
  simp only[cellsA,ai] at hc
  subst hc
  simp only[AVR] at h
  obtain⟨us,rfl,h2,h3⟩:=h
  exact⟨by simpa [Value.cells] using h2,fun k c hk=>by simpa [Value.cells] using h3 k c hk⟩
 | _=>simp[cellsA] at hc
theorem RdC.one {w:World} {St:Nat→Nat→Prop} {st:List Ob} {β:Nat→Option Nat} {x:Cl} {u:Value} (h:RdC w St st β x u):u.oneCell'=true:=by
 exact AOM
theorem RdB.one {w:World} {St:Nat→Nat→Prop} {st:List Ob} {β:Nat→Option Nat} {x:Cl} {u:Value} (h:RdB w St st β x u):u.oneCell'=true:=by
 cases x with
 | ow ty sz xs=>exact h
 | v y=>exact RdC.one (w:=w) (St:=St) (st:=st) (β:=β) (x:=.v y) h
 | sl xs=>exact RdC.one (w:=w) (St:=St) (st:=st) (β:=β) (x:=.sl xs) h
 | ref l=>exact RdC.one (w:=w) (St:=St) (st:=st) (β:=β) (x:=.ref l) h
def EH (st:List Ob) (l:Nat):Option Ob:=match st[l]? with
 | some ob=>if ob.live then some ob else none
 | none=>none
theorem Ci {st:List Ob} {l:Nat} {ob:Ob} (h:EH st l=some ob):st[l]?=some ob∧ob.live=true:=by
 unfold EH at h
 grind
def U3 (st:List Ob):Cl→Option (List (List Cl))
 | .v (.slice none 0 0)=>some []
 | .v _=>none
 | .sl xs=>some xs
 | .ref l=>(EH st l).map (·.xs)
 | .ow _ _ _=>none
def fzC (st:List Ob):Cl→Option Cl
 | .v (.slice none 0 0)=>some (.sl [])
 | .v (.slice _ _ _)=>none
 | .v x=>some (.v x)
 | .sl xs=>some (.sl xs)
 | .ref l=>match EH st l with
  | some ob=>if Fv ob.xs then some (.sl ob.xs) else none
  | none=>none
 | .ow _ _ _=>none
def Qu (st:List Ob) (l:Nat):List Ob:=st.modify l fun ob=>{ ob with wr:=false }
def yJ (st:List Ob):Cl→List Ob
 | .ref l=>Qu st l
 | _=>st
theorem G8 {xs:List (List Cl)} {sz:Nat} (hl:∀ x∈xs,x.length=sz):∀ (i j:Nat) (x:List Cl) (c:Cl),xs[i]?=some x→x[j]?=some c→xs.flatten[i*sz+j]?=some c:=by
 induction xs with
 | nil=>grind
 | cons x0 xs ih =>
  intro i j x c hi hj
  have h0:x0.length=sz:=hl x0 AQ3
  simp only[lL]
  cases i with
  | zero =>
   grind
  | succ i =>
   grind
theorem EZ {xs:List (List Cl)} {sz:Nat} (hl:∀ x∈xs,x.length=sz):xs.flatten.length=xs.length*sz:=by
 induction xs with
 | nil=>simp
 | cons x xs ih =>
  grind
theorem XA {w:World} {St:Nat→Nat→Prop} {st:List Ob} {β:Nat→Option Nat} {c:Cl} {u:Value} (hp:AC c=true) (h:RdC w St st β c u):RdD w St c u:=by
 cases c with
 | ref l=>simp[AC] at hp
 | v x=>exact h
 | sl xs=>exact h
 | ow ty sz xs=>simp[AC] at hp
theorem MV {c:Cl} (hp:AC c=true):G7 c=false:=by
 cases c<;>simp_all [AC,G7]
theorem YO {w:World} {st:List Ob} {β:Nat→Option Nat} {l:Nat} (l':Nat) (u:Value):BZ w (Qu st l) β l' u↔BZ w st β l' u:=by
 unfold BZ Qu
 grind
theorem Core.freeze {w0:Bs} {St0 St:Nat→Nat→Prop} {β:Nat→Option Nat} {s:MS} {a:Act} {w:World} (h:Core w0 St0 St β s a w) (l:Nat) {ob:Ob} (hl:EH s.st l=some ob) (hp:Fv ob.xs=true) :
  ∃ St',Core w0 St0 St' β ⟨s.n,s.env,Qu s.st l⟩ a w∧(∀ b o,St b o→St' b o)∧(∀ u,BZ w s.st β l u→RdD w St' (.sl ob.xs) u)∧∀ b,β l=some b→(∀ x∈ob.xs,x.length=ob.sz)∧RdE w St' ob.xs b 0:=by
 obtain⟨hl1,hlive⟩:=Ci hl
 refine⟨fun b o=>St b o∨(β l=some b∧o<ob.xs.length*ob.sz), ?_,fun b o hbo=>.inl hbo, ?_, ?_⟩
 ·have hget:∀ l' ob',(Qu s.st l)[l']?=some ob'→∃ ob'',s.st[l']?=some ob''∧ob'.ty=ob''.ty∧ob'.sz=ob''.sz∧ob'.xs=ob''.xs∧ob'.live=ob''.live∧(l=l'→ob'.wr=false)∧(l≠l'→ob'=ob''):=by
   intro l' ob' h'
   unfold Qu at h'
   rw[List.getElem?_modify] at h'
   simp only[Option.map_eq_map,aax] at h'
   obtain⟨ob'',h1,h2⟩:=h'
   refine⟨ob'',h1, ?_⟩
   exact AP5
  have hS:∀ b o,St b o→St b o∨(β l=some b∧o<ob.xs.length*ob.sz):=fun b o hbo=>.inl hbo
  have hr:∀ l' u,BZ w s.st β l' u→BZ w (Qu s.st l) β l' u:=fun l' u hu=>(YO l' u).2 hu
  have hp':∀ l' i off u,AVR w St s.st β (.lp l' i off) u→AVR w (fun b o=>St b o∨(β l=some b∧o<ob.xs.length*ob.sz)) (Qu s.st l) β (.lp l' i off) u:=by
   intro l' i off u hu
   simp only[AVR] at hu ⊢
   cases hq:(Qu s.st l)[l']? with
   | none =>
    unfold Qu at hq
    grind
   | some ob' =>
    grind
  exact {
   defers:=h.defers
   size:=h.size
   lim:=h.lim
   env:=fun i=>AVR.mono hS (fun _ _ _=>rfl) hr hp' _ _ (h.env i)
   below:=h.below
   st0:=fun b o hbo=>.inl (h.st0 b o hbo)
   stOld:=fun b o hbo hlt hno=>by
    rcases hbo with hbo | ⟨hβ,_⟩
    ·exact h.stOld b o hbo hlt hno
    ·rcases(h.obs l ob b hl1 hlive hβ).1 with h' | h'
     ·omega
     grind
   stIn:=fun b o hbo=>by
    rcases hbo with hbo | ⟨hβ,_⟩
    ·exact h.stIn b o hbo
    ·exact(h.obs l ob b hl1 hlive hβ).2.1
   obs:=fun l' ob' b hl' hlive' hβ=>by
    obtain⟨ob'',h1,h2,h3,h4,h5,_⟩:=hget l' ob' hl'
    obtain⟨h6,h7,h8⟩:=h.obs l' ob'' b h1 AQ6 hβ
    refine⟨h6,h7, ?_⟩
    obtain⟨cs,g1,g2,g3⟩:=ObR.mono hS (fun _ _ _=>rfl) hr rfl h8
    exact⟨cs,AQ6,AQ6,AQ6⟩
   nil:=fun l' ob' hl' hlive' hβ=>by
    obtain⟨ob'',h1,_,_,h4,h5,_⟩:=hget l' ob' hl'
    rw[h4]; exact h.nil l' ob'' h1 AQ6 hβ
   inj:=fun l1 l2 o1 o2 b h1 h2 h3 h4 h5 h6=>by
    obtain⟨p1,q1,_,_,_,r1,_⟩:=hget l1 o1 h1
    obtain⟨p2,q2,_,_,_,r2,_⟩:=hget l2 o2 h2
    exact h.inj l1 l2 p1 p2 b q1 q2 AQ6 AQ6 h5 h6
   sep:=fun l' ob' b o hl' hlive' hβ hbo=>by
    obtain⟨ob'',h1,_,h3,h4,h5,h6,h7⟩:=hget l' ob' hl'
    rcases hbo with hbo | ⟨hβl,ho⟩
    ·have:=h.sep l' ob'' b o h1 AQ6 hβ hbo
     grind
    ·have e:l=l':=h.inj l l' ob ob'' b hl1 h1 hlive AQ6 hβl hβ
     grind
   own:=by
    refine h.own.move id (fun x hx=>⟨⟨hx.1,hx.2.1,hx.2.2.1,fun o ho=>?_,fun l' o' hl' hlv=>by
     obtain⟨o2,g1,_,_,_,g5,_⟩:=hget l' o' hl'
     exact hx.2.2.2.2 l' o2 g1 AQ6⟩,rfl⟩) hS (fun _ _ _=>rfl) (fun l' ob' b k c h1 h2 h3 h4 h5=>?_) (fun _ _ _ _ _ _ _ _ e=>e)
    ·rcases ho with ho | ⟨hβ,_⟩
     ·exact hx.2.2.2.1 o ho
     ·exact hx.2.2.2.2 l ob hl1 hlive hβ
    grind }
 ·intro u hu
  unfold BZ at hu
  simp only[hl1] at hu
  have hu2:=hu.2 hlive
  cases hβ:β l with
  | none =>
   simp only[hβ] at hu2
   obtain⟨rfl,hx⟩:=hu2
   simp only[RdD]
   exact⟨none,0,ARS,ARS,by simp[maxLen],⟨0,ARS⟩,.inl hx⟩
  | some b =>
   simp only[hβ] at hu2
   obtain⟨cap,cs,rfl,h2,h3,h4,h5⟩:=hu2
   obtain⟨_,_,cs',g1,g2,g3⟩:=h.obs l ob b hl1 hlive hβ
   simp only[RdD]
   refine⟨some ⟨b,0,none⟩,cap,rfl,h2,h3,⟨ob.sz,g2⟩,.inr ⟨b,0,rfl, ?_⟩⟩
   refine AEV ob.sz g2 fun i x hi=>AEI fun j c hj=>?_
   have hf:=G8 g2 i j x c hi hj
   obtain⟨v,hv,hc⟩:=g3 _ c hf
   have hlt:i*ob.sz+j<ob.xs.length*ob.sz:=by
    exact AQE
   have hpc:AC c=true:=by
    have h1:CS x=true:=aS.1 hp x (bI hi)
    exact aS.1 h1 c (bI hj)
   refine⟨.inr ⟨rfl,AQ2⟩,v, ?_, ?_⟩
   ·rw[World.cell?,g1]
    grind
   ·exact AP_
 ·intro b hβ
  obtain⟨_,_,cs',g1,g2,g3⟩:=h.obs l ob b hl1 hlive hβ
  refine⟨g2, ?_⟩
  refine AEV ob.sz g2 fun i x hi=>AEI fun j c hj=>?_
  have hf:=G8 g2 i j x c hi hj
  obtain⟨v,hv,hc⟩:=g3 _ c hf
  have hlt:i*ob.sz+j<ob.xs.length*ob.sz:=by
   exact AQE
  have hpc:AC c=true:=by
   have h1:CS x=true:=aS.1 hp x (bI hi)
   exact aS.1 h1 c (bI hj)
  refine⟨.inr ⟨hβ,AQ2⟩,v, ?_, ?_⟩
  ·rw[World.cell?,g1]
   grind
  ·exact AP_
def iZ (k:IntKind) (x y:Int):Int:=((BitVec.ofInt k.bits x &&& BitVec.ofInt k.bits y).toNat:Int)
def orK (k:IntKind) (x y:Int):Int:=((BitVec.ofInt k.bits x ||| BitVec.ofInt k.bits y).toNat:Int)
def AKF (op:BinOp) (k:IntKind) (x y:Int):Option Value:=match op with
 | .add=>some (.int k (k.wrap (x+y)))
 | .sub=>some (.int k (k.wrap (x-y)))
 | .mul=>some (.int k (k.wrap (x*y)))
 | .quo=>if y=0 then none else some (.int k (k.wrap (x.tdiv y)))
 | .rem=>if y=0 then none else some (.int k (k.wrap (x.tmod y)))
 | .and=>some (.int k (k.wrap (iZ k x y)))
 | .or=>some (.int k (k.wrap (orK k x y)))
 | .eql=>some (.bool (x==y))
 | .neq=>some (.bool (x != y))
 | .lss=>some (.bool (decide (x<y)))
 | .leq=>some (.bool (decide (x≤y)))
 | .gtr=>some (.bool (decide (x>y)))
 | .geq=>some (.bool (decide (x≥y)))
 | _=>none
def AKG (op:BinOp) (x y:ByteArray):Option Value:=match op with
 | .add=>if x.size+y.size≤maxLen then some (.string (x++y)) else none
 | .eql=>some (.bool (x.toList==y.toList))
 | .neq=>some (.bool (!(x.toList==y.toList)))
 | .lss=>some (.bool (Op.bytesLess x.toList y.toList))
 | .leq=>some (.bool (Op.bytesLess x.toList y.toList||x.toList==y.toList))
 | .gtr=>some (.bool (!(Op.bytesLess x.toList y.toList||x.toList==y.toList)))
 | .geq=>some (.bool (!(Op.bytesLess x.toList y.toList)))
 | _=>none
def AHt (P:Program) (op:BinOp) (T:TypeId) (a b:Value):Option Value:=match a,b with
 | .int k x,.int k' y=>match op with
  | .shl=>if y<0 then none else some (.int k (k.wrap (x*2 ^ min y.toNat k.bits)))
  | .shr=>if y<0 then none else some (.int k (k.wrap (x.fdiv (2 ^ min y.toNat k.bits))))
  | op=>if k=k' then AKF op k x y else none
 | .string x,.string y=>AKG op x y
 | .bool x,.bool y=>match P.underlying T with
  | some .bool=>(match op with
   | .eql=>some (.bool (x==y))
   | .neq=>some (.bool (!(x==y)))
   | _=>none)
  | _=>none
 | _,_=>none
theorem KC {k:IntKind} {n:Int} (h:(Lit.int k n).wf=true):k.wrap n=n:=by
 simp only[Lit.wf,az,bC] at h
 obtain⟨h1,h2⟩:=h
 unfold IntKind.wrap
 exact AOi
theorem AHu {k:IntKind} {x y:Int} (h:(Lit.int k x).wf=true):(Lit.int k (x.tmod y)).wf=true:=by
 have h2:(x.tmod y).natAbs≤x.natAbs:=by
  rw[Int.natAbs_tmod]; exact Nat.mod_le _ _
 have h3:0≤x→0≤x.tmod y:=fun h=>Int.tmod_nonneg y h
 have h6:x≤0→x.tmod y≤0:=fun h=>by
  have:=Int.tmod_nonneg (a:=-x) y AQ2
  simp_all
 have h4:x.tmod y≤x∨x.tmod y≤ -x:=AQ2
 have h5:x≤x.tmod y∨ -x≤x.tmod y:=AQ2
 generalize x.tmod y=z at *
 clear h2
 simp only[Lit.wf,az,bC] at *
 exact AOi
theorem AHv {k:IntKind} {x:Int} {n:Nat} (h:(Lit.int k x).wf=true):(Lit.int k (x.fdiv (2 ^ n))).wf=true:=by
 have hp:(1:Int)≤2 ^ n:=by
  have:(0:Int)<2 ^ n:=Int.pow_pos ARJ
  omega
 have e:x.fdiv (2 ^ n)=x/(2 ^ n):=by
  rw[aaN _ AQ2]
 have h1:0≤x→0≤x/(2 ^ n)∧x/(2 ^ n)≤x:=fun hx=>⟨Int.ediv_nonneg hx AQ2,Int.ediv_le_self _ hx⟩
 have h2:x<0→x≤x/(2 ^ n)∧x/(2 ^ n)<0:=fun hx=>by
  refine⟨?_,Int.ediv_neg_of_neg_of_pos hx AQ2⟩
  rw[Int.le_ediv_iff_mul_le AQ2]
  have h:=abe (show 0≤ -x from AQ2) (show (0:Int)≤2 ^ n-1 from AQ2)
  grind
 rw[e]
 simp only[Lit.wf,az,bC] at *
 exact AOi
theorem AHw {P:Program} {op:BinOp} {T:TypeId} {a b r:Value} (ha:Rz a=true) (h:AHt P op T a b=some r) (x y:Operand) (w:World) :
  (do eqGuard op T x y a b; binOp op T a b:Sem Value).run P w = .ok r w∧Rz r=true:=by
 unfold AHt at h
 split at h
 ·rename_i k x' k' y'
  have hg:(eqGuard op T x y (.int k x') (.int k' y')).run P w = .ok () w:=by
   unfold eqGuard; cases op<;>simp
  simp only[Sem.run_bind,hg,Result.andThen_ok]
  simp only[Rz] at ha
  split at h
  ·split at h
   ·cases h
   ·simp only[ai] at h; subst h
    rename_i hy
    refine⟨?_,ARb⟩
    simp[binOp,Op.shift,hy]
  ·split at h
   ·cases h
   ·simp only[ai] at h; subst h
    rename_i hy
    refine⟨?_,ARb⟩
    have:=KC (AHv (n:=min y'.toNat k.bits) ha)
    simp[binOp,Op.shift,hy,this]
  ·split at h
   ·rename_i hn1 hn2 hk
    subst hk
    unfold AKF at h
    cases op<;>simp only[ai] at h<;>first
     | (cases h; done)
     | (subst h; refine⟨by simp[binOp,Op.intArith,Op.intCmp,Op.intBits,iZ,orK], ?_⟩; first | rfl | exact Go.wf_wrap _ _)
     | (
       split at h
       ·cases h
       ·simp only[ai] at h; subst h
        rename_i hy
        refine⟨?_,ARb⟩
        have:=KC (AHu (y:=y') ha)
        simp[binOp,Op.intDiv,hy,this])
     | skip
   ·cases h
 ·rename_i x' y'
  have hg:(eqGuard op T x y (.string x') (.string y')).run P w = .ok () w:=by
   unfold eqGuard; cases op<;>simp
  simp only[Sem.run_bind,hg,Result.andThen_ok]
  unfold AKG at h
  cases op<;>simp only[ai] at h<;>first
   | (cases h; done)
   | (subst h; refine⟨by simp[binOp,Op.stringOp],rfl⟩)
   | (
     split at h
     ·rename_i hs
      simp only[ai] at h; subst h
      have hs':¬ (IntKind.i64.max<((x'.size+y'.size:Nat):Int)):=by simp only[maxLen] at hs; simp[IntKind.max,IntKind.signed,IntKind.bits]; omega
      refine⟨?_, ?_⟩
      ·simp only[binOp,Op.stringOp,gt_iff_lt,bu hs',Sem.run_pure]
      ·simp only[Rz,bC]; grind
     ·cases h)
 ·rename_i x' y'
  have hg:(eqGuard op T x y (.bool x') (.bool y')).run P w = .ok () w:=by
   unfold eqGuard; cases op<;>simp
  simp only[Sem.run_bind,hg,Result.andThen_ok]
  split at h
  ·rename_i hu
   cases op<;>simp only[ai] at h<;>first
    | (cases h; done)
    | (
      subst h
      refine⟨?_,rfl⟩
      have he:(Op.equal T (.bool x') (.bool y')).run P w = .ok (x'==y') w:=by
       unfold Op.equal Op.maxDepth
       rw[Op.equalIn]
       simp[run_underlying hu]
      first
       | (show ((do pure (.bool (← Op.equal T (.bool x') (.bool y')))):Sem Value).run P w=_; simp_all)
       | (show ((do pure (.bool (!(← Op.equal T (.bool x') (.bool y'))))):Sem Value).run P w=_; simp_all))
  ·cases h
 ·cases h
def aUn (op:UnOp) (a:Value):Option Value:=match op,a with
 | .neg,.int k n=>some (.int k (k.wrap (0-n)))
 | .not,.bool b=>some (.bool !b)
 | _,_=>none
theorem AKH {P:Program} {op:UnOp} {a r:Value} (h:aUn op a=some r) (w:World):(Op.unary op a).run P w = .ok r w∧Rz r=true:=by
 unfold aUn at h
 split at h<;>(try simp only[ai] at h)<;>first
  | (subst h; exact⟨by simp[Op.unary,Op.intArith],ARb⟩)
  | (subst h; exact⟨by simp[Op.unary],rfl⟩)
  | cases h
inductive Kd where
 | bool
 | int (k:IntKind)
 | str
def AF_ (P:Program) (t:TypeId):Option Kd:=match P.underlying t with
 | some .bool=>some .bool
 | some (.int k)=>some (.int k)
 | some .string=>some .str
 | _=>none
def flatK (P:Program):List Field→Nat→Option (List Kd)
 | [],_=>some []
 | f::fs,i=>match AF_ P f.type,flatK P fs (i+1) with
  | some k, some ks => if f.offset = i ∧ f.name ≠ "_" then some (k :: ks) else none
  | _,_=>none
def dP (P:Program) (T:TypeId):Option (List Kd):=match P.underlying T with
 | some (.struct fs)=>if P.eqGuardType P.depth T=false∧P.stoodInHeld T=false then flatK P fs.toList 0 else none
 | _=>none
def G9:Kd→Cl→Cl→Option Bool
 | .bool,.v (.bool a),.v (.bool b)=>some (a==b)
 | .int k,.v (.int k1 a),.v (.int k2 b)=>if k1=k∧k2=k then some (a==b) else none
 | .str,.v (.string a),.v (.string b)=>some (a.toList==b.toList)
 | _,_,_=>none
def Dx:List Kd→List Cl→List Cl→Option Bool
 | [],[],[]=>some true
 | k::ks,c::cs,d::ds=>match G9 k c d,Dx ks cs ds with
  | some b,some r=>some (b&&r)
  | _,_=>none
 | _,_,_=>none
theorem ABU {P:Program} {t:TypeId} {k:Kd} (h:AF_ P t=some k):P.plainKey t=true:=by
 unfold AF_ at h
 unfold Program.plainKey
 grind
theorem AKI {P:Program} {w:World} {t:TypeId} {k:Kd} {c d:Cl} {b:Bool} (hk:AF_ P t=some k) (h:G9 k c d=some b) (n:Nat):∃ x y,c = .v x∧d = .v y∧(Op.equalIn (n+1) t x y).run P w = .ok b w:=by
 unfold G9 at h
 unfold AF_ at hk
 split at h
 ·grind [ai,run_equalIn_bool]
 ·rename_i q k1 a k2 a'
  split at h
  ·rename_i hkk
   obtain⟨rfl,rfl⟩:=hkk
   simp only[ai] at h
   subst h
   split at hk<;>simp_all
   rename_i hu
   simp[Op.equalIn,run_underlying hu]
  ·cases h
 ·rename_i a a'
  simp only[ai] at h
  subst h
  split at hk<;>simp_all
  rename_i hu
  rw[← beq_toListBytes]
  simp[Op.equalIn,run_underlying hu]
 ·cases h
theorem ZP {P:Program} {w:World} (n:Nat) {us vs:List Value}:∀ (fs:List Field) (i:Nat) (ks:List Kd) (cs ds:List Cl) (r:Bool),flatK P fs i=some ks→Dx ks cs ds=some r →
  (∀ (k:Nat) (x:Value),cs[k]?=some (.v x)→us[i+k]?=some x)→(∀ (k:Nat) (x:Value),ds[k]?=some (.v x)→vs[i+k]?=some x)→(Op.eqFields (n+1) us.toArray vs.toArray fs).run P w = .ok r w
 | [],i,ks,cs,ds,r,hf,hb,hu,hv=>by
  simp only[flatK,ai] at hf
  subst hf
  unfold Dx at hb
  split at hb
  ·simp only[ai] at hb
   subst hb
   simp[Op.eqFields]
  ·rename_i he; cases he
  ·cases hb
 | f::fs,i,ks,cs,ds,r,hf,hb,hu,hv=>by
  simp only[flatK] at hf
  split at hf
  ·rename_i k ks' hk hks
   split at hf
   ·rename_i hc
    obtain⟨hoff,hname⟩:=hc
    simp only[ai] at hf
    subst hf
    cases cs with
    | nil=>simp[Dx] at hb
    | cons c cs =>
     cases ds with
     | nil=>simp[Dx] at hb
     | cons d ds =>
      simp only[Dx] at hb
      split at hb
      ·rename_i b r' hb1 hb2
       simp only[ai] at hb
       subst hb
       obtain⟨x,y,rfl,rfl,heq⟩:=AKI (w:=w) hk hb1 n
       have hp:=ABU hk
       have p1:(part f.type us.toArray f.offset).run P w = .ok x w:=run_part_plain w hp (by rw[hoff]; simpa using hu 0 x rfl)
       have p2:(part f.type vs.toArray f.offset).run P w = .ok y w:=run_part_plain w hp (by rw[hoff]; simpa using hv 0 y rfl)
       have ih:=ZP (w:=w) n fs (i+1) ks' cs ds r' hks hb2 (fun k z hz=>by
        have:=hu (k+1) z (by simpa using hz)
        rwa [show i+(k+1)=i+1+k from AQ2] at this) (fun k z hz=>by
        have:=hv (k+1) z (by simpa using hz)
        rwa [show i+(k+1)=i+1+k from AQ2] at this)
       simp only[Op.eqFields,hname,ne_eq,not_false_eq_true,bH,Sem.run_bind,p1,p2,heq,Result.andThen_ok,Sem.run_ite]
       cases b with
       | true=>simpa using ih
       | false=>simp
      ·cases hb
   ·cases hf
  ·cases hf
theorem yK {P:Program} {w:World} {T:TypeId} {ks:List Kd} {cs ds:List Cl} {r:Bool} {us vs:List Value} (hs:dP P T=some ks) (hb:Dx ks cs ds=some r) (hu:∀ (k:Nat) (x:Value),cs[k]?=some (.v x)→us[k]?=some x) (hv:∀ (k:Nat) (x:Value),ds[k]?=some (.v x)→vs[k]?=some x) (x y:Operand) :
  (do eqGuard .eql T x y (.agg us.toArray) (.agg vs.toArray); binOp .eql T (.agg us.toArray) (.agg vs.toArray):Sem Value).run P w = .ok (.bool r) w ∧
   (do eqGuard .neq T x y (.agg us.toArray) (.agg vs.toArray); binOp .neq T (.agg us.toArray) (.agg vs.toArray):Sem Value).run P w = .ok (.bool (!r)) w:=by
 unfold dP at hs
 split at hs
 ·rename_i fs hut
  split at hs
  ·rename_i hc
   obtain⟨hg,hst⟩:=hc
   have hfo:P.fieldsOf T=fs:=by simp[Program.fieldsOf,hut]
   have heq:(Op.equal T (.agg us.toArray) (.agg vs.toArray)).run P w = .ok r w:=by
    unfold Op.equal Op.maxDepth
    rw[run_equalIn_struct w 9999 T us.toArray vs.toArray AQ6 hst,hfo]
    exact ZP 9998 fs.toList 0 ks cs ds r hs hb (fun k x hx=>AQ6) (fun k x hx=>AQ6)
   constructor
   ·simp[eqGuard,run_program,hg,binOp,heq]
   ·simp[eqGuard,run_program,hg,binOp,heq]
  ·cases hs
 ·cases hs
def Ph (row:List Cl) (off n:Nat) (g:Bool):Option AV:=
 if g then(if off+n≤row.length then some (.agg ((row.drop off).take n)) else none)
 else match row[off]? with
  | some c=>some (.c c)
  | none=>none
def LH:AV→Bool
 | .c x=>!G7 x
 | .agg xs=>xs.all fun c=>!G7 c
 | _=>true
def XB (x:AV):Option Nat:=match x with
 | .c (.v (.int _ n))=>if 0≤n then some n.toNat else none
 | _=>none
def AI4 (t:Bool) (x y:AV):AV:=match t with
 | true=>x
 | false=>y
def TD:List (List Cl)→Option (List Int)
 | []=>some []
 | [.v (.int .u8 n)]::r=>match TD r with
  | some ns=>some (n::ns)
  | none=>none
 | _::_=>none
def JJ (P:Program) (s:MS) (op:Op):Option AV:=match op with
 | .move x=>some (FC s x)
 | .assign x=>some (FC s x)
 | .pick c x y=>match FC s c with
  | .c (.v (.bool t))=>some (AI4 t (FC s x) (FC s y))
  | _=>none
 | .load T a=>match Ac P T,BX P T with
  | some n,some g=>match FC s a with
   | .lp l i off=>match EH s.st l with
    | some ob=>match ob.xs[i]? with
     | some row=>match Ph row off n g with
      | some y=>if LH y=true then some y else none
      | none=>none
     | none=>none
    | none=>none
   | .ip row=>Ph row 0 n g
   | _=>none
  | _,_=>none
 | .nilCheck x=>match FC s x with
  | .lp l i off=>match EH s.st l with
   | some _=>some (.lp l i off)
   | none=>none
  | .ip row=>some (.ip row)
  | .c (.v (.func (.func f) a b))=>some (.c (.v (.func (.func f) a b)))
  | _=>none
 | .binOp op T x y _=>match FC s x,FC s y with
  | .c (.v a),.c (.v b)=>match AHt P op T a b with
   | some r=>some (.c (.v r))
   | none=>none
  | .agg cs,.agg ds=>match dP P T with
   | some ks=>match Dx ks cs ds with
    | some r=>match op with
     | .eql=>some (.c (.v (.bool r)))
     | .neq=>some (.c (.v (.bool (!r))))
     | _=>none
    | none=>none
   | none=>none
  | _,_=>none
 | .unOp op _ x=>match FC s x with
  | .c (.v a)=>match aUn op a with
   | some r=>some (.c (.v r))
   | none=>none
  | _=>none
 | .convert src dst x=>match P.underlying src,P.underlying dst,FC s x with
  | some _,some (.int k),.c (.v (.int _ n))=>some (.c (.v (.int k (k.wrap n))))
  | some _,some .string,.c (.v (.string b))=>some (.c (.v (.string b)))
  | some (.slice e),some .string,.c d=>match P.underlying e,U3 s.st d with
   | some (.int .u8),some xs=>match TD xs with
    | some ns=>some (.c (.v (.string (strOfNums ns))))
    | none=>none
   | _,_=>none
  | _,_,_=>none
 | .fieldAddr T x f=>match AB P T f with
  | some (fo,ft)=>match Ac P ft with
   | some (_+1)=>match FC s x with
    | .lp l i off=>match EH s.st l with
     | some _=>some (.lp l i (off+fo))
     | none=>none
    | .ip row=>some (.ip (row.drop fo))
    | _=>none
   | _=>none
  | none=>none
 | .field T x f=>match AB P T f with
  | some (fo,ft)=>match Ac P ft,BX P ft,FC s x with
   | some n,some g,.agg row=>Ph row fo n g
   | _,_,_=>none
  | none=>none
 | .indexAddr T x ix=>match EO P T with
  | some e=>match Ac P e,XB (FC s ix) with
   | some n,some k=>match FC s x with
    | .c (.sl xs)=>match xs[k]? with
     | some row=>if row.length=n then some (.ip row) else none
     | none=>none
    | .c (.ref l)=>match EH s.st l with
     | some ob=>if k<ob.xs.length∧ob.sz=n then some (.lp l k 0) else none
     | none=>none
    | _=>none
   | _,_=>none
  | none=>none
 | .index T x ix=>match P.underlying T with
  | some .string=>match FC s x,XB (FC s ix) with
   | .c (.v (.string b)),some k=>match b[k]? with
    | some c=>some (.c (.v (.int .u8 c.toNat)))
    | none=>none
   | _,_=>none
  | _=>none
 | .extract x ix=>match FC s x with
  | .tup xs=>xs[ix]?
  | _=>none
 | .call c=>match c.callee with
  | .builtin .len=>match c.argTypes.toList,c.args.toList with
   | [t],[x]=>match P.underlying t,FC s x with
    | some .string,.c (.v (.string b))=>some (.c (.v (.int .i64 b.size)))
    | some (.slice _),.c d=>match U3 s.st d with
     | some xs=>some (.c (.v (.int .i64 xs.length)))
     | none=>none
    | _,_=>none
   | _,_=>none
  | .builtin .min=>match c.args.toList with
   | [x,y]=>match FC s x,FC s y with
    | .c (.v (.int .i64 a)),.c (.v (.int .i64 b))=>some (.c (.v (.int .i64 (if b<a then b else a))))
    | _,_=>none
   | _=>none
  | .builtin .max=>match c.args.toList with
   | [x,y]=>match FC s x,FC s y with
    | .c (.v (.int .i64 a)),.c (.v (.int .i64 b))=>some (.c (.v (.int .i64 (if a<b then b else a))))
    | _,_=>none
   | _=>none
  | _=>none
 | _=>none
end Go.Vm
