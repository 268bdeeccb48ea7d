/- A part. -/
import Derived.WalkKit
import Derived.WalkLawsBesides
import Derived.OpenShut
import Derived.Laws.StructEq
import Derived.ChangeKeysEq
import Derived.Laws.BytesArg
set_option linter.unusedSimpArgs false
set_option linter.unusedVariables false
namespace Go.Vm
section
variable {p q r:Prop}
theorem AEx(h:p:=by
 rintro⟨k,n⟩ ⟨hk,hb,hs2,hn⟩
 dsimp only at hk hb hs2 hn
 simp only[go_sem,ae]
 refine AA0 (fun h2=>?_) (fun h2=>?_)
 ·have hk':k<p.l.length:=by simpa using h2
  rw[LV cs d p.l hk'] at hb
  rw[LU d p.l hk'] at hs2
  simp only[go_sem,ae,AA _ hk',hk',hdw]
  try refine AAm ?_
  try simp only[go_sem,ae,AA _ hk',hk',hdw]
  first | refine CY (hx p.l[k] (ax hk')) ?_ | refine CW (hx p.l[k] (ax hk')) fun _=>?_
  rcases hv:JA cs d p.l[k] with _ | _
  ·have e1:D5 cs d p.l[k] = -1:=by simp[D5,hv]
   rw[hv,ai] at hb
   have e2:D5 cs (d+1) p = -1:=by simp[D5,JA,← hb]
   have e3:decide ((-1:Int)<0)=true:=by decide
   rw[e2]
   simp only[go_sem,ae,e1,e3]
  ·have e1:D5 cs d p.l[k]=(CO d p.l[k]:Int):=by simp[D5,hv]
   have e4:=MO d _ hv
   have e5:4 ^ d≤4 ^ 3:=aax (by omega) (by omega)
   have e3:decide ((CO d p.l[k]:Int)<0)=false:=by simp
   rw[hv,aj] at hb
   have hw1:IntKind.i64.wrap ((n:Int)+(CO d p.l[k]:Int))=((n+CO d p.l[k]:Nat):Int):=by rw[wrap_i64 (by omega) (by omega)]; omega
   simp only[go_sem,ae,e1,e3,hw1,wrap_i64 (n:=(k:Int)+1) (by omega) (by omega)]
   exact⟨(k+1,n+CO d p.l[k]),⟨rfl,rfl⟩,rfl,⟨by omega,hb,by simp only; omega,by simp only; omega⟩,by simp only; omega⟩
 ·have hk':k=p.l.length:=by simp at h2; omega
  subst hk'
  rw[aV] at hb hs2
  have e1:D5 cs (d+1) p=n:=by
   have e2:JA cs (d+1) p=true:=by rw[JA,hs,← hb]; rfl
   have e3:n=CO (d+1) p:=by rw[CO]; simpa using hs2
   rw[D5,bu e2,e3]
  rw[e1]
  simp only[go_sem]):p:=h
theorem AEy(h:p:=by
 have hlen:xs.length≤9223372036854775807:=by have:=hw.1.1; simpa [Go.maxLen] using this
 simp only[go_sem,ae,aA,aB]
 refine AB7 0 [0,1,5] (A:=Nat) (fun k=>⟨27,[(0,.c (.sl (xs.map c))),(1,.c (.sl (xs.map c))),(5,.c (.v (.int .i64 k)))],[]⟩) (fun k=>k≤xs.length) (fun k=>xs.length-k) 0 ⟨⟨rfl,rfl⟩,rfl,az _⟩ ?_
 intro k hk
 simp only[go_sem,ae]
 refine AA0 (fun h=>?_) (fun h=>?_)
 ·have hk':k<xs.length:=by simpa using h
  simp only[go_sem]
  refine AAm ?_
  simp only[go_sem,ae,aA,aB,AA _ hk',hk',wrap_i64 (n:=(k:Int)+1) (by omega) (by omega),(hc _).1,(hc _).2.1,(hc _).2.2]
  refine CY (hx xs[k] (ax hk')) ?_
  simp only[go_sem,AA _ hk',wrap_i64 (n:=(k:Int)+1) (by omega) (by omega)]
  exact⟨k+1,⟨rfl,rfl⟩,rfl,by omega,by first | omega | (simp only; omega)⟩
 ·simp only[go_sem]):p:=h
theorem AEz(h:p:=by
 have hlen:xs.length≤9223372036854775807:=by have:=hw.1.1; simpa [Go.maxLen] using this
 have hl2:l≤9223372036854775807:=J3 hw.2.1
 simp only[go_sem,ae,wrap_i64 (n:=l-xs.length) (by omega) (by omega)]
 refine AA0 (fun h=>by simp only[go_sem,Zn h]) (fun h=>?_)
 simp only[go_sem]
 refine AB7 0 [0,1,5] (Uz 27 c xs) (szP sz xs (DW sz xs l)) (fun x=>xs.length-x.1) (0,l-xs.length) ⟨⟨rfl,rfl⟩,rfl,szP.start (Qk h)⟩ ?_
 rintro⟨k,m⟩ hP
 simp only[go_sem,Uz,ae]
 refine AA0 (fun h=>?_) (fun h=>?_)
 ·have hk:=ltN h
  simp only[go_sem,AA _ hk,(hc _).1,(hc _).2.1,(hc _).2.2]
  refine CW (hx xs[k] (ax hk) m hP.2.1) fun _=>?_
  simp only[go_sem]
  refine AA0 (fun h=>by simp only[go_sem,hP.neg hk h]) (fun h=>?_)
  simp only[go_sem,wrap_i64 (n:=(k:Int)+1) (by omega) (by omega)]
  exact⟨(k+1,sz xs[k] m),⟨rfl,rfl⟩,rfl,hP.step hk h,by simp only; omega⟩
 ·simp only[go_sem,hP.fin h]):p:=h
theorem AE0(h:p:=by
 refine EndH.openR 10 n0 25 ?_
 simp only[openR,Bc,go_sem,F,ah]
 refine EndH.close 10 n0 [14,16,17,18,19] (row':=DTask.o (DV t 9)) rfl (hF _).1 rfl (by decide) ?_ ?_
 ·simp only[go_sem,DTask.o_eq,DV,lT,Ag,DU,F]
  simp[AB,DI,Hr,q3]
 simp only[Ar,EG,go_sem,F,ah]
 have hs1:=hst (DV t 9)
 try simp only[go_sem] at hs1
 try simp only[q3] at hs1
 simp only[go_sem,F,ah,hs1,q3]
 have eT:∀ D,Cf ⟨w.c0,w.time,w.t,w.e,w.d,w.b,w.m.set i t.s,w.x,w.p,w.tasks,D⟩ 2=Cf w 2:=fun _=>rfl
 refine EndH.self ?_
 simp only[go_sem,Bh,setT,codeW,endW,BM,Dj,DWorld.o_eq,aX,htm]
 simp[AB,DV,hm,eT,q3]):p:=h
theorem AE1(h:p:=by
 simp only[go_sem,F,ah,ag,G,ae,el0]
 first | refine AC4 (.c (.v (.bool (there w r)))) (InlS.bor (args':=[.agg w.c,.agg r.c]) [.val (.c (.v (.bool (there w r))))] ⟨Oj (AO rfl (AQ _) (Ac _)) (AO rfl (Ba _) (Ci _)) (BorX.set rfl DBuf.o_nr DBuf.o_er fun x hx=>by rw[au hq] at hx; cases hx; exact oM rfl rfl) (AO rfl (AQ _) (Ac _)) (AO rfl (Bj _) (BZ _)) (AO rfl (AQ _) (Ac _)) (BorX.set rfl DTask.o_nr DTask.o_er fun x hx=>by rw[au hlt,hat] at hx; cases hx; exact La rfl hm) (AO rfl (Cc _) (Ai _)),Jt r,trivial⟩ rfl (BQ w r)) ?_ | refine ACt _ _ (InlS.bor (args':=[.agg w.c,.agg r.c]) [.val (.c (.v (.bool (there w r))))] ⟨Oj (AO rfl (AQ _) (Ac _)) (AO rfl (Ba _) (Ci _)) (BorX.set rfl DBuf.o_nr DBuf.o_er fun x hx=>by rw[au hq] at hx; cases hx; exact oM rfl rfl) (AO rfl (AQ _) (Ac _)) (AO rfl (Bj _) (BZ _)) (AO rfl (AQ _) (Ac _)) (BorX.set rfl DTask.o_nr DTask.o_er fun x hx=>by rw[au hlt,hat] at hx; cases hx; exact La rfl hm) (AO rfl (Cc _) (Ai _)),Jt r,trivial⟩ rfl (BQ w r)) ?_ | refine ACy _ _ (InlS.bor (args':=[.agg w.c,.agg r.c]) [.val (.c (.v (.bool (there w r))))] ⟨Oj (AO rfl (AQ _) (Ac _)) (AO rfl (Ba _) (Ci _)) (BorX.set rfl DBuf.o_nr DBuf.o_er fun x hx=>by rw[au hq] at hx; cases hx; exact oM rfl rfl) (AO rfl (AQ _) (Ac _)) (AO rfl (Bj _) (BZ _)) (AO rfl (AQ _) (Ac _)) (BorX.set rfl DTask.o_nr DTask.o_er fun x hx=>by rw[au hlt,hat] at hx; cases hx; exact La rfl hm) (AO rfl (Cc _) (Ai _)),Jt r,trivial⟩ rfl (BQ w r)) ?_
 simp only[go_sem,F,ah,ag,G,ae,el0,hthr]
 try (refine AAm ?_; simp only[go_sem,F,ah,ag,G,ae,el0,hthr])
 exact⟨rfl,rfl⟩):p:=h
theorem AE3(h:p:=by
 have eT:∀ D,Cf ⟨w.c0,w.time,w.t,w.e,w.d,w.b,w.m.set i t.s,w.x,w.p,w.tasks,D⟩ 2=Cf w 2:=fun _=>rfl
 refine EndH.self ?_
 simp only[go_sem,Bh,setT,codeW,endW,BM,Dj,DWorld.o_eq,aX,htm]
 simp[AB,DV,hm,eT,q3]):p:=h
theorem AFT(h:p:=by
 refine EndH.self ?_
 simp only[go_sem,Bh,setT,codeW,endW,BM,Dj,DWorld.o_eq,aX,htm]
 simp[AB,DV,lT,Ag,DU,hm]):p:=h
theorem AFU(h:p:=by
 have hll:l.length≤1048576:=by have:=(LJ hb hdd).1; omega
 refine AAT _ hr fun _=>?_
 simp only[go_sem]
 refine AAT _ (En l hll) fun _=>?_
 rcases h5:typeOf l != ty with _ | _
 rotate_left
 ·have h5':¬ (typeOf l=ty∧Aw l=b):=fun q=>by simp at h5; exact h5 q.1
  simp only[go_sem,h5,aZ h5',Dn]
 have h5':typeOf l=ty:=by simpa using h5
 simp only[go_sem,h5]
 refine AAT _ (M_ l hll) fun _=>?_
 simp only[go_sem]
 refine AAT _ (Il (Aw l) b) fun _=>?_
 rcases h6:decide (Aw l=b) with _ | _
 ·have h7:¬ (typeOf l=ty∧Aw l=b):=fun q=>by simp at h6; exact h6 q.2
  simp only[go_sem,h5,h6,aZ h7,Dn]
 ·have h7:typeOf l=ty∧Aw l=b:=⟨h5',by simpa using h6⟩
  simp only[go_sem,h5,h6,bu h7,Dn]):p:=h
theorem AFV(h:p:=by
 rw[hsz] at hfit
 generalize hcs':(cs.toList.take (ob.xs.length*n)++news++cs.toList.drop (ob.xs.length*n+news.length)).toArray=C' at hr
 have hC's:C'.size=cs.size:=by
  rw[← hcs']
  simp only[abf,bn,aaP,holdl]
  omega
 have hC'at:∀ k,k<ob.xs.length*n+news.length→C'[k]?=(cs.toList.take (ob.xs.length*n)++news)[k]?:=fun k hk=>by
  grind
 have hturn:=k1.turn (b:=b0) p1 (uu h hl hlive hβ) hfree c3 (cs':=C') (fun o hbo=>by
  grind) hC's
 have hcell:∀ b' o,St b' o→(w.setRow b0 C').cell? ⟨b',o,none⟩=w.cell? ⟨b',o,none⟩:=fun b' o hbo=>by
  by_cases e2:b'=b0
  ·subst e2
   have ho:=(hkeep o hbo).2
   rw[hosz] at ho
   rw[World.cell?,World.cell?,setRow_heap w b' cs C' ob.ty (0,0) c3,c3]
   grind
  grind [cell_of_block,setRow_other]
 have hrr:∀ l' u,BN w (Aj s.st l) β l' u→BN (w.setRow b0 C') (Aj s.st l) β l' u:=by
  intro l' u hu
  unfold BN at hu ⊢
  cases hq:(Aj s.st l)[l']? with
  | none=>grind
  | some o2 =>
   grind [setRow_other]
 obtain⟨a1,a2,a3⟩:=hturn.addObB ⟨e,n,ob.xs++ys,ob.wr,true⟩ (some b0) (by simp) (fun b' hb=>by
  simp only[ak] at hb
  subst hb
  refine⟨p1,by simp_all,hfree,fun o hbo=>?_,C',by grind [setRow_heap],hlall,fun k c hk=>?_⟩
  ·grind
  ·obtain⟨u,u1,u2⟩:=hboth k c hk
   have hk':k<ob.xs.length*n+news.length:=by
    have:=(aF.1 u1).1
    simpa only[bn,holdl] using this
   exact⟨u,by grind,RdB.mono (fun _ _ h=>h) hcell hrr _ _ u2⟩) (by
  refine Vd h hl hlive hβ (ys:=ys) rfl hysno (fun x hx=>?_) (by simp_all) hcell (fun l2 o2 b2 h1 h2 h3 h4=>?_) (fun k hk=>?_)
  ·have hxb:x≠b0:=fun e2=>hx.2.2.2.2 l ob hl hlive (by rw[hβ,e2])
   grind [setRow_other]
  ·exact setRow_other w b0 b2 C' fun e2=>h4 (h.inj l l2 ob o2 b0 hl h1 hlive h2 hβ (by rw[h3,e2]))
  ·have hk':k<ob.xs.length*n:=by rw[← hxfl]; exact hk
   rw[World.cell?,World.cell?,setRow_heap w b0 cs C' ob.ty (0,0) c3,c3]
   grind)
 refine⟨_,_,_,St,_,hexec _ _ hr,.inl rfl,a1, ?_⟩
 rw[← hkl]
 exact NY (b:=some b0) rfl (by simp) fun _=>⟨cap,C',by simp,by grind,c2,by grind [setRow_heap],by grind⟩):p:=h
theorem AFq(h:p:=by
 refine AB5 _ (AP p.col 0 _) ?_
 rcases c1:Aa p.col 0 ((cs.length:Int)-1) with _ | _
 ·simp only[go_sem,ae,k1,k2,c1,JB,ai]
 obtain⟨m,hm,hml⟩:=hin c1
 have hgm:(cs[p.col.toNat]?).getD 0=cs[m]:=by rw[hm]; simp[hml]
 have c1':=c1
 rw[hm] at c1'
 simp only[go_sem,ae,k1,k2,c1]
 refine CY (IV p.v) ?_
 rcases c2:BK p.v with _ | _
 ·simp only[go_sem,ae,k1,k2,c1,c2,JB,ai,aH]
 rcases c3:(p.v.ty==cs[m]) with _ | _
 ·simp only[go_sem,ae,k1,k2,c1,c2,c3,hm,AA _ hml,hml,JB,ai,aH]
  try simp[JB,hgm,c1,c2,c3,hm,hml]
 simp only[go_sem,ae,k1,k2,c1,c2,c3,hm,AA _ hml,hml]
 refine AB5 _ (AP p.op 1 6) ?_
 rcases c4:Aa p.op 1 6 with _ | _
 ·simp only[go_sem,ae,k1,k2,c1,c2,c3,c4,hm,AA _ hml,hml,JB,ai,aH]
  try simp[JB,hgm,c1,c2,c3,c4,hm,hml]
 ·simp only[go_sem,ae,k1,k2,c1,c2,c3,c4,hm,AA _ hml,hml]
  try simp[JB,hgm,c1,c1',c2,c3,c4,hm,hml]):p:=h
theorem AGY(h:p:=by
 refine AB5 _ (AL p.col 0 _) ?_
 rcases c1:Aa p.col 0 ((cs.length:Int)-1) with _ | _
 ·simp only[go_sem,ae,h1,hl4,hwl,k1,k2,c1]
 obtain⟨m,hm,hml⟩:=hin c1
 have hgm:(cs[p.col.toNat]?).getD 0=cs[m]:=by rw[hm]; simp[hml]
 simp only[go_sem,ae,h1,hl4,hwl,k1,k2,c1]
 refine AB5 _ (AL p.op 1 6) ?_
 rcases c4:Aa p.op 1 6 with _ | _
 ·simp only[go_sem,ae,h1,hl4,hwl,k1,k2,c1,c4]
 simp only[go_sem,ae,h1,hl4,hwl,k1,k2,c1,c4]
 refine CY (Dt p.v) ?_
 rcases c2:BK p.v with _ | _
 ·simp only[go_sem,ae,h1,hl4,hwl,k1,k2,c1,c2,c4]
 rcases c3:(p.v.ty==cs[m]) with _ | _
 ·simp only[go_sem,ae,h1,hl4,hwl,k1,k2,c1,c2,c3,c4,hm,AA _ hml,hml]
 have hl0:((p.l.length:Int)==0)=false:=by
  have:JB cs p=true:=by simp only[JB,hgm,c1,c2,c3,c4,aS]
  simpa [this] using hs1
 simp only[go_sem,ae,h1,hl4,hwl,k1,k2,c1,c2,c3,c4,hm,AA _ hml,hml,hl0]):p:=h
theorem AGZ(h:p:=by
 simp only[go_sem]
 refine ABU ?_
 simp only[go_sem,AA _ hi',TG,Io,aT,az,aa8,hkle,hkm,g1,g2,g3,← bV,← bY,bz,aaP,aa5,aN,htk,bD,wrap_i64 (n:=(i:Int)+1) (by omega) (by omega)]
 exact⟨i+1,Head.trans (NK 5 rfl (MH _ _ _)) (AB3 [(5,false)] ⟨rfl,rfl,MH _ _ _,trivial⟩ (by rw[hds,Uf]; rfl)),hi',by omega⟩):p:=h
theorem AGa(h:p:=by
 refine AAT _ (DF [] (by simp)) fun _=>?_
 rcases h5:typeOf [] != ty with _ | _
 rotate_left
 ·rw[aZ (by simpa using h5)]
  simp only[go_sem,h5,Dn]
 rw[bu (by simpa using h5)]
 simp only[go_sem,h5]
 refine AAT _ (Eo [] (by simp)) fun _=>?_
 simp only[go_sem]
 refine AAT _ (CJ b k [] (Aw [])) fun _=>?_
 rcases h6:again b k [] (Aw []) with _ | l'<;>simp only[go_sem,Dn]):p:=h
theorem AGb(h:p:=by
 have hll:l.length≤1048576:=by have:=(LJ hb hdd).1; omega
 refine AAT _ hr fun _=>?_
 simp only[go_sem,aI]
 refine AAT _ (DF l hll) fun _=>?_
 rcases h5:typeOf l != ty with _ | _
 rotate_left
 ·rw[aZ (by simpa using h5)]
  simp only[go_sem,h5,Dn]
 rw[bu (by simpa using h5)]
 simp only[go_sem,h5]
 refine AAT _ (Eo l hll) fun _=>?_
 simp only[go_sem]
 refine AAT _ (CJ b k l (Aw l)) fun _=>?_
 rcases h6:again b k l (Aw l) with _ | l'<;>simp only[go_sem,Dn]):p:=h
theorem AGc(h:p:=by
 rcases hv:rowOk cs l[k] with _ | _
 ·have hno:¬ OW cs l k:=by intro hg; have:=(hg hk').1.1; rw[hv] at this; cases this
  simp only[go_sem,hv,PO hno]
 rcases hid:decide (l[k].id>1000000000) with _ | _
 rotate_left
 ·have hno:¬ OW cs l k:=by intro hg; have:=(hg hk').2; simp at hid; omega
  simp only[go_sem,hv,hid,AA _ hk',hk',PO hno]
 have hid':l[k].id≤1000000000:=by simp at hid; omega
 rcases abk k with hz | hz
 ·have hp:decide ((k:Int)>0)=false:=by simp; omega
  simp only[go_sem,hv,hid,hp,AA _ hk',hk',wrap_i64 (n:=(k:Int)+1) (by omega) (by omega)]
  exact⟨k+1,⟨rfl,rfl⟩,rfl,⟨by omega,hnext fun _=>⟨⟨hv,fun h0=>by omega⟩,hid'⟩⟩,by omega⟩
 ·have hp:decide ((k:Int)>0)=true:=by simp; omega
  have hk1:k-1<l.length:=by omega
  have hw1:IntKind.i64.wrap ((k:Int)-1)=((k-1:Nat):Int):=by rw[wrap_i64 (by omega) (by omega)]; omega
  rcases hq:decide (l[k-1].id≥l[k].id) with _ | _
  ·simp only[go_sem,hv,hid,hp,hw1,AA _ hk',AA _ hk1,hk',hk1,hq,wrap_i64 (n:=(k:Int)+1) (by omega) (by omega)]
   exact⟨k+1,⟨rfl,rfl⟩,rfl,⟨by omega,hnext fun _=>⟨⟨hv,fun _=>by simp at hq; omega⟩,hid'⟩⟩,by omega⟩
  ·have hno:¬ OW cs l k:=by intro hg; have:=(hg hk').1.2 hz; simp at hq; omega
   simp only[go_sem,hv,hid,hp,hw1,AA _ hk',AA _ hk1,hk',hk1,hq,PO hno]):p:=h
theorem AGd(h:p:=by
 have hge:=grownCap_ge w (ob.xs.length+ys.length) cap e
 obtain⟨β',g1,g2⟩:=Ve k1 e n (ob.xs++ys) ob.wr (cs.toList.take (ob.xs.length*n)++news) (Builtin.zeroCells z'.cells (grownCap w (ob.xs.length+ys.length) cap e-(ob.xs.length+ys.length))) (grownCap w (ob.xs.length+ys.length) cap e) hlall (by
  grind) hboth (by grind) (grownCap_le_maxLen w _ cap e (by simp only[maxLen]; omega)) (by rw[size_zeroCells,hzs]; simp) (by
  have hbd:=FX w (.cells ((cs.toList.take (ob.xs.length*n)++news).toArray++Builtin.zeroCells z'.cells (grownCap w (ob.xs.length+ys.length) cap e-(ob.xs.length+ys.length))) e)
  refine Vd h hl hlive hβ (ys:=ys) rfl hysno (fun x hx=>⟨fun e2=>by have:=hx.2.2.1; omega,hbd.block x hx.2.2.1⟩) hbd.size (fun b o hbo=>cell_of_block (hbd.block b (h.stIn b o hbo))) (fun l2 o2 b2 h1 h2 h3 _=>hbd.block b2 (h.obs l2 o2 b2 h1 h2 h3).2.1) (fun k hk=>?_)
  have hk':k<ob.xs.length*n:=by rw[← hxfl]; exact hk
  rw[World.cell?,World.cell?,Ej w _,c3]
  grind)
 simp only[hkl,bn] at g2
 have earr:(cs.toList.take (ob.xs.length*n)++news).toArray=(cs.toList.take (ob.xs.length*n)).toArray++news.toArray:=by simp
 rw[earr] at g1 g2
 exact⟨_,_,_,St,β',hexec _ _ hr,.inl rfl,g1,g2⟩):p:=h
theorem AGe(h:p:=by
 have hlen:xs.length≤9223372036854775807:=by have:=hw.1.1; simpa [Go.maxLen] using this
 have hl2:l≤9223372036854775807:=J3 hw.2.1
 simp only[go_sem,ae,wrap_i64 (n:=l-xs.length) (by omega) (by omega)]
 refine AA0 (fun h=>?_) (fun h=>?_)
 ·have h':l-xs.length<0:=by simpa using h
  simp only[go_sem]
  simp[Fv,h']
 ·have h':¬ l-xs.length<0:=by simpa using h
  simp only[go_sem]
  simp[Fv,h']):p:=h
theorem AGf(h:p:=by
 rcases kq:noQ t.q with _ | _
 ·simp only[go_sem,bi,aU,aN,kpc,kh,kr,kid,kq,C9,ai,aj]
 rcases kts:t.ts==0 with _ | _
 ·simp only[go_sem,bi,aU,aN,kpc,kh,kr,kid,kq,kts,C9,ai,aj]
 rcases kver:t.ver==0 with _ | _
 ·simp only[go_sem,bi,aU,aN,kpc,kh,kr,kid,kq,kts,kver,C9,ai,aj]
 rcases kl:((t.l.length:Int)==0) with _ | _
 ·simp only[go_sem,bi,aU,aN,kpc,kh,kr,kid,kq,kts,kver,kl,C9,ai,aj]
 rcases ki:t.i==0 with _ | _
 ·simp only[go_sem,bi,aU,aN,kpc,kh,kr,kid,kq,kts,kver,kl,ki,C9,ai,aj]
 rcases kj:t.j==0 with _ | _
 ·simp only[go_sem,bi,aU,aN,kpc,kh,kr,kid,kq,kts,kver,kl,ki,kj,C9,ai,aj]
 rcases ks:t.s==0 with _ | _
 ·simp only[go_sem,bi,aU,aN,kpc,kh,kr,kid,kq,kts,kver,kl,ki,kj,ks,C9,ai,aj]
 rcases kat:t.at0==0 with _ | _
 ·simp only[go_sem,bi,aU,aN,kpc,kh,kr,kid,kq,kts,kver,kl,ki,kj,ks,kat,C9,ai,aj]
 rcases kown:t.own==0 with _ | _
 ·simp only[go_sem,bi,aU,aN,kpc,kh,kr,kid,kq,kts,kver,kl,ki,kj,ks,kat,kown,C9,ai,aj]
 rcases kwon:t.won with _ | _
 rotate_left
 ·simp only[go_sem,bi,aU,aN,kpc,kh,kr,kid,kq,kts,kver,kl,ki,kj,ks,kat,kown,kwon,C9,ai,aj,aJ]
 simp only[go_sem,bi,aU,aN,kpc,kh,kr,kid,kq,kts,kver,kl,ki,kj,ks,kat,kown,kwon,C9,aj,aK]):p:=h
theorem AGg(h:p:=by
 have hr:Bo cs q=(MM cs q.out&&((q.col==0)&&Aa q.out.length 1 3)):=by simp[Bo,h1,k1]
 rw[hr]
 simp only[go_sem,ae,h1,c1,k1]
 refine AB4 1 (A:=Nat) (fun k=>[(32,.c (.v (.int .i64 (k))))]) (fun _=>[⟨69,10,[AGI q],true,true⟩]) (fun k=>k≤q.out.length∧MM cs (q.out.drop k)=MM cs q.out) (fun k=>q.out.length-k) 0 ⟨⟨rfl,rfl⟩,rfl,az _,rfl⟩ ?_
 rintro k ⟨hk,hb⟩
 simp only[go_sem,ae]
 refine AA0 (fun h=>?_) (fun h=>?_)
 ·have hk':k<q.out.length:=by simpa using h
  rw[Ui cs q.out hk'] at hb
  simp only[go_sem,ae,AA _ hk',hk',hwl]
  refine AAT _ (AL q.out[k] 0 _) fun _=>?_
  rcases hv:Aa q.out[k] 0 ((cs.length:Int)-1) with _ | _
  ·rw[hv,ai] at hb
   simp only[go_sem,ae,hv,← hb,ai]
  ·rw[hv,aj] at hb
   simp only[go_sem,ae,hv,wrap_i64 (n:=(k:Int)+1) (by omega) (by omega)]
   exact⟨k+1,⟨rfl,rfl⟩,rfl,⟨by omega,hb⟩,by omega⟩
 ·have hk':k=q.out.length:=by simp at h; omega
  rw[hk',aV] at hb
  have hb':MM cs q.out=true:=by rw[← hb]; rfl
  rw[hb',aj]
  simp only[go_sem,ae]
  refine AAT _ (AL q.out.length 1 3) fun _=>?_
  rcases hA:Aa q.out.length 1 3 with _ | _
  ·simp only[go_sem,ae,hA,aH]
  ·simp only[go_sem,ae,hA,aS]):p:=h
theorem AGi(h:p:=by
 refine CW (hgr) fun _=>?_
 simp only[go_sem]
 refine AB4 2 (A:=Nat) (fun x=>[(36,.c (.v (.int .i64 (x))))]) (fun _=>[⟨44,14,[w.c],true,true⟩,⟨133,5,[w.d.l[k].c],true,true⟩]) (Ea (lg w w.d.l[k]) fun x=>Az w.d.l[k] x.id) (fun x=>(lg w w.d.l[k]).length-x) 0 ⟨⟨rfl,rfl⟩,rfl,Ce⟩ ?_
 intro j hj
 simp only[go_sem]
 refine AA0 (fun h=>?_) (fun h=>?_)
 ·have hj':j<(lg w w.d.l[k]).length:=by simpa using h
  simp only[go_sem,AA _ hj',hj']
  try refine AAm ?_
  try simp only[go_sem,AA _ hj',hj']
  first | refine CY (D7 w.d.l[k] (lg w w.d.l[k])[j].id) ?_ | refine CW (D7 w.d.l[k] (lg w w.d.l[k])[j].id) fun _=>?_
  rcases h3:Az w.d.l[k] (lg w w.d.l[k])[j].id with _ | _
  ·simp only[go_sem,h3,BH (p:=Rt w) hk' (by rw[hp1]; exact BH (p:=fun x:DRow=>Az w.d.l[k] x.id) hj' h3)]
  ·simp only[go_sem,h3,wrap_i64 (n:=(j:Int)+1) (by omega) (by omega)]
   exact⟨j+1,⟨rfl,rfl⟩,rfl,Ah hj' hj h3,by omega⟩
 ·have hj':j=(lg w w.d.l[k]).length:=by have:=hj.1; simp at h; omega
  subst hj'
  simp only[go_sem,wrap_i64 (n:=(k:Int)+1) (by omega) (by omega)]
  exact⟨k+1,⟨rfl,rfl⟩,rfl,Ah hk' hk (by rw[hp1]; exact CV hj),by omega⟩):p:=h
theorem AGk(h:p:=by
 refine ACw (args:=[.c (.sl (cs.map intC)),.c (.sl ((rowsOf ids c).map DRow.c))]) _ (by simp only[Jo,Ac,go_sem]) rfl (QM cs (rowsOf ids c) (by rw[Dq]; omega)) fun _=>?_
 rcases hok:Dl cs (rowsOf ids c) with _ | _
 ·have hno:¬ (Dl cs (rowsOf ids c)=true∧Dc cs (rowsOf ids c)=b):=fun q=>by rw[hok] at q; cases q.1
  rw[ZO hno]
  simp only[go_sem,hok,XV]
  try simp[OwnL,AB,DI]
 simp only[go_sem,hok]
 refine ACw (args:=[.c (.sl (cs.map intC)),.c (.sl ((rowsOf ids c).map DRow.c))]) [.own 5 1 ((Dc cs (rowsOf ids c)).map byteC) true] (by simp only[Jo,Ac,go_sem]) (by simp only[bC,Ji,bU,aS,ABA]) (Rh cs (rowsOf ids c) (fG n2 (by omega) hsz)) fun _=>?_
 simp only[go_sem]
 refine AAT _ (MF (Dc cs (rowsOf ids c)) b) fun _=>?_
 rcases h6:decide (Dc cs (rowsOf ids c)=b) with _ | _
 ·have hno:¬ (Dl cs (rowsOf ids c)=true∧Dc cs (rowsOf ids c)=b):=fun q=>by simp at h6; exact h6 q.2
  rw[ZO hno]
  simp only[go_sem,hok,h6,XV]
  try simp[OwnL,AB,DI]
 ·have hyes:Dl cs (rowsOf ids c)=true∧Dc cs (rowsOf ids c)=b:=⟨hok,by simpa using h6⟩
  rw[vY hyes]
  simp only[go_sem,hok,h6,XV,BF]
  try simp[OwnL,AB]):p:=h
theorem AGl(h:p:=by
 intro k hk
 simp only[go_sem,ae]
 refine AA0 (fun h=>?_) (fun h=>?_)
 ·have hk':k<w.tasks.length:=by simpa using h
  have hw1:IntKind.i64.wrap ((k:Int)+1)=(k:Int)+1:=wrap_i64 (by omega) (by omega)
  have e0:VB id w.tasks[k]=((w.tasks[k].op==2)&&((w.tasks[k].id==id)&&w.tasks[k].won)):=rfl
  simp only[go_sem,AA _ hk',hk']
  try refine AAm ?_
  try simp only[go_sem,AA _ hk',hk']
  rcases q1:w.tasks[k].op==2 with _ | _
  ·simp only[go_sem,AA _ hk',hk',hw1,q1]
   exact⟨k+1,⟨rfl,rfl⟩,rfl,Ah hk' hk (by rw[e0,q1]; rfl),by omega⟩
  rcases q2:w.tasks[k].id==id with _ | _
  ·simp only[go_sem,AA _ hk',hk',hw1,q1,q2]
   exact⟨k+1,⟨rfl,rfl⟩,rfl,Ah hk' hk (by rw[e0,q1,q2]; rfl),by omega⟩
  rcases q3:w.tasks[k].won with _ | _
  ·simp only[go_sem,AA _ hk',hk',hw1,q1,q2,q3]
   exact⟨k+1,⟨rfl,rfl⟩,rfl,Ah hk' hk (by rw[e0,q1,q2,q3]; rfl),by omega⟩
  ·simp only[go_sem,AA _ hk',hk',q1,q2,q3,NG (p:=VB id) hk' hk (by rw[e0,q1,q2,q3]; rfl)]
 ·have hk':k=w.tasks.length:=by have:=hk.1; simp at h; omega
  subst hk'
  simp only[go_sem,NH hk]):p:=h
theorem AHD(h:p:=by
 intro hpl hn0
 unfold QR at hpl
 have hbs:Qj w k w.b[k]=Uj w k w.b[k]:=by simp only[Qj,hp1,aj]
 rcases h4:w.b[k].kind==0 with _ | _
 ·have g4:(w.b[k].kind != 0)=true:=by simp[bne,h4]
  rcases h5:n != 1 with _ | _
  ·simp only[go_sem,AA _ hk',hk',h4,g4,h5,wrap_i64 (n:=(k:Int)+1) (by omega) (by omega)]
   exact⟨k+1,⟨rfl,rfl⟩,rfl,Oa hk' hk (by rw[hbs,hpl,h4,g4,h5]; rfl),by omega⟩
  ·simp only[go_sem,AA _ hk',hk',h4,g4,h5,JL (p:=Qj w) hk' (by rw[hbs,hpl,h4,g4,h5]; rfl),ai]
 ·have g4:(w.b[k].kind != 0)=false:=by simp[bne,h4]
  rcases h5:n != 0 with _ | _
  ·have g5:decide (n>0)=false:=by have:n=0:=(by simpa using h5); rw[this]; rfl
   simp only[go_sem,AA _ hk',hk',h4,g4,h5,wrap_i64 (n:=(k:Int)+1) (by omega) (by omega)]
   exact⟨k+1,⟨rfl,rfl⟩,rfl,Oa hk' hk (by rw[hbs,hpl,h4,g4,g5]; rfl),by omega⟩
  ·have g5:decide (n>0)=true:=by have:n≠0:=(by simpa using h5); simp; omega
   simp only[go_sem,AA _ hk',hk',h4,g4,h5,JL (p:=Qj w) hk' (by rw[hbs,hpl,h4,g4,g5]; rfl),ai]):p:=h
theorem AHY(h:p:=by
 exact {
  defers:=rfl
  size:=by simp; omega
  lim:=hlim
  env:=fun i=>by
   rw[y9 (by simp; omega) rfl]
   simp only[QC,az,aX,aa8]
   rcases bQ i args.length with hi | hi
   ·obtain⟨u,hu,hr⟩:=hva i args[i] (by simp[hi])
    have e1:args.getD i .un=args[i]:=by simp[hi]
    have e2:(vs.toArray++Array.replicate (fn.ntmps-vs.toArray.size) Go.undef).getD i Go.undef=u:=by
     have hiv:i<vs.length:=by omega
     simp only[aa2]
     rw[aaC (by omega)]
     simp[hu]
    rw[e1,e2]
    exact hr.toAVR
   ·have e1:args.getD i .un = .un:=by simp[hi]
    rw[e1]
    simp only[AVR]
  below:=BelowB.refl _ _
  st0:=fun _ _ h=>h
  stOld:=fun _ _ h _ _=>h
  stIn:=hSt
  obs:=fun l ob b hl=>by simp at hl
  nil:=fun l ob hl=>by simp at hl
  inj:=fun l l' ob ob' b hl=>by simp at hl
  sep:=fun l ob b o hl=>by simp at hl
  own:=⟨fun _ _ _=>False,fun l ob b k c hl=>by simp at hl,fun _ _ _ h=>h.elim,fun _ _ _ _ _ h=>h.elim⟩ }):p:=h
theorem AHZ(h:p:=by
 have h1':x≥128:=by simp at h1; omega
 cases f with
 | zero=>simp at hx1; omega
 | succ f =>
 rw[iE,bu h1'] at hb
 have hwt:IntKind.i64.wrap (x.tmod 128)=x%128:=by rw[aaq (by omega),wrap_i64 (by omega) (by omega)]
 have hwd:IntKind.i64.wrap (x.tdiv 128)=x/128:=by rw[di (by omega),wrap_i64 (by omega) (by omega)]
 have hwa:IntKind.i64.wrap (x%128+128)=x%128+128:=wrap_i64 (by omega) (by omega)
 have hwb:IntKind.i64.wrap (128+x%128)=x%128+128:=by rw[wrap_i64 (by omega) (by omega)]; omega
 have hwu:IntKind.u8.wrap (x%128+128)=x%128+128:=wrap_u8 (by omega) (by omega)
 simp only[go_sem,bC,bU,h1,ae,hwt,hwd,hwa,hwb,hwu,hol2,aI]
 exact⟨(f,x/128,out ++ [x%128+128]),AB3 [(2,false)] ⟨rfl,rfl,by rw[← Ku]; exact AY byteC.pure,trivial⟩ (by rw[← Ku]; rfl),⟨by simp only; omega,by simp only; omega,by simp only; rw[aa9] at hx1; omega,by simp only; rw[← hb,bM]; rfl⟩,by simp only; omega⟩):p:=h
theorem AHa(h:p:=by
 rcases h3:Aa d.code 0 5 with _ | _
 ·simp only[go_sem,Fg,h1,h2,h3,aH,aK]
 rcases h4:decide (d.stamp<0) with _ | _
 rotate_left
 ·simp only[go_sem,Fg,h1,h2,h3,h4,aS,aJ,cZ]
 rcases h5:decide (d.inv<0) with _ | _
 rotate_left
 ·simp only[go_sem,Fg,h1,h2,h3,h4,h5,aS,aJ,cZ,bT]
 rcases h6:decide (d.id < -1) with _ | _
 rotate_left
 ·simp only[go_sem,Fg,h1,h2,h3,h4,h5,h6,aS,aJ,cZ,bT]
 rcases h7:d.lin == -1 with _ | _
 ·have h7':(d.lin != -1)=true:=by simp[bne,h7]
  rcases h8:decide (d.lin<d.inv) with _ | _
  rotate_left
  ·simp only[go_sem,Fg,h1,h2,h3,h4,h5,h6,h7,h7',h8,aS,aJ,aK,cZ,bT]
  rcases h9:d.ret == -1 with _ | _
  all_goals simp only[go_sem,Fg,h1,h2,h3,h4,h5,h6,h7,h7',h8,h9,aS,aH,aj,aJ,aK,cZ,bT,abE]
 ·have h7':(d.lin != -1)=false:=by simp[bne,h7]
  rcases h9:d.ret == -1 with _ | _
  all_goals simp only[go_sem,Fg,h1,h2,h3,h4,h5,h6,h7,h7',h9,aS,aH,ai,aJ,aK,cZ,bT,abE]):p:=h
theorem AHb(h:p:=by
 rcases h:Aa n 0 2000000000 with _ | _
 ·simp only[go_sem,h,Y2]
 ·have hb:0≤n∧n≤2000000000:=by simpa [Aa] using h
  obtain⟨m,rfl⟩:=aO hb.1
  have e1:IntKind.i64.wrap ((m:Int).tmod 2)=(m:Int)%2:=by rw[aaq (by omega)]; exact wrap_i64 (by omega) (by omega)
  simp only[go_sem,h,e1]
  refine AA0 (fun h1=>?_) (fun h1=>?_)
  ·have h1':(m:Int)%2=1:=by simpa using h1
   simp only[go_sem]
   rw[wrap_i64 (n:=(m:Int)+1) (by omega) (by omega),wrap_i64 (n:=0-((m:Int)+1)) (by omega) (by omega)]
   have e2:(0-((m:Int)+1)).tdiv 2 = -(((m:Int)+1)/2):=by rw[show 0-((m:Int)+1) = -((m:Int)+1) by omega,Int.neg_tdiv,di (by omega)]
   rw[e2,wrap_i64 (by omega) (by omega)]
   simp only[Y2,h,aX,zag,bu h1']
  ·have h1':¬ (m:Int)%2=1:=by simpa using h1
   simp only[go_sem]
   rw[di (by omega),wrap_i64 (by omega) (by omega)]
   simp only[Y2,h,aX,zag,aZ h1']):p:=h
theorem AHc(h:p:=by
 rintro k ⟨hk,hf⟩
 simp only[go_sem]
 refine AA0 (fun h=>?_) (fun h=>?_)
 ·have hk':k<a.length:=by simpa using h
  have hk2:k<b.length:=by omega
  rw[iJ a b hk' hk2] at hf
  rcases hv:a[k]==b[k] with _ | _
  ·have hv2:(a[k] != b[k])=true:=by simp[bne,hv]
   simp only[go_sem,AA _ hk',AA _ hk2,hk',hk2,hv,hv2]
   refine AAm ?_
   simp only[go_sem,AA _ hk',AA _ hk2,hk',hk2,hv,hv2]
   rw[hv,ai] at hf
   rw[hf]
  ·have hv2:(a[k] != b[k])=false:=by simp[bne,hv]
   simp only[go_sem,AA _ hk',AA _ hk2,hk',hk2,hv,hv2]
   refine AAm ?_
   simp only[go_sem,AA _ hk',AA _ hk2,hk',hk2,hv,hv2,wrap_i64 (n:=(k:Int)+1) (by omega) (by omega)]
   rw[hv,aj] at hf
   exact⟨k+1,⟨rfl,rfl⟩,rfl,⟨by omega,hf⟩,by omega⟩
 ·have hk':k=a.length:=by simp at h; omega
  subst hk'
  simp only[go_sem]
  rw[← hf,aV,he,aV]; rfl):p:=h
theorem AHj(h:p:=by
 have e1:=hb.ret
 subst e1
 obtain⟨Φs3,hr3,_⟩:=hb3.res
 have k3:=ou rs hr3
 refine⟨St3,β,k1.put o.dst (LD ?_)⟩
 have key:∀ (xs:List AV) (us:List Value),RdAs w' St3 xs us→AVRs w' St3 s.st β xs us:=by
  intro xs
  induction xs with
  | nil=>intro us h; simp only[AVRs]; exact h
  | cons x xs ih =>
   intro us h
   obtain⟨y,ys,h1,h2,h3⟩:=h
   simp only[AVRs]
   exact⟨y,ys,h1,h2.toAVR,ih ys h3⟩
 grind):p:=h
theorem AIZ(h:p:=by
 rintro k ⟨hk,hb⟩
 simp only[go_sem]
 refine AA0 (fun h=>?_) (fun h=>?_)
 ·have hk':k<p.l.length:=by simpa using h
  have hk2:k<q.l.length:=by omega
  rw[Yi p.l q.l hk' hk2] at hb
  simp only[go_sem,AA _ hk',AA _ hk2,hk',hk2]
  try refine AAm ?_
  try simp only[go_sem,AA _ hk',AA _ hk2,hk',hk2]
  first | refine CY (hx p.l[k] (ax hk') q.l[k] (ax hk2)) ?_ | refine CW (hx p.l[k] (ax hk') q.l[k] (ax hk2)) fun _=>?_
  rcases hv:OZ p.l[k] q.l[k] with _ | _
  ·simp only[go_sem,hv]
   rw[hv,ai] at hb
   rw[← hb]
  ·simp only[go_sem,hv,wrap_i64 (n:=(k:Int)+1) (by omega) (by omega)]
   rw[hv,aj] at hb
   exact⟨k+1,⟨rfl,rfl⟩,rfl,⟨by omega,hb⟩,by omega⟩
 ·have hk':k=p.l.length:=by simp at h; omega
  subst hk'
  simp only[go_sem]
  rw[← hb,aV,he,aV,Hy]):p:=h
theorem AIa(h:p:=by
 rintro k ⟨hk,hf⟩
 simp only[go_sem,ae]
 refine AA0 (fun h=>?_) (fun h=>?_)
 ·have hk':k<a.length:=by simpa using h
  have hk2:k<b.length:=by omega
  rw[Za a b hk' hk2] at hf
  simp only[go_sem,ae,AA _ hk',AA _ hk2,hk',hk2]
  try refine AAm ?_
  try simp only[go_sem,ae,AA _ hk',AA _ hk2,hk',hk2]
  have e1:(a[k].ty==b[k].ty&&(a[k].n==b[k].n&&a[k].s.toList==b[k].s.toList))=NM a[k] b[k]:=rfl
  try simp only[EP,IG,e1,aS]
  rcases hv:NM a[k] b[k] with _ | _
  ·simp only[go_sem,hv,e1,aK,aS]
   grind
  ·simp only[go_sem,hv,e1,aJ,wrap_i64 (n:=(k:Int)+1) (by omega) (by omega)]
   rw[hv,aj] at hf
   exact⟨k+1,⟨rfl,rfl⟩,rfl,⟨by omega,hf⟩,by omega⟩
 ·have hk':k=a.length:=by simp at h; omega
  subst hk'
  simp only[go_sem]
  rw[← hf,aV,he,aV]; rfl):p:=h
theorem AIb(h:p:=by exact⟨x+1,AB3 [] ⟨rfl,rfl,trivial⟩ (by rw[hb]; rfl),hx',by omega⟩):p:=h
theorem AIc(h:p:=by
 simp only[go_sem,DTask.o_eq,DV,lT,Ag,DU,F]
 simp[AB,DI,Hr]):p:=h
theorem AId(h:p:=by
 simp only[go_sem] at hset
 simp only[go_sem,AA _ hk',Bg hk,EH hk',hk',hset,wrap_i64 (n:=(k:Int)+1) (by omega) (by omega)]
 refine CW (hx xs[k] (ax hk')) fun _=>?_
 simp only[go_sem,AA _ hk',Bg hk,EH hk',hk',hset,wrap_i64 (n:=(k:Int)+1) (by omega) (by omega)]
 exact⟨k+1,⟨rfl,hg _⟩,rfl,by omega,by first | omega | (simp only; omega)⟩):p:=h
theorem AIe(h:p:=by
 first | refine AB5 _ (AL t.pc 2 5) ?_ | refine AAT _ (AL t.pc 2 5) fun _=>?_
 rcases r1:Aa t.pc 2 5 with _ | _
 ·simp only[go_sem,r1,aK,cZ]
 simp only[go_sem,r1,aJ,bT]
 try refine AAm ?_
 try simp only[go_sem,r1]
 first | refine AB5 _ (AL (t.l.length:Int) 1 2) ?_ | refine AAT _ (AL (t.l.length:Int) 1 2) fun _=>?_
 simp only[go_sem]):p:=h
theorem AIf(h:p:=by
 simp only[go_sem,AA _ hk',Bg hk,EH hk',hk',hset,wrap_i64 (n:=(k:Int)+1) (by omega) (by omega)]
 exact⟨k+1,⟨rfl,hg _⟩,rfl,by omega,by first | omega | (simp only; omega)⟩):p:=h
theorem AIg(h:p:=by
 intro k hk
 simp only[go_sem]
 refine AA0 (fun h=>?_) (fun h=>?_)
 ·have hk':k<l.length:=by simpa using h
  rcases h1:l[k] != -1 with _ | _
  ·simp only[go_sem,AA _ hk',hk',h1,wrap_i64 (n:=(k:Int)+1) (by omega) (by omega)]
   exact⟨k+1,⟨rfl,rfl⟩,rfl,Ah hk' hk (by simp[Qu,h1]),by omega⟩
  rcases h2:l[k] != e with _ | _
  ·simp only[go_sem,AA _ hk',hk',h1,h2,wrap_i64 (n:=(k:Int)+1) (by omega) (by omega)]
   exact⟨k+1,⟨rfl,rfl⟩,rfl,Ah hk' hk (by simp[Qu,h1,h2]),by omega⟩
  ·simp only[go_sem,AA _ hk',hk',h1,h2,Pz,BH (p:=Qu e) hk' (by simp[Qu,h1,h2])]
 ·have hk':k=l.length:=by have:=hk.1; simp at h; omega
  subst hk'
  simp only[go_sem,Pz,CV hk]):p:=h
theorem AIh(h:p:=by
 rcases h2:Aa w 0 31 with _ | _
 ·have:¬ ((0≤k∧k≤64)∧0≤w∧w≤31):=by simp[Aa] at h2; omega
  simp only[go_sem,h,h2,Ff,aZ this]
 have hk:0≤k∧k≤64:=by simp[Aa] at h; omega
 have hw:0≤w∧w≤31:=by simp[Aa] at h2; omega
 have hm:0≤k*w:=aaX hk.1 hw.1
 have hm2:k*w≤64*31:=abB (aad hk.2 hw.1) (abb hw.2 (by omega))
 have e1:IntKind.i64.wrap (k*w)=k*w:=wrap_i64 (by omega) (by omega)
 have e2:IntKind.i64.wrap (k*w+7)=k*w+7:=wrap_i64 (by omega) (by omega)
 have e3:IntKind.i64.wrap ((k*w+7).tdiv 8)=(k*w+7)/8:=by rw[di (by omega),wrap_i64 (by omega) (by omega)]
 simp only[go_sem,h,h2,Ff,hk,hw,e1,e2,e3,and_self,aX]):p:=h
theorem AIi(h:p:=by
 simp only[go_sem,ae,AA _ hi',AA _ h0,aI]
 rcases h2:BK l[i] with _ | _
 ·rw[TB h0 (i:=i) hi' (fun q=>by rw[h2] at q; cases q.1)]
  simp only[go_sem,h2]
 rcases h3:l[i].ty != l[0].ty with _ | _
 ·have h3':l[i].ty=l[0].ty:=by simpa using h3
  simp only[go_sem,ae,AA _ hi',AA _ h0,h2,h3,wrap_i64 (n:=(i:Int)+1) (by omega) (by omega)]
  exact⟨i+1,⟨rfl,rfl⟩,rfl,⟨hi',fun m h4 h5=>by
   by_cases e:m=i
   ·subst e; exact⟨h2,h3'⟩
   ·exact hb m h4 (by omega)⟩,by omega⟩
 ·have h3':l[i].ty≠l[0].ty:=by simpa using h3
  rw[TB h0 (i:=i) hi' (fun q=>h3' q.2)]
  simp only[go_sem,ae,AA _ hi',AA _ h0,h2,h3]):p:=h
theorem AIj(h:p:=by try simp[OwnL,AB]):p:=h
theorem AIk(h:p:=by simp only[go_sem]):p:=h
theorem AIl(h:p:=by
 simp only[go_sem]
 rcases h3:BX b q' with _ | ⟨n,q2⟩<;>rw[h3] at hg2 hb2<;>simp only[Vw] at hg2
 ·refine AAT _ hg2 fun _=>?_
  simp only[WY] at hb2
  rw[← hb2]
  simp only[go_sem,Y4]
  try simp[DI]
 ·refine AAT _ hg2 fun _=>?_
  have hl2:l.length+1≤2147483648:=by omega
  simp only[go_sem,ae,bC,bU,hl2,aI,wrap_i64 (n:=(i:Int)+1) (by omega) (by omega)]
  exact⟨(i+1,q2,l ++ [n]),AB3 [(2,false)] ⟨rfl,rfl,by rw[← GU]; exact AY XZ,trivial⟩ (by rw[← GU]; rfl),⟨hi',by simp; omega,by rw[← hb2,aaT]; congr 1; funext y; simp⟩,by simp only; omega⟩):p:=h
theorem AJT(h:p:=by
 simp only[go_sem,F,ah,ag,dm0,dm1,ae]
 repeat (refine ABU ?_; simp only[go_sem,F,ah,ag,dm0,dm1,ae])
 exact⟨rfl,rfl⟩):p:=h
theorem AJU(h:p:=by
 refine⟨(k+1,out ++ [c.l[k]]),ACS [(0,false),(1,true),(2,true),(7,true),(5,false)] 4 3 ⟨rfl,rfl,rfl,rfl,rfl,Jz DSlot.o_nr _ out rfl,AY DVal.pure,trivial⟩ ⟨out.length,out.map DSlot.o ++ [DSlot.o c.l[k]],_,DSlot.o c.l[k],_,⟨kL 3,rfl,Jy DSlot.o_nr _ out _ _,by simp,rfl⟩,
  ⟨rfl,rfl,rfl,rfl,rfl,rfl,DD _,by simp[Em],fun l hl=>by simp[Em] at hl; omega⟩,⟨rfl, ?tr⟩, ?eq⟩,⟨hk',by simp; omega,(bM _ _ _).trans hb⟩,by simp only; omega⟩
 case tr=>unfold BO; rw[B_]; exact AGP rfl rfl rfl (AU (FO _))
 case eq=>unfold BO; rw[B_,XC]; rfl):p:=h
theorem AJV(h:p:=by
 refine EndH.self ?_
 simp only[go_sem,Bh,setT,codeW,endW,BM,Dj,DWorld.o_eq,aX,htm]
 simp[AB,DV,lT,Ag,DU,hm,hl1]):p:=h
theorem AJW(h:p:=by
 cases hl:listed.getD j false with
 | true=>rw[Fb (X:=fun j=>if i=j then true else listed.getD j false) hdst hj (by simp only[hne,aW]; exact hl) ops.size hjs,Fb (X:=fun j=>listed.getD j false) hdst hj hl ops.size hjs]
 | false=>rw[BV (X:=fun j=>if i=j then true else listed.getD j false) ops.size (fun k _ hk=>by have:=hdst k j t hk hj; subst this; simp only[hne,aW]; exact hl),BV (X:=fun j=>listed.getD j false) ops.size (fun k _ hk=>by have:=hdst k j t hk hj; subst this; exact hl)]):p:=h
theorem AJX(h:p:=by
 intro k hk
 simp only[go_sem,ae]
 refine AA0 (fun h=>?_) (fun h=>?_)
 ·have hk':k<l.length:=by simpa using h
  have hf:=kC (fun n t=>if(t.kind==0)=true then IntKind.i64.wrap (n+1) else n) (0) l hk'
  rcases hc:l[k].kind==0 with _ | _ <;>
   simp only[go_sem,ae,AA _ hk',hk',hc,wrap_i64 (n:=(k:Int)+1) (by omega) (by omega)] <;>
   exact⟨k+1,⟨rfl,rfl⟩,by simp only[hf,hc]; rfl,by omega,by omega⟩
 ·have hk':k=l.length:=by simp at h; omega
  subst hk'
  simp only[go_sem,bD]
  try rfl):p:=h
theorem AJY(h:p:=by
 rw[e]
 simp only[go_sem,h1]
 try simp[OwnL,AB,DI]):p:=h
theorem AJZ(h:p:=by
 intro k hk
 simp only[go_sem]
 refine AA0 (fun h=>?_) (fun h=>?_)
 ·have hk':k<d.l.length:=by simpa using h
  rcases h1:d.l[k].buf==n with _ | _
  ·simp only[go_sem,AA _ hk',hk',h1,wrap_i64 (n:=(k:Int)+1) (by omega) (by omega)]
   exact⟨k+1,⟨rfl,rfl⟩,rfl,Ah hk' hk (by simp[h1]),by omega⟩
  ·simp only[go_sem,AA _ hk',hk',h1,Ep,qW (p:=fun r:DRef=>r.buf==n) hk' h1]
 ·have hk':k=d.l.length:=by have:=hk.1; simp at h; omega
  subst hk'
  simp only[go_sem,Ep,AAJ hk]):p:=h
theorem AJa(h:p:=by
 rcases h5:FM b (n:Int) != 0 with _ | _
 ·have h5':FM b (n:Int)=0:=by simpa using h5
  simp only[go_sem,h5,wrap_i64 (n:=(n:Int)+1) (by omega) (by omega)]
  exact⟨n+1,⟨rfl,all1 (AU (AQ _))⟩,rfl,⟨by omega,by omega,fun m h1 h2=>by
   grind⟩,by omega⟩
 ·have h5':FM b (n:Int)≠0:=by simpa using h5
  have:unpack b W i=none:=by
   unfold unpack
   rw[aZ]
   rintro⟨_,q⟩
   exact h5' (q n (abm.2 hn') (by omega))
  rw[this]
  simp only[go_sem,h5,ZU]
  try simp[DI]):p:=h
theorem AJb(h:p:=by exact EndH.self (by simp only[go_sem]; try simp[OwnL,AB])):p:=h
theorem AJc(h:p:=by
 subst hne
 have hy0:([]:List (List Cl)).length=0:=rfl
 rw[hy0] at hvy
 have hrun:(Builtin.append_ #[T,T] o.type #[a.eval x,a.eval y]).run P w = .ok (.slice none 0 0) w:=by
  rw[hvx,hvy]; exact H6 ht hs none 0 0 (aT _) ad capy w
 obtain⟨a1,a2,a3⟩:=k1.addOb ⟨e,n,[],ob.wr,true⟩ none (fun _=>rfl) (by simp) k1.own (by simp)
 refine⟨_,.slice none 0 0,w,St,_,hexec _ _ hrun,.inl rfl,a1, ?_⟩
 rw[← hkl]
 exact NY (b:=none) rfl (by simp) fun _=>⟨rfl,rfl⟩):p:=h
theorem AKU(h:p:=by
 rcases h:EL n with _ | _
 ·simp only[go_sem,h,Y1]
 ·have hb:=S_.1 h
  simp only[go_sem,h]
  refine AA0 (fun h1=>?_) (fun h1=>?_)
  ·have h1':n<0:=by simpa using h1
   simp only[go_sem]
   rw[wrap_i64 (n:=-2*n) (by omega) (by omega),wrap_i64 (n:=-2*n-1) (by omega) (by omega)]
   simp only[Y1,h,aX,zig,bu h1']
  ·have h1':¬ n<0:=by simpa using h1
   simp only[go_sem]
   rw[wrap_i64 (n:=2*n) (by omega) (by omega)]
   simp only[Y1,h,aX,zig,aZ h1']):p:=h
theorem AKV(h:p:=by
 simp only[go_sem]
 refine AA0 (fun h=>by simp only[go_sem,Jm h]) fun h=>?_
 have h0:=Qk h
 simp only[go_sem,Jn h]):p:=h
theorem AKW(h:p:=by try simp[OwnL,AB,DI]):p:=h
theorem AKX(h:p:=by
 have g5:((t.l.length:Int) != 1)=true:=by simp only[bne,h5,aK]
 simp only[go_sem,g5,ai]
 try refine AAm ?_
 try simp only[go_sem,g5]):p:=h
theorem AKY(h:p:=by
 refine AAT _ hr fun _=>?_
 simp only[go_sem,Dn]):p:=h
theorem AKZ(h:p:=by
 rcases hn:d.l.length with _ | k
 ·have e0:((d.l.length:Int)==0)=true:=by rw[hn]; rfl
  simp only[go_sem,e0,lZ (abt.1 hn)]
 obtain⟨hk,he⟩:=xA hn
 have e0:((d.l.length:Int)==0)=false:=by rw[hn]; simp; omega
 have e1:IntKind.i64.wrap ((d.l.length:Int)-1)=(k:Int):=by rw[wrap_i64 (by omega) (by omega)]; omega
 simp only[go_sem,e0,e1,AA _ hk,hk,he]):p:=h
theorem AKa(h:p:=by
 rcases hv:BK vs[k] with _ | _
 ·simp only[go_sem,hv]
  grind
 ·simp only[go_sem,hv,AA _ hk',AA _ hk2]
  rcases ht:vs[k].ty==cs[k] with _ | _
  ·simp only[go_sem,bne,ht]
   grind
  ·simp only[go_sem,bne,ht,wrap_i64 (n:=(k:Int)+1) (by omega) (by omega)]
   rw[hv,ht] at hf
   simp only[aS,aj] at hf
   exact⟨k+1,⟨rfl,rfl⟩,rfl,⟨by omega,hf⟩,by omega⟩):p:=h
theorem AKb(h:p:=by
 have e7:((p:Int)+1+(c:Int)==0)=false:=by simp; omega
 have e8:((p+1+c:Nat):Int)=(p:Int)+1+(c:Int):=by omega
 rcases hv:BK ⟨2,0,strOfNums ((b.drop (p+1)).take c)⟩ with _ | _
 ·simp only[go_sem,hv,gV,Qg,aC,aW]
 ·simp only[go_sem,hv,e7,gV,e8,wrap_i64 (n:=(p:Int)+1) (by omega) (by omega),wrap_i64 (n:=(p:Int)+1+(c:Int)) (by omega) (by omega)]):p:=h
theorem AKc(h:p:=by
 induction i using Nat.strongRecOn with
 | _ i ih =>
  intro hi
  cases hc:listed.getD i false with
  | true=>rfl
  | false =>
   exfalso
   have:i∈Region.ready .any ops listed:=by
    rw[mem_ready]
    refine⟨?_,ops[i],by simp[hi],fun e he hb=>?_⟩
    ·grind
    ·have:=(GL hok (i:=i) (o:=ops[i]) (by simp[hi])).1 e he hb
     grind
   grind):p:=h
theorem AKd(h:p:=by
 simp only[go_sem,AA _ hk',hk',hw1,q1,q2,q3]
 exact⟨k+1,⟨rfl,rfl⟩,rfl,Ah hk' hk (by rw[e0,q1,q2,q3]; rfl),by omega⟩):p:=h
theorem AKe(h:p:=by exact⟨k+1,⟨rfl,rfl⟩,rfl,⟨by omega,hf⟩,by omega⟩):p:=h
theorem AKf(h:p:=by
 simp only[go_sem]
 refine AA0 (fun h=>by simp only[go_sem,Jm h]) fun h=>?_
 have h1:=Qk h
 simp only[go_sem,Jn h]):p:=h
theorem AK3(h:p:=by
 unfold Ae at hs; unfold Q3 at hz; unfold Ey at hb
 cases hi:P.info? e with
 | none=>grind
 | some i =>
  cases hiz:i.zero with
  | none=>grind
  | some z' =>
   grind):p:=h
theorem AK7(h:p:=by
 simp only[go_sem,AA _ hk',hk',hw1,q1,q2]
 exact⟨k+1,⟨rfl,rfl⟩,rfl,Ah hk' hk (by rw[e0,q1,q2]; rfl),by omega⟩):p:=h
theorem AK_(h:p:=by
 refine AAT _ hg2 fun _=>?_
 have hl2:l.length+1≤2147483648:=by omega
 simp only[go_sem,hl2,wrap_i64 (n:=(i:Int)+1) (by omega) (by omega)]
 exact⟨(i+1,q2,l ++ [n]),AB3 [(3,false)] ⟨rfl,rfl,Me l n,trivial⟩ (by rw[GV]; rfl),⟨hi',by simp; omega,by rw[← hb2,aaT]; congr 1; funext y; simp⟩,by simp only; omega⟩):p:=h
theorem ALA(h:p:=by
 simp only[go_sem,AA _ hk',hk',hw1,q1]
 exact⟨k+1,⟨rfl,rfl⟩,rfl,Ah hk' hk (by rw[e0,q1]; rfl),by omega⟩):p:=h
theorem ALB(h:p:=by
 have hj':j=W:=by simp at h2; omega
 subst hj'
 have hol2:i+1≤2147483648:=by omega
 simp only[go_sem,ae,ABG,bC,bU,hol2,aI,wrap_i64 (n:=(i:Int)+1) (by omega) (by omega)]
 exact⟨i+1,AB3 [(2,false)] ⟨rfl,rfl,by rw[← hsucc]; exact AY (fun _=>rfl),trivial⟩ (by rw[← hsucc]; rfl),hi',by omega⟩):p:=h
theorem ALC(h:p:=by
 have e1:D8 w=true:=by simp only[D8,h1,h2,h3',h4]; rfl
 have e2:FC w=Jp w:=by simp only[FC,e1,aX]
 have e4:(Jp w)=⟨w.c0,IntKind.i64.wrap (w.time+1),w.t,IntKind.i64.wrap (w.e+1),w.d,w.b,w.m,w.x,w.p,w.tasks,w.deeds⟩:=by
  unfold Jp
  rw[h2]
  simp
 simp only[go_sem,h3,h4,e1,e2,e4]
 simp[AB]):p:=h
theorem ALS(h:p:=by
 refine Head.abs 1 0 [4] ⟨m,l.map DBuf.o,_,DBuf.o (gone (IntKind.i64.wrap (l[m].gen+1))),_,⟨kL 0,rfl,rfl,by simpa using hm,rfl⟩,
 by simp[gone,DBuf.o_eq,DChunk.o_eq,OwnL,AB],⟨rfl, ?tr⟩, ?eq⟩
 case tr=>unfold BO; rw[← TT]; exact allA (AU (BG _))
 case eq=>unfold BO; rw[← TT]; rfl):p:=h
theorem ALX(h:p:=by exact EndH.self (by simp only[go_sem]; simp[OwnL,AB])):p:=h
theorem ALY(h:p:=by
 simp only[go_sem,DTask.o_eq,DV,lT,Ag,DU,F,hl1]
 simp[AB,DI,Hr]):p:=h
theorem ALa(h:p:=by
 rcases hc:came c.l[k].ins ts with _ | _
 ·simp only[go_sem,hc,ve hk' hc]
 ·simp only[go_sem,hc,wrap_i64 (n:=(k:Int)+1) (by omega) (by omega)]
  exact⟨k+1,⟨rfl,rfl⟩,rfl,⟨hk',fun i h2 h3=>by
   by_cases e:i=k
   ·subst e; exact hc
   ·exact hall i h2 (by omega)⟩,by omega⟩):p:=h
theorem ALb(h:p:=by
 rcases h4:KG w k with _ | _
 ·simp only[go_sem,h4,wrap_i64 (n:=(k:Int)+1) (by omega) (by omega)]
  exact⟨k+1,⟨rfl,rfl⟩,rfl,⟨by omega,fun h5=>kD h4 (by omega)⟩,by omega⟩
 ·have h5:GI w=true:=by simp only[KG,ay] at h4; exact h4.2
  simp only[go_sem,h4,h5,aJ]):p:=h
theorem ALc(h:p:=by simp only[go_sem,Dn]):p:=h
theorem ALf(h:p:=by
 subst hj'
 simp only[go_sem,FY,wrap_i64 (n:=(i:Int)+1) (by omega) (by omega)]
 exact⟨(i+1,out++List.replicate j r[i].1),AB3 [(0,false)] ⟨rfl,rfl,QF _,trivial⟩ rfl,⟨hi',by simp; omega,by
  rw[← hp,aaT,bn,xX]; congr 1; funext y; simp⟩,by simp only; omega⟩):p:=h
theorem ALg(h:p:=by
 cases c with
 | ow ty sz xs=>exact hc
 | v y=>exact hkr (.v y) u hc
 | sl y=>exact hkr (.sl y) u hc
 | ref y=>exact hkr (.ref y) u hc):p:=h
theorem ALh(h:p:=by
 rcases hc:sQ l[k] e with _ | _
 ·rw[hc] at hb
  simp only[go_sem,ae,AA _ hk',hk',hc,wrap_i64 (n:=(k:Int)+1) (by omega) (by omega)]
  exact⟨k+1,⟨rfl,rfl⟩,rfl,⟨hk',hb⟩,by omega⟩
 ·rw[hc] at hb
  rw[hb]
  simp only[go_sem,ae,AA _ hk',hk',hc]
  try simp):p:=h
theorem ALi(h:p:=by
 have key:∀ m,m≤ops.size→Bi ops R env (fun _=>true) m=Bi ops R env (fun i=>listed.getD i false) m:=by
  intro m
  induction m with
  | zero=>intro _; rfl
  | succ m ih=>intro hm; simp only[Bi,ih (by omega),hl m (by omega)]
 rw[key ops.size (aT _)]):p:=h
theorem ALj(h:p:=by
 rw[ea] at hcall
 refine hcall.mono fun e w' hb=>?_
 obtain⟨us,bs,St2,hb⟩:=hb
 obtain⟨β',k1,k2⟩:=RD q1 hb
 have hwf:Yy rs:=by
  obtain⟨Φs,hr,_⟩:=hb.res
  exact hr.wf
 have e1:=hb.ret
 subst e1
 exact⟨_,hK hwf,YP _ _ _,St2,β',k1.put o.dst (LD k2)⟩):p:=h
theorem ALk(h:p:=by
 have h7':c≥128:=by simp at h7; omega
 rw[bu h7'] at hg
 simp only[go_sem,h7,hwi]
 exact⟨(i+1,x+c%128*128 ^ i),⟨rfl,rfl⟩,rfl,⟨by simp only; omega,by simp only; omega,hP2,by rw[show 5-(i+1)=4-i by omega]; exact hg⟩,by simp only; omega⟩):p:=h
theorem ALl(h:p:=by
 have hk':k<xs.length:=by simpa using h
 simp only[go_sem]
 refine AAm ?_
 simp only[go_sem,ae,aA,aB,AA _ hk',hk',wrap_i64 (n:=(k:Int)+1) (by omega) (by omega)]
 exact⟨k+1,⟨rfl,rfl⟩,rfl,by omega,by first | omega | (simp only; omega)⟩):p:=h
theorem ALm(h:p:=by
 rcases h2:Aa l[k] 0 e with _ | _
 ·simp only[go_sem,h2,Oz,BH (p:=Rk e) hk' (by simp[Rk,h1,h2])]
 ·simp only[go_sem,h2,wrap_i64 (n:=(k:Int)+1) (by omega) (by omega)]
  exact⟨k+1,⟨rfl,rfl⟩,rfl,Ah hk' hk (by simp[Rk,h1,h2]),by omega⟩):p:=h
theorem ALn(h:p:=by
 have hn':n=8*b.length:=by simp at h2; omega
 subst hn'
 have:unpack b W i=some (qy b W i):=by
  unfold unpack
  rw[bu ⟨⟨hw0,hk0,hlen⟩,fun n hn h=>hz n (by omega) (abm.1 hn)⟩]
  simp only[bH,qy]
 rw[this]
 simp only[go_sem,ZU,AQ]
 grind):p:=h
theorem ALo(h:p:=by
 simp only[Op.operands,Call.operands,aaO,kM,ay] at hc
 exact hc.2):p:=h
theorem ALp(h:p:=by
 rcases h2:NM d[i] v with _ | _
 ·simp only[h2,aC,aW] at hp
  simp only[go_sem,h2,wrap_i64 (n:=(i:Int)+1) (by omega) (by omega)]
  exact⟨i+1,⟨rfl,rfl⟩,rfl,⟨hi',hp⟩,by omega⟩
 ·simp only[h2,aX] at hp
  rw[← hp]
  simp only[go_sem,h2]):p:=h
theorem ALq(h:p:=by
 rw[h3] at hn
 simp only[go_sem,AA _ hi',hi',hk1,h3]
 try refine AAm ?_
 try simp only[go_sem,AA _ hi',hi',hk1,h3]
 simp only[go_sem,wrap_i64 (n:=(i3:Int)+1) (by omega) (by omega)]
 exact⟨i3+1,⟨rfl,rfl⟩,by rw[hn]; rfl,hi',by omega⟩):p:=h
theorem ALr(h:p:=by
 have hs:(c.l.map DSlot.o).set i (DSlot.o (UL s c.l[i]))=(I8 c i s).l.map DSlot.o:=by rw[I8,Dp _ hi]; exact TT.symm
 simp only[DSlot.o_eq,UL,go_sem] at hs
 simp only[go_sem,ae,AA _ hi,hi,DSlot.o_eq,hs,FO]
 try simp[OwnL,AB,I8]):p:=h
theorem ALs(h:p:=by
 simp only[go_sem,h1,h2,wrap_i64 (n:=(i:Int)+1) (by omega) (by omega)]
 exact⟨i+1,⟨rfl,rfl⟩,rfl,⟨hi',fun m h3 h4=>by
  by_cases e:m=i
  ·subst e; simp[Aa] at h1; simp at h2; exact⟨h1,h2⟩
  ·exact hb m h3 (by omega)⟩,by omega⟩):p:=h
theorem ALu(h:p:=by
 rw[h3] at hn
 simp only[go_sem,AA _ hi',hi',h3]
 try refine AAm ?_
 try simp only[go_sem,AA _ hi',hi',h3]
 simp only[go_sem,wrap_i64 (n:=(i2:Int)+1) (by omega) (by omega)]
 exact⟨i2+1,⟨rfl,rfl⟩,by rw[hn]; rfl,hi',by omega⟩):p:=h
theorem ALv(h:p:=by
 obtain⟨v1,v2⟩:=pM (P:=P) (Q:=Q) hok d1 p1 g1 hne L (Array.replicate l.toArray.size false) (Array.replicate (II σ1 e1 e2 l).toArray.size false) (by simp) (by rw[eH p1]; simp) (fun i hi=>by grind) hv (.inr hb)
 grind):p:=h
theorem ALw(h:p:=by exact⟨i2+1,⟨rfl,rfl⟩,by rw[hn]; rfl,hi',by omega⟩):p:=h
theorem ALx(h:p:=by exact⟨i3+1,⟨rfl,rfl⟩,by rw[hn]; rfl,hi',by omega⟩):p:=h
theorem ALy(h:p:=by exact⟨k+1,⟨rfl,rfl⟩,rfl,⟨hk',hb⟩,by omega⟩):p:=h
theorem ALz(h:p:=by
 unfold BO
 have:=B_ (f:=DRow.o) ((ids.take i).map fun n=>(⟨n,[]⟩:DRow)) ⟨ids[i],[]⟩
 rw[show ((ids.take i).map fun n=>(⟨n,[]⟩:DRow)).length=i by simp; omega] at this
 rw[this,Ky (fun n=>(⟨n,[]⟩:DRow)) hi']
 rfl):p:=h
theorem AL1(h:p:=by simp only[go_sem,aA,aB]):p:=h
theorem AL2(h:p:=by
 by_cases hids:ids = []
 ·have hx:=hemp hids
  simp only[bK] at hx
  obtain⟨_,hp0,hc0⟩:=hx
  rw[hc0,hp0]; exact bu hids
 ·have hne:=hne hids
  rw[hk',aV,Gq] at hne
  simp only[bW,bI] at hne
  rw[hne]; exact aZ hids):p:=h
theorem AL3(h:p:=by
 refine AC6 (Head.same _) ?_
 simp only[go_sem,BG]
 try simp):p:=h
theorem AL4(h:p:=by exact⟨_,_,_,St,β',hexec _ _ hr,.inl rfl,g1,g2⟩):p:=h
theorem AL5(h:p:=by
 have hr:Bo cs q=((q.col==0)&&((q.out.length:Int)==0)):=by simp[Bo,h1,k1,k2]
 rw[hr]
 rcases hA:(q.col==0) with _ | _
 ·simp only[go_sem,ae,h1,c1,k1,k2,hA,ai]
 ·simp only[go_sem,ae,h1,c1,k1,k2,hA,aj]):p:=h
theorem AL6(h:p:=by exact RdCs.glue (o:=0) (n:=1) r0 rfl (RdCs.glue (o:=1) (n:=1) r1 rfl (RdCs.last (o:=2) (n:=1) r2 hl))):p:=h
theorem AL7(h:p:=by
 cases x with
 | v y=>simp only[RdC,RdD] at h; grind [AAn]
 | sl xs=>simp only[RdC,RdD] at h; obtain⟨a,cap,rfl,_⟩:=h; rfl
 | ref l=>simp only[RdC,BN] at h; grind
 | ow ty sz xs=>simp[RdC,RdD] at h):p:=h
theorem AL8(h:p:=by
 intro i hi
 have h0:listed.toList.countP (fun b=>!b)=0:=by omega
 rw[List.countP_eq_zero] at h0
 have hi':i<listed.size:=by omega
 have:=h0 listed[i] (by simp)
 simp[hi'] at this ⊢
 exact this):p:=h
theorem AL9(h:p:=by exact RdCs.glue (o:=0) (n:=1) r0 rfl (RdCs.last (o:=1) (n:=1) r1 hl)):p:=h
theorem AL_(h:p:=by
 have hi':i=l.length:=by simp at h; omega
 subst hi'
 have:typeOf l=l[0].ty:=TL hlen.1 hlen.2 fun v hv=>by
  obtain⟨m,hm,rfl⟩:=aay hv
  exact hb m hm hm
 rw[this]
 simp only[go_sem,ae,AA _ h0]):p:=h
theorem AMA(h:p:=by
 have:typeOf l=0:=by
  cases l with
  | nil=>rfl
  | cons v r =>
   show (if(v::r).length≤64∧_ then v.ty else 0)=0
   rw[aZ]
   rintro⟨q,_⟩
   simp[Aa] at h1 q; omega
 simp only[go_sem,h1,this]):p:=h
theorem AMB(h:p:=by
 refine ADo (fun e1=>?_) (fun e1=>?_)
 ·simp only[go_sem,e1]
  refine ADo (fun e2=>?_) (fun e2=>?_)<;>simp only[go_sem,e1,e2]<;>rw[← hfin',e1,e2]<;>simp
 ·simp only[go_sem,e1]
  grind):p:=h
theorem AMC(h:p:=by
 rw[aaF] at hk
 rcases bQ k (ob.xs.length*n) with h' | h'
 ·grind
 ·rw[aY (by omega),hxfl] at hk
  rw[aY (by omega),holdl]
  obtain⟨u,u1,u2⟩:=n3 _ c hk
  exact⟨u,u1,(hkr _ _ u2).toB⟩):p:=h
theorem AMD(h:p:=by rw[BV (X:=fun j=>if i=j then true else listed.getD j false) ops.size (fun k _ hk=>(hj ⟨k,hk⟩).elim),BV (X:=fun j=>listed.getD j false) ops.size (fun k _ hk=>(hj ⟨k,hk⟩).elim)]):p:=h
theorem AME(h:p:=by exact⟨k+1,⟨rfl,rfl⟩,by rw[hfo]; simp only[hc]; rfl,hk',by omega⟩):p:=h
theorem AMF(h:p:=by
 simp only[go_sem,BG]
 try simp):p:=h
theorem AMG(h:p:=by
 exact⟨(i+1,out ++ [d[p]]),AB3 [(2,false)] ⟨rfl,rfl,Me _ _,trivial⟩ (by rw[GV]; rfl),⟨hi',by simp; omega,by
  rw[← hp,aaT]; congr 1; funext y; simp⟩,by simp only; omega⟩):p:=h
theorem AMH(h:p:=by simp only[go_sem,h1,ai]):p:=h
theorem AMI(h:p:=by cases o.dst<;>simp[MS.put]; split<;>rfl):p:=h
theorem AMJ(h:p:=by
 obtain⟨t,hh,hq⟩:=hq
 obtain⟨St1,β1,hc1⟩:=hs'
 obtain⟨St2,β2,hc2⟩:=hh.2 _ _ _ _ _ _ hc1
 obtain⟨us,bs,St',p1,p2,p3⟩:=ZM ⟨St2,β2,hc2⟩ hq
 exact⟨p2,_,p1,us,bs,St',p3⟩):p:=h
theorem AMK(h:p:=by
 refine AAT _ (Dt ⟨2,0,ByteArray.empty⟩) fun _=>?_
 have e7:((0:Int)==0)=true:=rfl
 rcases hv:BK ⟨2,0,ByteArray.empty⟩ with _ | _<;>simp only[go_sem,hv,e7,gV,Qg]):p:=h
theorem AML(h:p:=by
 simp only[go_sem,q1,q2,q3,q4,wrap_i64 (n:=(j:Int)+1) (by omega) (by omega)]
 exact⟨j+1,⟨rfl,rfl⟩,rfl,Ah hj' hj (by simp only[deed1,q1,q2,q3,q4]; rfl),by omega⟩):p:=h
theorem AMM(h:p:=by
 refine CW (ET w hfit) fun _=>?_
 simp only[go_sem]
 simp[AB]):p:=h
theorem AMN(h:p:=by cases k<;>simp[IntKind.min,IntKind.max,IntKind.bits,IntKind.signed] at * <;> omega):p:=h
theorem AMO(h:p:=by
 obtain⟨a0,h1,e0⟩:=AZ h0
 obtain⟨g0,b0⟩:=CG a0 (by omega)
 exact⟨g0,by rw[e0]; omega⟩):p:=h
theorem AMP(h:p:=by
 refine⟨by simp[q1],fun k e hk=>?_⟩
 cases k with
 | zero=>simp only[aQ,ak] at hk; subst hk; exact⟨c,rfl,h.1⟩
 | succ k=>simpa using q2 k e (by simpa using hk)):p:=h
theorem AMQ(h:p:=by
 simp only[go_sem,q2,JC,aB,aA,Af,Int.reduceAdd,wz (n:=k1+1),wz (n:=(i:Int)+1)]
 refine⟨(i+1,k1+1),⟨rfl,rfl⟩,rfl,hP.step hi Jk, ?mu⟩
 case mu=>simp only; omega):p:=h
theorem AMR(h:p:=by
 rcases h1:n == -1 with _ | _<;>rcases h2:decide (s≥1) with _ | _<;>rw[h2] at e <;>
  simp only[go_sem,bne,h1,e,P5,Jr,h2,aJ,aK,aj,ai,Bool.and_self,aX,aW,aC]):p:=h
theorem AMS(h:p:=by
 simp only[go_sem,D6,I8]
 simp[AB,DI,Hr]):p:=h
theorem AMT(h:p:=by
 cases hq:s.st[l']? with
 | none=>grind
 | some o2 =>
  grind):p:=h
theorem AMU(h:p:=by
 have h6':¬ m+i<b.length:=by simp at h6; omega
 rw[uU (by omega)] at hg
 simp only[go_sem,ae,h5,h6,hw1,hw2]
 simp only at hg
 rw[← hg]
 simp only[go_sem,Vw]):p:=h
theorem AMV(h:p:=by
 have e1:decide ((m:Int)≥(w.deeds.length:Int))=true:=by simp; omega
 rw[uU hml]
 simp only[go_sem,hm,e1]
 try refine AAm ?_
 try simp only[go_sem,hm,e1]):p:=h
theorem AMW(h:p:=by
 refine⟨_,_,w,St,_,hexec _ _ hrun,.inl rfl,a1, ?_⟩
 rw[← hkl]
 exact NY (b:=some b0) rfl (by simp) fun _=>⟨cap,cs,by simp,by grind,c2,by grind,hcap⟩):p:=h
theorem AMX(h:p:=by
 have hk':k=l.length:=by simp at h; omega
 subst hk'
 rw[aV] at hf
 have hn:IR l n=none:=by rw[← hf]; rfl
 simp only[go_sem,hn,Rj,Xj,aby]
 trace_state):p:=h
theorem AMY(h:p:=by
 rcases hsplit l o2 hl with ⟨h1,h2⟩ | ⟨rfl,rfl⟩
 ·have hne:¬ l=s.st.length:=by omega
  simp only[hne,aW] at hβ
  exact h.nil l o2 h2 hlive hβ
 grind):p:=h
theorem AMZ(h:p:=by
 have g6:(t.l[0].kind != 1)=true:=by simp[bne,h6]
 simp only[go_sem,g5,g6,AA _ h0,h0,ai]
 try refine AAm ?_
 try simp only[go_sem,g5,g6,AA _ h0,h0]):p:=h
theorem AMa(h:p:=by
 have e1:¬ l1=s.st.length:=by omega
 have e2:¬ l2=s.st.length:=by omega
 simp only[e1,e2,aW] at h5 h6
 exact h.inj l1 l2 o1 o2 b p2 q2 h3 h4 h5 h6):p:=h
theorem AMb(h:p:=by
 simp only[go_sem,h1,g1,h2,wrap_i64 (n:=(k:Int)+1) (by omega) (by omega)]
 exact⟨k+1,⟨rfl,rfl⟩,rfl,Oa hk' hk (by rw[hp,h1,g1,h2]; rfl),by omega⟩):p:=h
theorem AMc(h:p:=by
 have:unpack b w k=none:=by unfold unpack; rw[aZ]; rintro⟨⟨q1,q2,_⟩,_⟩; simp[Aa] at h2; omega
 rw[this]
 simp only[go_sem,h1,h2,ZU]
 try simp[DI]):p:=h
theorem AMd(h:p:=by
 simp only[go_sem,AA _ hk',hk',h1,wrap_i64 (n:=(k:Int)+1) (by omega) (by omega)]
 exact⟨k+1,⟨rfl,rfl⟩,rfl,Ah hk' hk (by simp[Rk,h1]),by omega⟩):p:=h
theorem AMe(h:p:=by
 have hl3:(FH (Cm l)).length+1+(Eg (offsets l) (DL (offsets l))).length≤2147483648:=by omega
 simp only[go_sem,hl3,F5]
 try simp[OwnL,AB,byteC]):p:=h
theorem AMf(h:p:=by
 have:=k2 (.c c) u (by simpa only[AVR] using hc)
 simpa only[AVR] using this):p:=h
theorem AMg(h:p:=by
 have:unpack b w k=none:=by unfold unpack; rw[aZ]; rintro⟨⟨q1,q2,_⟩,_⟩; simp[Aa] at h1; omega
 rw[this]
 simp only[go_sem,h1,ZU]
 try simp[DI]):p:=h
theorem AMh(h:p:=by
 have:unpack b w k=none:=by unfold unpack; rw[aZ]; rintro⟨⟨_,_,q⟩,_⟩; simp[q] at h3
 rw[this]
 simp only[go_sem,h1,h2,h3,ae,ZU]
 try simp[DI]):p:=h
theorem AMi(h:p:=by exact⟨rfl,rfl⟩):p:=h
theorem AMj(h:p:=by
 have hk':k=l.length:=by simp at h; omega
 subst hk'
 rw[aV] at hb
 have:out=l:=by simpa using hb
 subst this
 simp only[go_sem,BF]
 try simp):p:=h
theorem AMk(h:p:=by
 simp only[go_sem,h14,wrap_i64 (n:=(k:Int)+1) (by omega) (by omega)]
 exact⟨k+1,⟨rfl,rfl⟩,rfl,Oa hk' hk (by rw[e1]; exact h14),by omega⟩):p:=h
theorem AMl(h:p:=by
 rw[aaJ] at hj
 split at hj
 ·rw[addr_add,World.cell?,c3]
  grind
 ·cases hj):p:=h
theorem AMm(h:p:=by
 rw[QL hi' (fun q=>by have:=q.2; simp at h3; omega)]
 simp only[go_sem,AA _ hi',h2,h3,wrap_i64 (n:=base+l[i]) (by omega) (by omega),Dn]):p:=h
theorem AMn(h:p:=by
 intro l
 induction l with
 | nil=>intro _; rfl
 | cons p l ih=>intro hl; simp only[Ih,hl p (by simp),ih (fun q hq=>hl q (by simp[hq]))]):p:=h
theorem AMo(h:p:=by
 induction m with
 | zero=>intro _; rfl
 | succ m ih =>
  intro hm
  have hmk:m<k:=by omega
  simp only[Bi,ih (by omega),hmk,decide_true]):p:=h
theorem AMp(h:p:=by
 have h1:SizeOf.sizeOf x<SizeOf.sizeOf d.l:=aao hx
 have h2:SizeOf.sizeOf d.l<SizeOf.sizeOf d:=by cases d; simp[DPred.l]; omega
 omega):p:=h
theorem AMq(h:p:=by
 have h1:SizeOf.sizeOf x<SizeOf.sizeOf p.l:=aao hx
 have h2:SizeOf.sizeOf p.l<SizeOf.sizeOf p:=by cases p; simp[DPred.l]; omega
 omega):p:=h
theorem AMr(h:p:=by rw[Ou,fQ .i64 hx0 (by rw[← Ou]; exact hx1) (by omega) (by rw[← Ou]; simp[IntKind.bits]; omega),← Ou,wrap_i64 (by omega) (by omega)]):p:=h
theorem AMs(h:p:=by
 apply List.ext_getElem
 ·simp
 ·intro i h1 h2
  simp at h1 h2 ⊢
  simp[h2]):p:=h
theorem AMt(h:p:=by
 obtain⟨o3,r1,r2,r3⟩:=Hu h2
 by_cases e2:l=l'
 ·grind
 ·have:=r3 e2
  subst this
  exact e2 (h.inj l l' ob o2 b0 hl r1 hlive hl2 hβ hb2)):p:=h
theorem AMu(h:p:=by
 simp only[go_sem,wrap_i64 (n:=(i:Int)+1) (by omega) (by omega)]
 exact⟨i+1,AB3 [(2,false)] ⟨rfl,rfl,E5 _,trivial⟩ rfl,hi',by omega⟩):p:=h
theorem AMv(h:p:=by
 refine AAT _ (AP q.col 0 _) fun _=>?_
 rcases c1:Aa q.col 0 ((cs.length:Int)-1) with _ | _
 all_goals simp only[go_sem,ae,c1,ai,aj]):p:=h
theorem AMw(h:p:=by
 subst hk'
 simp only[go_sem,NH hk]):p:=h
theorem AMx(h:p:=by
 simp only[go_sem,AA _ hi',h2,h3,wrap_i64 (n:=(i:Int)+1) (by omega) (by omega)]
 exact⟨i+1,⟨rfl,rfl⟩,by rw[e]; rfl,hi',by omega⟩):p:=h
theorem AMy(h:p:=by
 intro v w' hr
 simp[execOp,ho,resolve,hcl,ha1,ha2,invoke,builtin,hr]):p:=h
theorem AMz(h:p:=by
 simp only[go_sem,e3,e4,wrap_i64 (n:=(j:Int)+1) (by omega) (by omega)]
 exact⟨j+1,⟨rfl,all1 (AU (AQ _))⟩,rfl,by omega,by omega⟩):p:=h
theorem AM0(h:p:=by
 have h0:0<l.length:=by omega
 obtain⟨_,x,hx,e2⟩:=Xe (ax h0)
 have:=ZW (q3 x hx).1 ((q3 x hx).2.trans h1')
 rw[ED,e2]; exact this):p:=h
theorem AM1(h:p:=by
 simp only[ak,bK] at hf
 obtain⟨rfl,rfl⟩:=hf
 exact⟨St,h,fun _ _ h=>h,fun _ _ h=>h,fun u hu=>by simp only[AVR] at hu; exact hu⟩):p:=h
theorem AM2(h:p:=by
 refine⟨k+1,⟨rfl,rfl⟩,rfl,⟨by omega,by omega,fun i hi hik=>?_⟩,by omega⟩
 by_cases e:i=k
 ·subst e; simp only[Yx]; grind
 grind):p:=h
theorem AM3(h:p:=by
 have h1:=EI x.2
 have h2:=V4 (q3 _ hx'.1).1
 simp only[Xc,bn]; omega):p:=h
theorem AM4(h:p:=by
 unfold FM
 rw[aZ (by omega)]
 have q1:((m:Int)/8).toNat=m/8:=by omega
 have q2:((m:Int)%8).toNat=m%8:=by omega
 rw[q1,q2]
 rfl):p:=h
theorem AM5(h:p:=by
 rw[Dz (BG w.b)]
 exact ADb rfl rfl rfl (AU (AQ _)) (AU (Ba _)) (AU (BG _)) (AU (AQ _)) (AU (Bj _)) (AU (AQ _)) (AU (Gp _))):p:=h
theorem AM6(h:p:=by simp only[go_sem,Vw]):p:=h
theorem AM7(h:p:=by
 unfold Y2
 by_cases h2:x+c%128*128 ^ i>2000000000
 ·rw[bu h2,aZ (by simp[Aa]; omega)]
 ·rw[aZ h2,bu (by simp[Aa]; omega)]):p:=h
theorem AM8(h:p:=by
 intro l i off u hu
 have hl:=zB hu
 have hne:¬ l=s.st.length:=by omega
 simp only[AVR,hold l hl,hne,aW] at hu ⊢
 exact hu):p:=h
theorem AM9(h:p:=by
 refine⟨β',h1,NY rfl h2 fun _=>⟨cap,_,rfl,hcap,hcm,Ej w _, ?_⟩⟩
 simp only[Array.size_append,abf,hvl,hrest,← jH]
 grind):p:=h
theorem AM_(h:p:=by
 simp only[go_sem,DTask.o_eq,DQuery.o_eq,DPred.o_eq,CX]
 simp[AB,IU,KJ,DPred.kind,DPred.col,DPred.op,DPred.v,DPred.l]):p:=h
theorem ANA(h:p:=by
 simp only[go_sem,h5,wrap_i64 (n:=(j:Int)+1) (by omega) (by omega)]
 exact⟨j+1,⟨rfl,rfl⟩,rfl,Ah hj' hj h5,by omega⟩):p:=h
theorem ANB(h:p:=by
 have he:=Cj h x (by simpa [Op.operands] using hc)
 simp only[Ip,ak] at hy; subst hy
 exact⟨_,by simp[execOp],he⟩):p:=h
theorem ANC(h:p:=by
 obtain⟨p1,q1,r1⟩:=key l o1 h1 h3
 obtain⟨p2,q2,r2⟩:=key l' o2 h2 h4
 exact h.inj l l' p1 p2 b q1 q2 r1 r2 h5 h6):p:=h
theorem ANE(h:p:=by exact⟨i+1,AB3 [(3,false)] ⟨rfl,rfl,by rw[← GU]; exact CB _,trivial⟩ (by rw[Ky _ hi',GU]; rfl),hi',by omega⟩):p:=h
theorem ANF(h:p:=by
 simp only[Result.andThen_ok,Sem.run_pure]
 congr 1
 match rv with
 | []=>rfl
 | [u]=>rfl
 | u::u2::us=>simp[XK]):p:=h
theorem ANG(h:p:=by
 simp only[go_sem]
 refine ADo (fun h=>?_) (fun h=>?_)<;>simp only[go_sem,h]<;>simp at h<;>simp[Aa]<;>omega):p:=h
theorem ANH(h:p:=by simp only[go_sem,ae,h1,c1,k1,k2,k3,k4,k5]):p:=h
theorem ANI(h:p:=by
 cases hq:s.st[l]? with
 | none=>grind
 | some o2 =>
  grind):p:=h
theorem ANJ(h:p:=by
 obtain⟨a0,h1,e0⟩:=AZ h0
 obtain⟨g0,b0⟩:=Du d.l (fun x _=>Dx x) a0 (by omega)
 exact⟨g0,by rw[e0]; omega⟩):p:=h
theorem ANK(h:p:=by
 have hk':k<ys.flatten.length:=by rw[← n1]; exact(aF.1 hk).1
 obtain⟨u,u1,u2,u3⟩:=n2 k _ (au hk')
 grind):p:=h
theorem ANL(h:p:=by
 have:f=0∨f=1∨f=2∨f=3∨f=4:=by omega
 rcases this with rfl | rfl | rfl | rfl | rfl<;>simp at hx1<;>omega):p:=h
theorem ANM(h:p:=by
 have hi':i=d.length:=by simp at h; omega
 subst hi'
 rw[aV] at hp
 rw[← hp]
 simp only[go_sem,placeOf,xY]):p:=h
theorem ANN(h:p:=by exact⟨g _,g _,g _,g1,g _,g _,g _,g _,g _,g _,g _,g _,g2,g _,g3,g _,g _,g4,g _,g _,g _,g _,g _,g _,g5⟩):p:=h
theorem ANO(h:p:=by
 have hk':k=l.length:=by simp at h; omega
 subst hk'
 rw[aV] at hb
 rw[hb]
 simp only[go_sem,QX]
 try rfl):p:=h
theorem ANP(h:p:=by
 simp only[aX,hj,ak] at hk
 subst hk
 exact⟨_,h,fun u hu=>hr _ u (h2 u hu),fun hc=>by simp[Gi] at hc⟩):p:=h
theorem ANQ(h:p:=by rw[fQ .i64 hbd.1 hbd.2 h01.1 (by simp[IntKind.bits]; omega),wrap_i64 (by omega) (by omega)]; rfl):p:=h
theorem ANR(h:p:=by
 have hne:¬ l=s.st.length:=by omega
 simp only[hne,aW] at hβ
 exact h.sep l o2 b o h2 hlive hβ hbo):p:=h
theorem ANT(h:p:=by
 have hi':i=l.length:=by simp at h; omega
 subst hi'
 rw[aV] at hb
 simp only[go_sem]
 rw[← hb]; rfl):p:=h
theorem ANU(h:p:=by
 have hk':k=vs.length:=by simp at h; omega
 subst hk'
 simp only[go_sem]
 rw[← hf,aV,← he,aV]; rfl):p:=h
theorem ANV(h:p:=by
 obtain⟨j,hj,rfl⟩:=aay hx
 exact(hp.lt j _ (au hj)).1):p:=h
theorem ANW(h:p:=by simp only[go_sem,h2,Dn]):p:=h
theorem ANX(h:p:=by
 rw[ah]
 refine aP.2 fun y hy=>?_
 rcases aaW hy with hy | rfl
 ·exact aP.1 (Ec (BF _)) y hy
 ·rfl):p:=h
theorem ANZ(h:p:=by
 have g0:((w.b.length:Int) != w.c0.bufs)=true:=by simp only[bne,h0,aK]
 simp only[go_sem,g0,ai]):p:=h
theorem ANa(h:p:=by
 split at h3
 ·rename_i y st' he
  refine⟨y,st', ?_,h3⟩
  simp only[Ez]
  exact he
 ·exact h3.elim):p:=h
theorem ANb(h:p:=by
 have:¬ (0≤k∧k≤64):=by simp[Aa] at h2; omega
 simp only[go_sem,FT,h1,Y4,h2,this]
 try simp[DI]):p:=h
theorem ANc(h:p:=by exact⟨j+1+1,AB3 [(0,false)] ⟨rfl,rfl,ABK _ _ _ _,trivial⟩ (by rw[hs,qB]; rfl),hi',by omega⟩):p:=h
theorem ANd(h:p:=by
 rw[show ((ids.take i).map fun n=>(⟨n,[]⟩:DRow)).length=i by simp; omega] at this
 exact this):p:=h
theorem ANe(h:p:=by simp[execOp,ho,resolve,hcl,ha1,ha2,invoke,builtin,Builtin.len_,run_underlying hu,hv,goInt]):p:=h
theorem ANf(h:p:=by
 obtain⟨a1,h2,e1⟩:=AZ h1
 obtain⟨g1,b1⟩:=CG a1 (by omega)
 exact⟨⟨g0,g1⟩,by rw[e0,e1]; omega⟩):p:=h
theorem ANg(h:p:=by
 simp only[go_sem]
 refine ADo (fun h=>?_) (fun h=>?_)<;>simp only[go_sem,h]<;>simp_all [BK]):p:=h
theorem ANh(h:p:=by
 have h1:(FH n).length≤5:=ZQ 4 _
 have h2:=congrArg List.length hb
 simp only[bn] at h2
 omega):p:=h
theorem ANi(h:p:=by
 have h1':typeOf l=0:=by simpa using h1
 have e:BA l = -1:=bu h1'
 rw[e]
 simp only[go_sem,h1]):p:=h
theorem ANj(h:p:=by
 have hk':k=w.d.l.length:=by have:=hk.1; simp at h; omega
 subst hk'
 simp only[go_sem,CV hk]):p:=h
theorem ANk(h:p:=by
 by_cases e:l=l'
 ·grind
 ·grind):p:=h
theorem ANl(h:p:=by
 have hk':k=l.length:=by have:=hk.1; simp at h; omega
 subst hk'
 simp only[go_sem,Oz,CV hk]):p:=h
theorem ANm(h:p:=by
 simp only[go_sem,hl2,hl3,F5]
 try simp[OwnL,AB,byteC,hl2,hl3]
 exact Bv (BA l::EX (BA l) l)):p:=h
theorem ANn(h:p:=by
 have:i=0∨i=1∨i=2∨i=3∨i=4:=by omega
 rcases this with rfl | rfl | rfl | rfl | rfl<;>decide):p:=h
theorem ANo(h:p:=by
 unfold Ff at hlen
 rw[bu ⟨hk0,hw0⟩] at hlen
 have:(K:Int)*W=((K*W:Nat):Int):=by simp
 omega):p:=h
theorem ANp(h:p:=by exact RdD.mono (fun b o hbo=>.inl hbo) (fun _ _ _=>rfl) _ _ (VT hpc (hc.toC (Lc hpc)))):p:=h
theorem ANq(h:p:=by
 cases hq:st[l']? with
 | none=>grind
 | some ob =>
  simp only[hq] at h
  rw[OL hq]
  grind):p:=h
theorem ANr(h:p:=by
 simp only[RN] at hv
 obtain⟨st',St',r1,r2,r3,r4,r5⟩:=Vs xs rs us' st St K h h2 hv
 grind):p:=h
theorem ANs(h:p:=by
 have g3:(p.op != q.op)=true:=by simp[bne,h3]
 simp only[go_sem,h1,g1,h2,g2,h3,g3,ai,aj]):p:=h
theorem ANt(h:p:=by simp only[go_sem,AA _ hk',hk',q1,q2,q3,NG (p:=X9 id) hk' hk (by rw[e0,q1,q2,q3]; rfl)]):p:=h
theorem ANu(h:p:=by
 obtain⟨cl',rs,rv,p0,p1,p2,G',p3⟩:=vN hgu hs' hq
 exact⟨p2,_,p1,cl',rs,rv,G',p0,rfl,p3⟩):p:=h
theorem ANv(h:p:=by exact⟨(k+1,out),AB3 [(0,false)] ⟨rfl,rfl,AY DVal.pure,trivial⟩ rfl,⟨hk',hb⟩,by omega⟩):p:=h
theorem ANw(h:p:=by
 have hk':k=w.tasks.length:=by simp at h; omega
 subst hk'
 simp only[go_sem,bD]
 try rfl):p:=h
theorem ANx(h:p:=by
 rw[← Eb g2]
 rcases bQ (i*ob.sz+j) ob.xs.flatten.length with h' | h'
 ·exact h'
 ·grind):p:=h
theorem ANy(h:p:=by simp[DataW.trod,ht] at h):p:=h
theorem ANz(h:p:=by
 have:¬ ((0≤k∧k≤64)∧0≤w∧w≤31):=by simp[Aa] at h; omega
 simp only[go_sem,h,Ff,aZ this]):p:=h
theorem AN0(h:p:=by
 refine ACJ _ (F6 b hl2) ?_
 simp only[go_sem,w1,g1,g2,Bv,bM]
 try simp[OwnL,AB,byteC]):p:=h
theorem AN1(h:p:=by
 rcases h2:QQ cs b.c0 with _ | _
 ·simp only[go_sem,h2,ai,aj]
 simp only[go_sem,h2,aj]):p:=h
theorem AN2(h:p:=by
 have a1:(w.tasks.length:Int)=5:=ZE.1 h11
 have a2:(w.p.length:Int)=5:=ZE.1 h12
 omega):p:=h
theorem AN3(h:p:=by
 have g2:(p.col != q.col)=true:=by simp[bne,h2]
 simp only[go_sem,h1,g1,h2,g2,ai,aj]):p:=h
theorem AN4(h:p:=by
 rcases abk b.length with h | h
 ·rw[h] at h0; exact absurd h0 (by decide)
 ·exact h):p:=h
theorem AN5(h:p:=by rcases h1:decide (e≥2) with _ | _<;>simp only[go_sem,h1]<;>simp only[sQ,h1,ai,aj]):p:=h
theorem AN6(h:p:=by rw[show min (7*i) 64=7*i from dO (by omega),← Ou,wrap_i64 (by omega) (by omega)]):p:=h
theorem AN7(h:p:=by
 simp only[ak] at hc
 subst hc
 exact⟨St,h,fun _ _ h=>h,fun _ _ h=>h,fun u hu=>hu⟩):p:=h
theorem AN8(h:p:=by rw[BO,hset]; exact hg _):p:=h
theorem AN9(h:p:=by
 have:c%128*128 ^ i≤127*128 ^ i:=aad (by omega) (aaU (by omega))
 rw[aa9]; omega):p:=h
theorem AN_(h:p:=by
 refine⟨q1,q2,cs,g1,g2,fun k c hk=>?_⟩
 grind):p:=h
theorem AOA(h:p:=by
 have:b.length≤m/8:=by simp at h1; omega
 simp only[go_sem,h0,h1,e1,ae,uU this]):p:=h
theorem AOB(h:p:=by
 rcases U5 w.x w.e with h | ⟨j,h3,h4⟩
 ·rw[h] at h2; simp at h2
 ·exact⟨j,h3,h4⟩):p:=h
theorem AOC(h:p:=by
 have:l[0]∈DN l:=(Lr l _).2 (ax (by omega))
 exact List.length_pos_of_mem this):p:=h
theorem AOD(h:p:=by
 cases hoj:ops[j]? with
 | none=>simp[hoj] at hj
 | some oj=>exact(bJ.1 hoj).1):p:=h
theorem AOE(h:p:=by
 have g1:(p.kind != q.kind)=true:=by simp[bne,h1]
 simp only[go_sem,h1,g1,ai]):p:=h
theorem AOF(h:p:=by
 rw[show ((1:Nat):Int)=1 from rfl] at this
 rw[this,Nat.and_one_is_mod]
 omega):p:=h
theorem AOG(h:p:=by simp[QZ,Lit.wf,IntKind.min,IntKind.max,IntKind.signed,IntKind.bits]; omega):p:=h
theorem AOH(h:p:=by
 have:(vi+1)*n≤(vi+(ps.length+1))*n:=aaw _ (by omega)
 rw[jH] at this; omega):p:=h
theorem AOI(h:p:=by
 cases j with
 | zero=>simp only[aQ,ak] at hj; subst hj; rfl
 | succ j=>grind):p:=h
theorem AOJ(h:p:=by exact⟨j+1,⟨rfl,rfl⟩,rfl,Ah hk' hj (by simp only[GX,h5,h6]; rfl),by omega⟩):p:=h
theorem AOK(h:p:=by exact⟨k+1,⟨rfl,rfl⟩,rfl,Ah hk' hk (by simp only[PV,h1,h2]; rfl),by omega⟩):p:=h
theorem AOL(h:p:=by
 simp only[D8,h1,h2]
 have:w.x.length=0:=by simp at h3; simp[h3]
 simp[this]):p:=h
theorem AOM(h:p:=by
 rcases h3.2.2 with h3 | h3
 ·simp only[bne,h2] at h3; cases h3
 ·exact h3):p:=h
theorem AON(h:p:=by
 cases hc:E e' with
 | false=>rfl
 | true=>exact absurd ⟨e',x1,x2,hc⟩ hex):p:=h
theorem AOO(h:p:=by
 have h1:=Np hw.1.2
 have h2:=Np hw.2.1.2
 simp only[go_sem,Nl,ABJ h1 h2]):p:=h
theorem AOP(h:p:=by
 intro hg i hi
 by_cases e:i=k
 ·subst e; exact hg
 ·exact hf i (by omega)):p:=h
theorem AOQ(h:p:=by
 simp only[go_sem,h6,aJ,ai]
 try refine AAm ?_
 try simp only[go_sem,h6]):p:=h
theorem AOR(h:p:=by
 simp[hi2] at hun ⊢
 exact hun):p:=h
theorem AOS(h:p:=by
 rcases(hEE e).1 he with h' | h'
 ·have:=hI.below e h'; omega
 ·omega):p:=h
theorem AOT(h:p:=by
 rw[Xf (by rw[← ED,h1]; simp)]
 simp only[go_sem,h1,Dn]
 try simp[DI]):p:=h
theorem AOU(h:p:=by
 cases hc:E e with
 | false=>rfl
 | true=>have:=hprev e hc x2; omega):p:=h
theorem AOV(h:p:=by
 intro l o2 hl
 rcases bQ l s.st.length with h1 | h1
 ·grind
 ·grind):p:=h
theorem AOW(h:p:=by
 have:=(aF.1 hl).1
 simp at this
 omega):p:=h
theorem AOX(h:p:=by
 simp only[Ot] at hq
 split at hq
 ·exact⟨_,‹_›,hq⟩
 ·exact hq.elim):p:=h
theorem AOY(h:p:=by
 have:=DZ hbt (hcl e oe this hoe)
 rw[this] at hun'; cases hun'):p:=h
theorem AOZ(h:p:=by
 obtain⟨e',x1,x2,x3⟩:=hex
 have:=ihd e' (by omega) x3 x2
 omega):p:=h
theorem AOa(h:p:=by
 rcases hbd with rfl | ⟨e,he,rfl⟩
 ·omega
 ·exact hE e he):p:=h
theorem AOb(a:q)(b:r)(h:q→r→p:=by
 intro zz zy
 simp only[go_sem]
 exact AA0 zz zy):p:=h a b
theorem AOc(a:q)(b:r)(h:q→r→p:=by
 intro zz zy
 simp only[go_sem,ae]
 exact AA0 zz zy):p:=h a b
theorem AOd(a:q)(b:r)(h:q→r→p:=by
 intro zz zy
 simp only[go_sem,mkS,ae,hn]
 exact AA0 zz zy):p:=h a b
theorem AOe(a:q)(b:r)(h:q→r→p:=by
 intro zz zy
 simp only[go_sem,jG,ae,JO]
 exact AA0 zz zy):p:=h a b
theorem AOf(a:q)(h:q→p:=by
 intro zz
 simp only[go_sem,F,ah,ag,G,ae,el0]
 simp only[go_sem,F,ah,ag,G,ae,el0,hB]
 exact zz):p:=h a
theorem AOg(a:q)(h:q→p:=by
 intro zz
 simp only[go_sem,ae,h5,h6,hw1,hw2,AA _ h6',hc]
 simp only[go_sem,ae,h5,h6,hw1,hw2,AA _ h6',hc,hwc,hwa,hwt,hw7,hws,hwo,hwp]
 exact zz):p:=h a
theorem AOh(h:p:=by omega):p:=h
theorem AOi(h:p:=by simp):p:=h
theorem AOj(h:p:=by simp; omega):p:=h
theorem AOk(h:p:=by grind):p:=h
theorem AOl(h:p:=by simp only; omega):p:=h
theorem AOm(h:p:=by rw[wrap_i64 (by omega) (by omega)]; omega):p:=h
theorem AOn(h:p:=by have:=hg 0; simp only[DC,ae] at this; exact this):p:=h
theorem AOo(h:p:=by simp[Op.operands]):p:=h
theorem AOp(h:p:=by simp only[go_sem,Jm h]):p:=h
theorem AOq(h:p:=by decide):p:=h
theorem AOr(h:p:=by simp[Aa] at h2; omega):p:=h
theorem AOs(h:p:=by simp at h; omega):p:=h
theorem AOt(h:p:=by simp only[CQ,e9]; rfl):p:=h
theorem AOu(h:p:=by simpa only[OwnL] using ho):p:=h
theorem AOv(h:p:=by simp[Em] at hl; omega):p:=h
theorem AOw(h:p:=by simp at h2; omega):p:=h
theorem AOx(h:p:=by simpa using h3):p:=h
theorem AOy(h:p:=by rw[di (by omega),wrap_i64 (by omega) (by omega)]; omega):p:=h
theorem AOz(h:p:=by rw[au hlt,hat] at hx; cases hx; exact AFP rfl rfl rfl rfl rfl hm hxs):p:=h
theorem AO0(h:p:=by simpa using h1):p:=h
theorem AO1(h:p:=by simp[Em]):p:=h
theorem AO2(h:p:=by simpa [Op.operands] using hc):p:=h
theorem AO3(h:p:=by simp only[Ai,go_sem]):p:=h
theorem AO4(h:p:=by simp only[DC,ae]; rfl):p:=h
theorem AO5(h:p:=by simp only[bC,Ji,Ho,bU,aS]):p:=h
theorem AO6(h:p:=by rw[aaq (by omega),wrap_i64 (by omega) (by omega)]; omega):p:=h
theorem AO7(h:p:=by simpa using h):p:=h
theorem AO8(h:p:=by first | omega | (simp only; omega)):p:=h
theorem AO9(h:p:=by have:=hj.1; simp at h; omega):p:=h
theorem AO_(h:p:=by simp at h):p:=h
theorem APA(h:p:=by simp only[Ia,go_sem]):p:=h
theorem APB(h:p:=by simp only[CP,hmk,hB,hit,hoH,O1,bH,hD]; simp; intro hy0; omega):p:=h
theorem APC(h:p:=by simp only[QZ]; exact Go.wf_wrap _ _):p:=h
theorem APD(h:p:=by simpa using h4):p:=h
theorem APE(h:p:=by obtain⟨c1,c2,_⟩:=Gz hcr; exact aO (by omega)):p:=h
theorem APF(h:p:=by simp only[DX,Ai,GH,BZ,Ci,Ac,go_sem]; try rfl):p:=h
theorem APG(h:p:=by rw[aaK _ (by omega),wrap_u64 (by omega) (by omega)]; omega):p:=h
theorem APH(h:p:=by simp[Aa] at h1; omega):p:=h
theorem API(h:p:=by have:=hw.1.1; simpa [Go.maxLen] using this):p:=h
theorem APJ(h:p:=by simpa only[go_sem,hm] using LQ w t d hf HT):p:=h
theorem APK(h:p:=by simp only[bn]; omega):p:=h
theorem APL(h:p:=by simp only[DX,JE,Ai,GH,BZ,Ci,Ac,L8,go_sem]):p:=h
theorem APM(h:p:=by simp at hk):p:=h
theorem APN(h:p:=by simpa using hk):p:=h
theorem APO(h:p:=by simpa using hb):p:=h
theorem APP(h:p:=by simpa using h2):p:=h
theorem APQ(h:p:=by simpa using hk0):p:=h
theorem APR(h:p:=by simpa using hl):p:=h
theorem APS(h:p:=by have:=congrArg List.toArray hct; simpa using this):p:=h
theorem APT(h:p:=by have:=congrArg List.toArray hca; simpa using this):p:=h
theorem APU(h:p:=by simpa using h0):p:=h
theorem APV(h:p:=by rw[hbs]; have:=Le (m:=by') hle hby (aT _); omega):p:=h
theorem APW(h:p:=by apply abq; simp):p:=h
theorem APX(h:p:=by simp at h3; omega):p:=h
theorem APY(h:p:=by simpa using hk1):p:=h
theorem APZ(h:p:=by rw[e9]; rfl):p:=h
theorem APa(h:p:=by intro r ob; unfold KF; split<;>rfl):p:=h
theorem APb(h:p:=by simpa only[JI] using h):p:=h
theorem APc(h:p:=by simpa using hq):p:=h
theorem APd(h:p:=by simp[Aa] at h4; omega):p:=h
theorem APe(h:p:=by simp[hx]):p:=h
theorem APf(h:p:=by rw[Bg hk]; exact hk'):p:=h
theorem APg(h:p:=by simp at h1; omega):p:=h
theorem APh(h:p:=by rw[spread,← hp]; rfl):p:=h
theorem APi(h:p:=by simp only[AVR] at h ⊢; exact h):p:=h
theorem APj(h:p:=by exact_mod_cast aax (by omega) (by omega)):p:=h
theorem APk(h:p:=by cases h):p:=h
theorem APl(h:p:=by cases d; simp[DPred.l]; omega):p:=h
theorem APm(h:p:=by cases x; simp[DPred.l]; omega):p:=h
theorem APn(h:p:=by rw[hbt,aj] at hs1; exact hs1):p:=h
theorem APo(h:p:=by unfold KF; split<;>rfl):p:=h
theorem APp(h:p:=by cases d; simp at h):p:=h
theorem APq(h:p:=by rw[← hp,aaT]; congr 1; funext y; simp):p:=h
theorem APr(h:p:=by rw[BP] at hp; exact hp.2.1):p:=h
theorem APs(h:p:=by simp only[AVR,rnA] at h ⊢; exact h):p:=h
theorem APt(h:p:=by rw[hsz,n1,hcap,← jH]; exact hcapm):p:=h
theorem APu(h:p:=by simp only[maxLen]; omega):p:=h
theorem APv(h:p:=by simp[Aa] at h1 h2; omega):p:=h
theorem APw(h:p:=by simp at hl):p:=h
theorem APx(h:p:=by simp only[AVRs] at h ⊢; exact h):p:=h
theorem APy(h:p:=by rw[offsets,aZ (by omega)]; simp):p:=h
theorem APz(h:p:=by simpa using hk2):p:=h
theorem AP0(h:p:=by rw[hi]; exact Nc .i64 i):p:=h
theorem AP1(h:p:=by simp[hy]):p:=h
theorem AP2(h:p:=by simp only[abe,cu,aaH,bI]; rfl):p:=h
theorem AP3(h:p:=by show EN _ w.tasks[n]≤_; omega):p:=h
theorem AP4(h:p:=by simp[Aa] at h3; omega):p:=h
theorem AP5(h:p:=by simpa using hzl0):p:=h
theorem AP6(h:p:=by simp[OwnL] at ho):p:=h
theorem AP7(h:p:=by simpa [inA] using hc):p:=h
theorem AP8(h:p:=by simp only[bne,h5,aJ]):p:=h
theorem AP9(h:p:=by rw[hi]; exact ND him):p:=h
theorem AP_(h:p:=by simp[hi]):p:=h
theorem AQA(h:p:=by simpa [Na] using hc):p:=h
theorem AQB(h:p:=by simp[Aa]; omega):p:=h
theorem AQC(h:p:=by simp[bne,h1]):p:=h
end
theorem ae:type_of% @List.length_map:=@List.length_map
theorem ag:type_of% @List.length_set:=@List.length_set
theorem ah:type_of% @List.set_set:=@List.set_set
theorem ai:type_of% @Bool.false_and:=@Bool.false_and
theorem aj:type_of% @Bool.true_and:=@Bool.true_and
theorem ak:type_of% @Option.some.injEq:=@Option.some.injEq
theorem au:type_of% @List.getElem?_eq_getElem:=@List.getElem?_eq_getElem
theorem ax:type_of% @List.getElem_mem:=@List.getElem_mem
theorem ay:type_of% @Bool.and_eq_true:=@Bool.and_eq_true
theorem az:type_of% @Nat.zero_le:=@Nat.zero_le
theorem aA:type_of% @bne_self_eq_false:=@bne_self_eq_false
theorem aB:type_of% @beq_self_eq_true:=@beq_self_eq_true
theorem aC:type_of% @Bool.false_eq_true:=@Bool.false_eq_true
theorem aF:type_of% @List.getElem?_eq_some_iff:=@List.getElem?_eq_some_iff
theorem aG:type_of% @List.drop_eq_getElem_cons:=@List.drop_eq_getElem_cons
theorem aH:type_of% @Bool.and_false:=@Bool.and_false
theorem aI:type_of% @Option.getD_some:=@Option.getD_some
theorem aJ:type_of% @Bool.not_true:=@Bool.not_true
theorem aK:type_of% @Bool.not_false:=@Bool.not_false
theorem aN:type_of% @List.nil_append:=@List.nil_append
theorem aO:type_of% @Int.eq_ofNat_of_zero_le:=@Int.eq_ofNat_of_zero_le
theorem aP:type_of% @List.all_eq_true:=@List.all_eq_true
theorem aQ:type_of% @List.getElem?_cons_zero:=@List.getElem?_cons_zero
theorem aS:type_of% @Bool.and_true:=@Bool.and_true
theorem aT:type_of% @Nat.le_refl:=@Nat.le_refl
theorem aU:type_of% @List.cons_append:=@List.cons_append
theorem aV:type_of% @List.drop_length:=@List.drop_length
theorem aW:type_of% @if_false:=@if_false
theorem aX:type_of% @if_true:=@if_true
theorem aY:type_of% @List.getElem?_append_right:=@List.getElem?_append_right
theorem aZ:type_of% @if_neg:=@if_neg
theorem bf:type_of% @decide_eq_true_eq:=@decide_eq_true_eq
theorem bi:type_of% @List.append_eq:=@List.append_eq
theorem bn:type_of% @List.length_append:=@List.length_append
theorem bu:type_of% @if_pos:=@if_pos
theorem bz:type_of% @List.length_take:=@List.length_take
theorem bC:type_of% @List.all_cons:=@List.all_cons
theorem bD:type_of% @List.take_length:=@List.take_length
theorem bF:type_of% @List.mem_of_getElem?:=@List.mem_of_getElem?
theorem bG:type_of% @List.getElem?_append_left:=@List.getElem?_append_left
theorem bH:type_of% @Int.toNat_natCast:=@Int.toNat_natCast
theorem bI:type_of% @List.append_nil:=@List.append_nil
theorem bJ:type_of% @Array.getElem?_eq_some_iff:=@Array.getElem?_eq_some_iff
theorem bK:type_of% @Prod.mk.injEq:=@Prod.mk.injEq
theorem bM:type_of% @List.append_assoc:=@List.append_assoc
theorem bP:type_of% @Nat.lt_of_lt_of_le:=@Nat.lt_of_lt_of_le
theorem bQ:type_of% @Nat.lt_or_ge:=@Nat.lt_or_ge
theorem bT:type_of% @Bool.false_or:=@Bool.false_or
theorem bU:type_of% @List.all_nil:=@List.all_nil
theorem bV:type_of% @List.map_take:=@List.map_take
theorem bW:type_of% @Option.map_some:=@Option.map_some
theorem bY:type_of% @List.map_drop:=@List.map_drop
theorem bZ:type_of% @of_decide_eq_true:=@of_decide_eq_true
theorem cu:type_of% @List.map_nil:=@List.map_nil
theorem cO:type_of% @List.getElem?_set_self:=@List.getElem?_set_self
theorem cZ:type_of% @Bool.true_or:=@Bool.true_or
theorem df:type_of% @List.length_cons:=@List.length_cons
theorem dh:type_of% @List.mem_cons:=@List.mem_cons
theorem di:type_of% @Int.tdiv_eq_ediv_of_nonneg:=@Int.tdiv_eq_ediv_of_nonneg
theorem dm:type_of% @List.flatten_cons:=@List.flatten_cons
theorem WY:type_of% @Option.map_none:=@Option.map_none
theorem XC:type_of% @List.map_append:=@List.map_append
theorem aad:type_of% @Int.mul_le_mul_of_nonneg_right:=@Int.mul_le_mul_of_nonneg_right
theorem uU:type_of% @List.getElem?_eq_none:=@List.getElem?_eq_none
theorem TT:type_of% @List.map_set:=@List.map_set
theorem aag:type_of% @List.take_succ_eq_append_getElem:=@List.take_succ_eq_append_getElem
theorem xX:type_of% @List.length_replicate:=@List.length_replicate
theorem aai:type_of% @List.eq_nil_of_length_eq_zero:=@List.eq_nil_of_length_eq_zero
theorem yx:type_of% @Option.map_eq_some_iff:=@Option.map_eq_some_iff
theorem dO:type_of% @Nat.min_eq_left:=@Nat.min_eq_left
theorem YG:type_of% @List.map_cons:=@List.map_cons
theorem kL:type_of% @Nat.lt_succ_self:=@Nat.lt_succ_self
theorem qp:type_of% @List.getElem?_map:=@List.getElem?_map
theorem aao:type_of% @List.sizeOf_lt_of_mem:=@List.sizeOf_lt_of_mem
theorem kM:type_of% @List.all_append:=@List.all_append
theorem aaq:type_of% @Int.tmod_eq_emod_of_nonneg:=@Int.tmod_eq_emod_of_nonneg
theorem aar:type_of% @List.mem_of_mem_take:=@List.mem_of_mem_take
theorem qw:type_of% @Bool.or_eq_true:=@Bool.or_eq_true
theorem uV:type_of% @Option.some.inj:=@Option.some.inj
theorem yz:type_of% @List.getElem?_set:=@List.getElem?_set
theorem xY:type_of% @Option.getD_none:=@Option.getD_none
theorem aaw:type_of% @Nat.mul_le_mul_right:=@Nat.mul_le_mul_right
theorem aax:type_of% @Nat.pow_le_pow_right:=@Nat.pow_le_pow_right
theorem aay:type_of% @List.getElem_of_mem:=@List.getElem_of_mem
theorem aaz:type_of% @List.take_of_length_le:=@List.take_of_length_le
theorem kN:type_of% @List.mem_map:=@List.mem_map
theorem jP:type_of% @Nat.sub_self:=@Nat.sub_self
theorem aaC:type_of% @Array.getElem?_append_left:=@Array.getElem?_append_left
theorem y7:type_of% @List.length_nil:=@List.length_nil
theorem jH:type_of% @Nat.add_mul:=@Nat.add_mul
theorem aaF:type_of% @List.flatten_append:=@List.flatten_append
theorem aaG:type_of% @List.mem_of_mem_drop:=@List.mem_of_mem_drop
theorem aaH:type_of% @List.flatten_nil:=@List.flatten_nil
theorem ZE:type_of% @beq_iff_eq:=@beq_iff_eq
theorem aaJ:type_of% @List.getElem?_take:=@List.getElem?_take
theorem aaK:type_of% @Int.fdiv_eq_ediv_of_nonneg:=@Int.fdiv_eq_ediv_of_nonneg
theorem aaL:type_of% @decide_eq_false_iff_not:=@decide_eq_false_iff_not
theorem aaM:type_of% @List.map_congr_left:=@List.map_congr_left
theorem aaN:type_of% @List.getElem?_cons_succ:=@List.getElem?_cons_succ
theorem aaO:type_of% @Array.toList_append:=@Array.toList_append
theorem aaP:type_of% @List.length_drop:=@List.length_drop
theorem uX:type_of% @Nat.zero_add:=@Nat.zero_add
theorem aaR:type_of% @Nat.zero_lt_one:=@Nat.zero_lt_one
theorem aaS:type_of% @Nat.le_of_ble_eq_true:=@Nat.le_of_ble_eq_true
theorem aaT:type_of% @Option.map_map:=@Option.map_map
theorem aaU:type_of% @Int.pow_nonneg:=@Int.pow_nonneg
theorem aaV:type_of% @List.getElem?_drop:=@List.getElem?_drop
theorem aaW:type_of% @List.mem_or_eq_of_mem_set:=@List.mem_or_eq_of_mem_set
theorem aaX:type_of% @Int.mul_nonneg:=@Int.mul_nonneg
theorem aaY:type_of% @List.mem_append:=@List.mem_append
theorem xZ:type_of% @Int.le_refl:=@Int.le_refl
theorem aa0:type_of% @List.length_pos_iff:=@List.length_pos_iff
theorem aa1:type_of% @Array.getElem?_replicate:=@Array.getElem?_replicate
theorem aa2:type_of% @Array.getD_eq_getD_getElem?:=@Array.getD_eq_getD_getElem?
theorem aa3:type_of% @List.mem_cons_of_mem:=@List.mem_cons_of_mem
theorem aa4:type_of% @Bool.not_eq_true':=@Bool.not_eq_true'
theorem aa5:type_of% @List.drop_zero:=@List.drop_zero
theorem aa6:type_of% @List.mem_iff_getElem?:=@List.mem_iff_getElem?
theorem aa7:type_of% @List.getElem?_toArray:=@List.getElem?_toArray
theorem aa8:type_of% @Nat.sub_zero:=@Nat.sub_zero
theorem aa9:type_of% @Int.pow_succ:=@Int.pow_succ
theorem aba:type_of% @List.mem_flatten:=@List.mem_flatten
theorem abb:type_of% @Int.mul_le_mul_of_nonneg_left:=@Int.mul_le_mul_of_nonneg_left
theorem abd:type_of% @Nat.mul_le_mul:=@Nat.mul_le_mul
theorem abe:type_of% @List.take_zero:=@List.take_zero
theorem abf:type_of% @List.size_toArray:=@List.size_toArray
theorem abg:type_of% @List.take_succ_cons:=@List.take_succ_cons
theorem abh:type_of% @List.set_append_right:=@List.set_append_right
theorem abj:type_of% @List.mem_singleton:=@List.mem_singleton
theorem abk:type_of% @Nat.eq_zero_or_pos:=@Nat.eq_zero_or_pos
theorem abl:type_of% @Array.mapM_eq_mapM_toList:=@Array.mapM_eq_mapM_toList
theorem abm:type_of% @List.mem_range:=@List.mem_range
theorem abn:type_of% @List.getElem?_eq_none_iff:=@List.getElem?_eq_none_iff
theorem abo:type_of% @List.mem_iff_getElem:=@List.mem_iff_getElem
theorem abp:type_of% @List.ext_getElem?:=@List.ext_getElem?
theorem abq:type_of% @Array.ext':=@Array.ext'
theorem abr:type_of% @Bool.eq_false_iff:=@Bool.eq_false_iff
theorem abt:type_of% @List.length_eq_zero_iff:=@List.length_eq_zero_iff
theorem abu:type_of% @Option.bind_some:=@Option.bind_some
theorem abv:type_of% @Nat.ne_of_beq_eq_false:=@Nat.ne_of_beq_eq_false
theorem abw:type_of% @List.getElem_cons_zero:=@List.getElem_cons_zero
theorem abx:type_of% @List.getElem_cons_succ:=@List.getElem_cons_succ
theorem aby:type_of% @Option.isSome_none:=@Option.isSome_none
theorem abz:type_of% @List.mem_cons_self:=@List.mem_cons_self
theorem abA:type_of% @List.pairwise_cons:=@List.pairwise_cons
theorem abB:type_of% @Int.le_trans:=@Int.le_trans
theorem abC:type_of% @List.foldl_cons:=@List.foldl_cons
theorem abD:type_of% @List.foldl_append:=@List.foldl_append
theorem abE:type_of% @Bool.or_false:=@Bool.or_false
theorem abG:type_of% @and_true:=@and_true
theorem abH:type_of% @Nat.mod_eq_of_lt:=@Nat.mod_eq_of_lt
theorem abI:type_of% @Int.natCast_zero:=@Int.natCast_zero
theorem abJ:type_of% @Nat.add_zero:=@Nat.add_zero
theorem abK:type_of% @decide_false:=@decide_false
open Go.RowKit
inductive Cl where
 | v (x:Value)
 | sl (xs:List (List Cl))
 | ref (l:Nat)
 | ow (ty:TypeId) (sz:Nat) (xs:List (List Cl))
 deriving Inhabited
inductive AV where
 | c (x:Cl)
 | agg (xs:List Cl)
 | lp (l i off:Nat)
 | ip (xs:List Cl)
 | tup (xs:List AV)
 | undef
 | un
 | pin (x:AV) (u:Value)
 | clo (f:FuncId) (xs:List (List Cl))
 deriving Inhabited
structure Ob where
 ty:TypeId
 sz:Nat
 xs:List (List Cl)
 wr:Bool
 live:Bool
 deriving Inhabited
structure MS where
 n:Nat
 env:List (Nat×AV)
 st:List Ob
def Cb:List (Nat×AV)→Nat→AV
 | [],_=>.un
 | (k,v)::r,i=>if k=i then v else Cb r i
def MS.put (s:MS) (d:Option Nat) (v:AV):MS:=match d with
 | some d=>if d<s.n then⟨s.n,(d,v)::s.env,s.st⟩ else s
 | none=>s
def QZ:Value→Bool
 | .agg _ | .tuple _=>false
 | .int k n=>(Lit.int k n).wf
 | .string s=>decide (s.size≤maxLen)
 | _=>true
theorem AAn {x:Value} (h:QZ x=true):x.oneCell'=true:=by cases x<;>simp_all [QZ,Value.oneCell']
mutual
def RdD (w:World) (St:Nat→Nat→Prop):Cl→Value→Prop
 | .v x,u=>u=x∧QZ x=true
 | .ref _,_=>False
 | .ow _ _ _,_=>False
 | .sl xs,u=>∃ a cap,u = .slice a xs.length cap∧xs.length≤cap∧cap≤maxLen∧(∃ sz,∀ x∈xs,x.length=sz)∧(xs = []∨∃ b off,a=some ⟨b,off,none⟩∧RdE w St xs b off)
def RdE (w:World) (St:Nat→Nat→Prop):List (List Cl)→Nat→Nat→Prop
 | [],_,_=>True
 | x::xs,b,off=>RdL w St x b off∧RdE w St xs b (off+x.length)
def RdL (w:World) (St:Nat→Nat→Prop):List Cl→Nat→Nat→Prop
 | [],_,_=>True
 | c::cs,b,off=>(St b off∧∃ u,w.cell? ⟨b,off,none⟩=some u∧RdD w St c u)∧RdL w St cs b (off+1)
end
mutual
theorem RdD.mono {w w':World} {St St':Nat→Nat→Prop} (hS:∀ b o,St b o→St' b o) (hw:∀ b o,St b o→w'.cell? ⟨b,o,none⟩=w.cell? ⟨b,o,none⟩) :
  ∀ (c:Cl) (u:Value),RdD w St c u→RdD w' St' c u
 | .v x,u,h=>by simp only[RdD] at h ⊢; exact h
 | .ref _,_,h=>by simp[RdD] at h
 | .ow _ _ _,_,h=>by simp[RdD] at h
 | .sl xs,u,h=>by
  simp only[RdD] at h ⊢
  obtain⟨a,cap,h1,h2,h3,h4,h5⟩:=h
  refine⟨a,cap,h1,h2,h3,h4, ?_⟩
  rcases h5 with h5 | ⟨b,off,h5,h6⟩
  ·exact .inl h5
  ·exact .inr ⟨b,off,h5,RdE.mono hS hw xs b off h6⟩
theorem RdE.mono {w w':World} {St St':Nat→Nat→Prop} (hS:∀ b o,St b o→St' b o) (hw:∀ b o,St b o→w'.cell? ⟨b,o,none⟩=w.cell? ⟨b,o,none⟩) :
  ∀ (xs:List (List Cl)) (b off:Nat),RdE w St xs b off→RdE w' St' xs b off
 | [],_,_,_=>by simp[RdE]
 | x::xs,b,off,h=>by
  simp only[RdE] at h ⊢
  exact⟨RdL.mono hS hw x b off h.1,RdE.mono hS hw xs b _ h.2⟩
theorem RdL.mono {w w':World} {St St':Nat→Nat→Prop} (hS:∀ b o,St b o→St' b o) (hw:∀ b o,St b o→w'.cell? ⟨b,o,none⟩=w.cell? ⟨b,o,none⟩) :
  ∀ (cs:List Cl) (b off:Nat),RdL w St cs b off→RdL w' St' cs b off
 | [],_,_,_=>by simp[RdL]
 | c::cs,b,off,h=>by
  simp only[RdL] at h ⊢
  obtain⟨⟨h1,u,h2,h3⟩,h4⟩:=h
  exact⟨⟨hS _ _ h1,u,by rw[hw _ _ h1]; exact h2,RdD.mono hS hw c u h3⟩,RdL.mono hS hw cs b _ h4⟩
end
theorem RdL.at {w:World} {St:Nat→Nat→Prop}:∀ {cs:List Cl} {b off:Nat},RdL w St cs b off→∀ j c,cs[j]?=some c →
  St b (off+j)∧∃ u,w.cell? ⟨b,off+j,none⟩=some u∧RdD w St c u
 | [],_,_,_,j,c,h=>AO_
 | c0::cs,b,off,h,j,c,hj=>by
  simp only[RdL] at h
  cases j with
  | zero=>simp only[aQ,ak] at hj; subst hj; exact h.1
  | succ j =>
   simp only[aaN] at hj
   have:=RdL.at h.2 j c hj
   rwa [show off+1+j=off+(j+1) from AOh] at this
theorem AC7 {w:World} {St:Nat→Nat→Prop}:∀ {cs:List Cl} {b off:Nat},(∀ j c,cs[j]?=some c→St b (off+j)∧∃ u,w.cell? ⟨b,off+j,none⟩=some u∧RdD w St c u)→RdL w St cs b off
 | [],_,_,_=>by simp[RdL]
 | c0::cs,b,off,h=>by
  simp only[RdL]
  refine⟨by simpa using h 0 c0 rfl,AC7 fun j c hj=>?_⟩
  have:=h (j+1) c (by simpa using hj)
  rwa [show off+(j+1)=off+1+j from AOh] at this
theorem RdL.drop {w:World} {St:Nat→Nat→Prop} {cs:List Cl} {b off:Nat} (h:RdL w St cs b off) (n:Nat):RdL w St (cs.drop n) b (off+n):=
 AC7 fun j c hj=>by
  have:=h.at (n+j) c AOk
  grind
theorem RdL.take {w:World} {St:Nat→Nat→Prop} {cs:List Cl} {b off:Nat} (h:RdL w St cs b off) (n:Nat):RdL w St (cs.take n) b off:=
 AC7 fun j c hj=>by
  rw[aaJ] at hj
  split at hj
  ·exact h.at j c hj
  ·simp at hj
theorem RdE.at {w:World} {St:Nat→Nat→Prop} (sz:Nat):∀ {xs:List (List Cl)} {b off:Nat},RdE w St xs b off→(∀ x∈xs,x.length=sz)→∀ i x,xs[i]?=some x→RdL w St x b (off+i*sz)
 | [],_,_,_,_,i,x,h=>AO_
 | x0::xs,b,off,h,hl,i,x,hi=>by
  simp only[RdE] at h
  cases i with
  | zero=>simp only[aQ,ak] at hi; subst hi; simpa using h.1
  | succ i =>
   simp only[aaN] at hi
   have:=RdE.at sz h.2 (fun y hy=>hl y AP1) i x hi
   rw[hl x0 AOi] at this
   rwa [show off+sz+i*sz=off+(i+1)*sz by rw[jH]; omega] at this
theorem ADp {w:World} {St:Nat→Nat→Prop} (sz:Nat):∀ {xs:List (List Cl)} {b off:Nat},(∀ x∈xs,x.length=sz)→(∀ i x,xs[i]?=some x→RdL w St x b (off+i*sz))→RdE w St xs b off
 | [],_,_,_,_=>by simp[RdE]
 | x0::xs,b,off,hl,h=>by
  simp only[RdE]
  refine⟨by simpa using h 0 x0 rfl,ADp sz (fun y hy=>hl y AP1) fun i x hi=>?_⟩
  have:=h (i+1) x AOk
  grind
def AB:Cl→Bool
 | .v (.slice _ _ _)=>false
 | .v (.agg _)=>false
 | .v (.tuple _)=>false
 | .v _=>true
 | .sl _=>true
 | .ref _=>false
 | .ow _ _ _=>false
def DJ (cs:List Cl):Bool:=cs.all AB
def G5 (xs:List (List Cl)):Bool:=xs.all DJ
def BN (w:World) (st:List Ob) (β:Nat→Option Nat) (l:Nat) (u:Value):Prop:=
 match st[l]? with
 | none=>False
 | some ob=>u.oneCell'=true∧(ob.live=true→match β l with
  | none=>u = .slice none 0 0∧ob.xs = []
  | some b=>∃ cap cs,u = .slice (some ⟨b,0,none⟩) ob.xs.length cap∧ob.xs.length≤cap∧cap≤maxLen∧w.heap[b]?=some (.cells cs ob.ty (0,0))∧cs.size=cap*ob.sz)
def RdC (w:World) (St:Nat→Nat→Prop) (st:List Ob) (β:Nat→Option Nat):Cl→Value→Prop
 | .ref l,u=>BN w st β l u
 | c,u=>RdD w St c u
mutual
def AVR (w:World) (St:Nat→Nat→Prop) (st:List Ob) (β:Nat→Option Nat):AV→Value→Prop
 | .c x,u=>RdC w St st β x u
 | .agg xs,u=>∃ us:List Value,u = .agg us.toArray∧us.length=xs.length∧∀ (k:Nat) (c:Cl),xs[k]?=some c→∃ y,us[k]?=some y∧RdC w St st β c y
 | .lp l i off,u=>match st[l]? with
  | none=>False
  | some ob=>ob.live=true→∃ b,β l=some b∧u = .pointer (some ⟨b,i*ob.sz+off,none⟩)
 | .ip xs,u=>∃ b off,u = .pointer (some ⟨b,off,none⟩)∧RdL w St xs b off
 | .tup xs,u=>∃ us:List Value,u = .tuple us.toArray∧AVRs w St st β xs us
 | .undef,u=>u=Go.undef
 | .un,_=>True
 | .pin x u0,u=>u=u0∧AVR w St st β x u
 | .clo f xs,u=>∃ us:List Value,u = .func (.func f) #[] us.toArray∧us.length=xs.length∧∀ (k:Nat) (c:List Cl),xs[k]?=some c→∃ b off,us[k]?=some (.pointer (some ⟨b,off,none⟩))∧RdL w St c b off
def AVRs (w:World) (St:Nat→Nat→Prop) (st:List Ob) (β:Nat→Option Nat):List AV→List Value→Prop
 | [],us=>us = []
 | x::xs,us=>∃ y ys,us=y::ys∧AVR w St st β x y∧AVRs w St st β xs ys
end
def RdB (w:World) (St:Nat→Nat→Prop) (st:List Ob) (β:Nat→Option Nat):Cl→Value→Prop
 | .ow _ _ _,u=>u.oneCell'=true
 | c,u=>RdC w St st β c u
def ObR (w:World) (St:Nat→Nat→Prop) (st:List Ob) (β:Nat→Option Nat) (ob:Ob) (b:Nat):Prop:=
 ∃ cs:Array Value,w.heap[b]?=some (.cells cs ob.ty (0,0))∧(∀ x∈ob.xs,x.length=ob.sz) ∧
  ∀ (k:Nat) (c:Cl),ob.xs.flatten[k]?=some c→∃ u,cs[k]?=some u∧RdB w St st β c u
def Gi:Cl→Bool
 | .ow _ _ _=>true
 | _=>false
mutual
def RdO (w:World) (St:Nat→Nat→Prop):Cl→Value→(Nat→Prop)→Prop
 | .ow ty sz xs,u,F=>(u = .slice none 0 0∧xs = [])∨∃ (b cap:Nat) (cs:Array Value) (G:Nat→Nat→Prop),u = .slice (some ⟨b,0,none⟩) xs.length cap∧xs.length≤cap∧cap≤maxLen ∧
   w.heap[b]?=some (.cells cs ty (0,0))∧cs.size=cap*sz∧(∀ x∈xs,x.length=sz)∧F b∧(∀ k x,G k x→F x∧x≠b)∧(∀ k k' x,G k x→G k' x→k=k')∧RdOE w St xs 0 cs G
 | .v x,u,_=>u=x∧QZ x=true
 | .sl xs,u,_=>RdD w St (.sl xs) u
 | .ref _,_,_=>False
def RdOE (w:World) (St:Nat→Nat→Prop):List (List Cl)→Nat→Array Value→(Nat→Nat→Prop)→Prop
 | [],_,_,_=>True
 | x::xs,n,cs,G=>RdOL w St x n cs G∧RdOE w St xs (n+x.length) cs G
def RdOL (w:World) (St:Nat→Nat→Prop):List Cl→Nat→Array Value→(Nat→Nat→Prop)→Prop
 | [],_,_,_=>True
 | c::cl,n,cs,G=>(∃ y,cs[n]?=some y∧RdO w St c y (G n))∧RdOL w St cl (n+1) cs G
end
mutual
theorem RdO.mono {w w':World} {St St':Nat→Nat→Prop} (hS:∀ b o,St b o→St' b o) (hw:∀ b o,St b o→w'.cell? ⟨b,o,none⟩=w.cell? ⟨b,o,none⟩) :
  ∀ (c:Cl) (u:Value) (F F':Nat→Prop),(∀ x,F x→F' x)→(∀ x,F x→w'.heap[x]?=w.heap[x]?)→RdO w St c u F→RdO w' St' c u F'
 | .v x,u,F,F',_,_,h=>by simp only[RdO] at h ⊢; exact h
 | .ref _,_,_,_,_,_,h=>by simp[RdO] at h
 | .sl xs,u,F,F',_,_,h=>by simp only[RdO] at h ⊢; exact RdD.mono hS hw _ _ h
 | .ow ty sz xs,u,F,F',hF,hh,h=>by
  simp only[RdO] at h ⊢
  rcases h with h | ⟨b,cap,cs,G,h1,h2,h3,h4,h5,h6,h7,h8,h9,h10⟩
  ·exact .inl h
  ·exact .inr ⟨b,cap,cs,G,h1,h2,h3,AOk,h5,h6,hF b h7,fun k x hx=>⟨hF x (h8 k x hx).1,(h8 k x hx).2⟩,h9,RdOE.mono hS hw xs 0 cs G (fun k x hx=>hh x (h8 k x hx).1) h10⟩
theorem RdOE.mono {w w':World} {St St':Nat→Nat→Prop} (hS:∀ b o,St b o→St' b o) (hw:∀ b o,St b o→w'.cell? ⟨b,o,none⟩=w.cell? ⟨b,o,none⟩) :
  ∀ (xs:List (List Cl)) (n:Nat) (cs:Array Value) (G:Nat→Nat→Prop),(∀ k x,G k x→w'.heap[x]?=w.heap[x]?)→RdOE w St xs n cs G→RdOE w' St' xs n cs G
 | [],_,_,_,_,_=>by simp[RdOE]
 | x::xs,n,cs,G,hh,h=>by
  simp only[RdOE] at h ⊢
  exact⟨RdOL.mono hS hw x n cs G hh h.1,RdOE.mono hS hw xs _ cs G hh h.2⟩
theorem RdOL.mono {w w':World} {St St':Nat→Nat→Prop} (hS:∀ b o,St b o→St' b o) (hw:∀ b o,St b o→w'.cell? ⟨b,o,none⟩=w.cell? ⟨b,o,none⟩) :
  ∀ (cl:List Cl) (n:Nat) (cs:Array Value) (G:Nat→Nat→Prop),(∀ k x,G k x→w'.heap[x]?=w.heap[x]?)→RdOL w St cl n cs G→RdOL w' St' cl n cs G
 | [],_,_,_,_,_=>by simp[RdOL]
 | c::cl,n,cs,G,hh,h=>by
  simp only[RdOL] at h ⊢
  obtain⟨⟨y,h1,h2⟩,h3⟩:=h
  exact⟨⟨y,h1,RdO.mono hS hw c y (G n) (G n) (fun _ h=>h) (fun x hx=>hh n x hx) h2⟩,RdOL.mono hS hw cl _ cs G hh h3⟩
end
structure Bs where
 w:World
 own:Nat→Prop
 gs:Nat→Value
def Bs.heap (b:Bs):Array Obj:=b.w.heap
def Bs.may (b:Bs) (x:Nat):Prop:=b.heap.size≤x∨b.own x
def qx (w:World) (k:Nat):Nat:=match w.heap[k]? with
 | some (.cells cs _ _)=>cs.size
 | _=>0
theorem oN {w w':World} {k:Nat} (h:w'.heap[k]?=w.heap[k]?):qx w' k=qx w k:=by simp only[qx,h]
theorem y8 {w w':World} {k:Nat} {cs cs':Array Value} {ty ty':TypeId} {x x':Nat×Nat} (h:w.heap[k]?=some (.cells cs ty x)) (h':w'.heap[k]?=some (.cells cs' ty' x')):qx w' k=qx w k↔cs'.size=cs.size:=by simp only[qx,h,h']
structure BelowB (w0:Bs) (w:World):Prop where
 rest:Below 0 w0.w w
 blk:∀ k,k<w0.heap.size→¬ w0.own k→w.heap[k]?=w0.heap[k]?
 siz:∀ k,k<w0.heap.size→qx w k=qx w0.w k
theorem BelowB.size {w0:Bs} {w:World} (h:BelowB w0 w):w0.heap.size≤w.heap.size:=h.rest.size
theorem BelowB.refl (w:World) (O:Nat→Prop) {g:Nat→Value}:BelowB ⟨w,O,g⟩ w:=⟨Below.refl _ _,fun _ _ _=>rfl,fun _ _=>rfl⟩
theorem BelowB.step {w0:Bs} {w w':World} (h:BelowB w0 w) {n:Nat} (hb:Below n w w') (hk:∀ k,k<w0.heap.size→¬ w0.own k→w'.heap[k]?=w.heap[k]?) (hs:∀ k,k<w0.heap.size→qx w' k=qx w k):BelowB w0 w':=
 ⟨h.rest.trans (hb.mono (az _)),fun k h1 h2=>(hk k h1 h2).trans (h.blk k h1 h2),fun k h1=>(hs k h1).trans (h.siz k h1)⟩
theorem BelowB.grow {w0:Bs} {w w':World} (h:BelowB w0 w) (hb:Below w.heap.size w w'):BelowB w0 w':=
 h.step hb (fun k h1 _=>hb.block k (bP h1 h.size)) fun k h1=>oN (hb.block k (bP h1 h.size))
theorem BelowB.plain {w w':World} (h:BelowB ⟨w,fun _=>False,fun _=>Go.undef⟩ w'):Below w.heap.size w w':=
 ⟨h.rest.os,h.rest.tape,h.rest.output,h.rest.size,fun k hk=>h.blk k hk fun h=>h⟩
def PH (w0:Bs) (R:Nat→Prop) (w:World) (St:Nat→Nat→Prop) (st:List Ob) (β:Nat→Option Nat) (x:Nat):Prop:=w0.may x∧¬ R x∧x<w.heap.size∧(∀ o,¬ St x o)∧∀ (l:Nat) (ob:Ob),st[l]?=some ob→ob.live=true→β l≠some x
def Own (w0:Bs) (R:Nat→Prop) (w:World) (St:Nat→Nat→Prop) (st:List Ob) (β:Nat→Option Nat):Prop:=∃ φ:Nat→Nat→Nat→Prop,
 (∀ (l:Nat) (ob:Ob) (b k:Nat) (c:Cl),st[l]?=some ob→ob.live=true→β l=some b→ob.xs.flatten[k]?=some c→Gi c=true→∃ u,w.cell? ⟨b,k,none⟩=some u∧RdO w St c u (φ l k)) ∧
 (∀ l k x,φ l k x→(∃ ob b,st[l]?=some ob∧ob.live=true∧β l=some b)∧PH w0 R w St st β x) ∧
 ∀ l l' k k' x,φ l k x→φ l' k' x→l=l'∧k=k'
theorem Own.move {w0:Bs} {R R':Nat→Prop} {w w':World} {St St':Nat→Nat→Prop} {st st':List Ob} {β β':Nat→Option Nat} (h:Own w0 R w St st β) (σ:Nat→Nat)
  (hx:∀ x,PH w0 R w St st β x→PH w0 R' w' St' st' β' x∧w'.heap[x]?=w.heap[x]?) (hS:∀ b o,St b o→St' b o) (hw:∀ b o,St b o→w'.cell? ⟨b,o,none⟩=w.cell? ⟨b,o,none⟩)
  (hob:∀ (l':Nat) (ob':Ob) (b k:Nat) (c:Cl),st'[l']?=some ob'→ob'.live=true→β' l'=some b→ob'.xs.flatten[k]?=some c→Gi c=true →
   ∃ ob b0,st[σ l']?=some ob∧ob.live=true∧β (σ l')=some b0∧ob.xs.flatten[k]?=some c∧w'.cell? ⟨b,k,none⟩=w.cell? ⟨b0,k,none⟩)
  (hσ:∀ (l1 l2:Nat) (o1 o2:Ob),st'[l1]?=some o1→st'[l2]?=some o2→o1.live=true→o2.live=true→σ l1=σ l2→l1=l2):Own w0 R' w' St' st' β':=by
 obtain⟨φ,h1,h2,h3⟩:=h
 refine⟨fun l k x=>(∃ ob b,st'[l]?=some ob∧ob.live=true∧β' l=some b)∧φ (σ l) k x, ?_, ?_, ?_⟩
 ·grind [RdO.mono]
 ·grind
 grind
def nm (w0:Bs) (a:Act) (i:Nat):Value:=if i<1000000 then a.tmps.getD i undef else w0.gs (i-1000000)
theorem y9 {w0:Bs} {a:Act} (h:a.tmps.size≤1000000) (hg:w0.gs=fun _=>undef) (i:Nat):nm w0 a i=a.tmps.getD i undef:=by
 unfold nm
 split
 ·rfl
 ·rw[hg]
  have:¬ i<a.tmps.size:=AOh
  simp[this]
theorem AGh {w0:Bs} {a:Act} {i:Nat} (h:¬ i<1000000):nm w0 a i=w0.gs (i-1000000):=aZ h
theorem Tc {w0:Bs} {a:Act} {i:Nat} (h:i<1000000):nm w0 a i=a.tmps.getD i undef:=bu h
structure Core (w0:Bs) (St0 St:Nat→Nat→Prop) (β:Nat→Option Nat) (s:MS) (a:Act) (w:World):Prop where
 defers:a.defers = []
 size:a.tmps.size=s.n
 lim:s.n≤1000000
 env:∀ i,AVR w St s.st β (Cb s.env i) (nm w0 a i)
 below:BelowB w0 w
 st0:∀ b o,St0 b o→St b o
 stOld:∀ b o,St b o→b<w0.heap.size→¬ w0.own b→St0 b o
 stIn:∀ b o,St b o→b<w.heap.size
 obs:∀ l ob b,s.st[l]?=some ob→ob.live=true→β l=some b→w0.may b∧b<w.heap.size∧ObR w St s.st β ob b
 nil:∀ l ob,s.st[l]?=some ob→ob.live=true→β l=none→ob.xs = []
 inj:∀ l l' ob ob' b,s.st[l]?=some ob→s.st[l']?=some ob'→ob.live=true→ob'.live=true→β l=some b→β l'=some b→l=l'
 sep:∀ l ob b o,s.st[l]?=some ob→ob.live=true→β l=some b→St b o→ob.wr=false∧o<ob.xs.length*ob.sz
 own:Own w0 (fun _=>False) w St s.st β
def Sim (w0:Bs) (St0:Nat→Nat→Prop) (s:MS) (a:Act) (w:World):Prop:=∃ St β,Core w0 St0 St β s a w
theorem RdC.mono {w w':World} {St St':Nat→Nat→Prop} {st st':List Ob} {β β':Nat→Option Nat} (hS:∀ b o,St b o→St' b o) (hw:∀ b o,St b o→w'.cell? ⟨b,o,none⟩=w.cell? ⟨b,o,none⟩)
  (hr:∀ l u,BN w st β l u→BN w' st' β' l u) (c:Cl) (u:Value) (h:RdC w St st β c u):RdC w' St' st' β' c u:=by
 cases c with
 | ref l=>exact hr l u h
 | v x=>exact RdD.mono hS hw _ _ h
 | sl xs=>exact RdD.mono hS hw _ _ h
 | ow ty sz xs=>simp[RdC,RdD] at h
theorem RdC.toB {w:World} {St:Nat→Nat→Prop} {st:List Ob} {β:Nat→Option Nat} {c:Cl} {u:Value} (h:RdC w St st β c u):RdB w St st β c u:=by
 cases c with
 | ow ty sz xs=>simp[RdC,RdD] at h
 | _=>exact h
theorem RdB.toC {w:World} {St:Nat→Nat→Prop} {st:List Ob} {β:Nat→Option Nat} {c:Cl} {u:Value} (hc:Gi c=false) (h:RdB w St st β c u):RdC w St st β c u:=by
 cases c with
 | ow ty sz xs=>simp[Gi] at hc
 | _=>exact h
theorem RdC.notOw {w:World} {St:Nat→Nat→Prop} {st:List Ob} {β:Nat→Option Nat} {c:Cl} {u:Value} (h:RdC w St st β c u):Gi c=false:=by
 cases c with
 | ow ty sz xs=>simp[RdC,RdD] at h
 | _=>rfl
theorem RdB.mono {w w':World} {St St':Nat→Nat→Prop} {st st':List Ob} {β β':Nat→Option Nat} (hS:∀ b o,St b o→St' b o) (hw:∀ b o,St b o→w'.cell? ⟨b,o,none⟩=w.cell? ⟨b,o,none⟩)
  (hr:∀ l u,BN w st β l u→BN w' st' β' l u) (c:Cl) (u:Value) (h:RdB w St st β c u):RdB w' St' st' β' c u:=by
 cases c with
 | ow ty sz xs=>exact h
 | v x=>exact RdC.mono hS hw hr (.v x) u h
 | sl xs=>exact RdC.mono hS hw hr (.sl xs) u h
 | ref l=>exact RdC.mono hS hw hr (.ref l) u h
mutual
theorem AVR.mono {w w':World} {St St':Nat→Nat→Prop} {st st':List Ob} {β β':Nat→Option Nat} (hS:∀ b o,St b o→St' b o) (hw:∀ b o,St b o→w'.cell? ⟨b,o,none⟩=w.cell? ⟨b,o,none⟩)
  (hr:∀ l u,BN w st β l u→BN w' st' β' l u) (hp:∀ l i off u,AVR w St st β (.lp l i off) u→AVR w' St' st' β' (.lp l i off) u) :
  ∀ (x:AV) (u:Value),AVR w St st β x u→AVR w' St' st' β' x u
 | .c x,u,h=>by simp only[AVR] at h ⊢; exact RdC.mono hS hw hr x u h
 | .agg xs,u,h=>by
  simp only[AVR] at h ⊢
  obtain⟨us,h1,h2,h3⟩:=h
  refine⟨us,h1,h2,fun k c hk=>?_⟩
  obtain⟨y,hy,hc⟩:=h3 k c hk
  exact⟨y,hy,RdC.mono hS hw hr c y hc⟩
 | .lp l i off,u,h=>hp l i off u h
 | .ip xs,u,h=>by
  simp only[AVR] at h ⊢
  obtain⟨b,off,h1,h2⟩:=h
  exact⟨b,off,h1,RdL.mono hS hw xs b off h2⟩
 | .tup xs,u,h=>by
  simp only[AVR] at h ⊢
  obtain⟨us,h1,h2⟩:=h
  exact⟨us,h1,AVRs.mono hS hw hr hp xs us h2⟩
 | .undef,_,h=>APi
 | .un,_,_=>by simp only[AVR]
 | .pin x u0,u,h=>by
  simp only[AVR] at h ⊢
  exact⟨h.1,AVR.mono hS hw hr hp x u h.2⟩
 | .clo f xs,u,h=>by
  simp only[AVR] at h ⊢
  obtain⟨us,h1,h2,h3⟩:=h
  refine⟨us,h1,h2,fun k c hk=>?_⟩
  obtain⟨b,off,hy,hc⟩:=h3 k c hk
  exact⟨b,off,hy,RdL.mono hS hw c b off hc⟩
theorem AVRs.mono {w w':World} {St St':Nat→Nat→Prop} {st st':List Ob} {β β':Nat→Option Nat} (hS:∀ b o,St b o→St' b o) (hw:∀ b o,St b o→w'.cell? ⟨b,o,none⟩=w.cell? ⟨b,o,none⟩)
  (hr:∀ l u,BN w st β l u→BN w' st' β' l u) (hp:∀ l i off u,AVR w St st β (.lp l i off) u→AVR w' St' st' β' (.lp l i off) u) :
  ∀ (xs:List AV) (us:List Value),AVRs w St st β xs us→AVRs w' St' st' β' xs us
 | [],us,h=>APx
 | x::xs,us,h=>by
  simp only[AVRs] at h ⊢
  obtain⟨y,ys,h1,h2,h3⟩:=h
  exact⟨y,ys,h1,AVR.mono hS hw hr hp x y h2,AVRs.mono hS hw hr hp xs ys h3⟩
end
theorem ObR.mono {w w':World} {St St':Nat→Nat→Prop} {st st':List Ob} {β β':Nat→Option Nat} (hS:∀ b o,St b o→St' b o) (hw:∀ b o,St b o→w'.cell? ⟨b,o,none⟩=w.cell? ⟨b,o,none⟩)
  (hr:∀ l u,BN w st β l u→BN w' st' β' l u) {ob:Ob} {b:Nat} (hb:w'.heap[b]?=w.heap[b]?) (h:ObR w St st β ob b):ObR w' St' st' β' ob b:=by
 obtain⟨cs,h1,h2,h3⟩:=h
 refine⟨cs,AOk,h2,fun k c hk=>?_⟩
 grind [RdB.mono]
theorem cell_of_block {w w':World} {b o:Nat} (h:w'.heap[b]?=w.heap[b]?):w'.cell? ⟨b,o,none⟩=w.cell? ⟨b,o,none⟩:=by simp[World.cell?,h]
theorem Own.grow {w0:Bs} {R R':Nat→Prop} {w w':World} {St St':Nat→Nat→Prop} {st:List Ob} {β:Nat→Option Nat} (h:Own w0 R w St st β) (hb:Below w.heap.size w w')
  (hS:∀ b o,St b o→St' b o) (hS':∀ b o,St' b o→b<w.heap.size→St b o) (hin:∀ b o,St b o→b<w.heap.size)
  (hob:∀ (l:Nat) (ob:Ob) (b:Nat),st[l]?=some ob→ob.live=true→β l=some b→b<w.heap.size) (hR:∀ x,x<w.heap.size→R' x→R x):Own w0 R' w' St' st β:=by
 refine h.move id (fun x hx=>?_) hS (fun b o hbo=>cell_of_block (hb.block b (hin b o hbo))) (fun l ob b k c h1 h2 h3 h4 h5=>?_) (fun _ _ _ _ _ _ _ _ e=>e)
 ·obtain⟨q1,q2,q3,q4,q5⟩:=hx
  exact⟨⟨q1,fun h=>q2 (hR x q3 h),bP q3 hb.size,fun o ho=>q4 o (hS' x o ho q3),q5⟩,hb.block x q3⟩
 ·exact⟨ob,b,h1,h2,h3,h4,cell_of_block (hb.block b (hob l ob b h1 h2 h3))⟩
theorem Core.grow {w0:Bs} {St0 St:Nat→Nat→Prop} {β:Nat→Option Nat} {s:MS} {a:Act} {w w':World} (h:Core w0 St0 St β s a w) (hb:Below w.heap.size w w')
  {St':Nat→Nat→Prop} (hS:∀ b o,St b o→St' b o) (hS':∀ b o,St' b o→b<w.heap.size→St b o) (hin:∀ b o,St' b o→b<w'.heap.size):Core w0 St0 St' β s a w':=by
 have hw0:w0.heap.size≤w.heap.size:=h.below.size
 have hblk:∀ k,k<w.heap.size→w'.heap[k]?=w.heap[k]?:=hb.block
 have hw:∀ b o,St b o→w'.cell? ⟨b,o,none⟩=w.cell? ⟨b,o,none⟩:=fun b o hbo=>cell_of_block (hblk b (h.stIn b o hbo))
 have hr:∀ l u,BN w s.st β l u→BN w' s.st β l u:=by
  intro l u hu
  unfold BN at hu ⊢
  cases hl:s.st[l]? with
  | none=>grind
  | some ob =>
   grind
 have hp:∀ l i off u,AVR w St s.st β (.lp l i off) u→AVR w' St' s.st β (.lp l i off) u:=by
  intro l i off u hu; simpa only[AVR] using hu
 exact {
  defers:=h.defers
  size:=h.size
  lim:=h.lim
  env:=fun i=>AVR.mono hS hw hr hp _ _ (h.env i)
  below:=h.below.grow hb
  st0:=fun b o hbo=>hS b o (h.st0 b o hbo)
  stOld:=fun b o hbo hlt=>h.stOld b o (hS' b o hbo (bP hlt hw0)) hlt
  stIn:=hin
  obs:=fun l ob b hl hlive hβ=>by
   obtain⟨h1,h2,h3⟩:=h.obs l ob b hl hlive hβ
   grind [bP,ObR.mono]
  nil:=h.nil
  inj:=h.inj
  sep:=fun l ob b o hl hlive hβ hbo=>h.sep l ob b o hl hlive hβ (hS' b o hbo (h.obs l ob b hl hlive hβ).2.1)
  own:=h.own.grow hb hS hS' h.stIn (fun l ob b h1 h2 h3=>(h.obs l ob b h1 h2 h3).2.1) (fun _ _ h=>h) }
theorem Core.put {w0:Bs} {St0 St:Nat→Nat→Prop} {β:Nat→Option Nat} {s:MS} {a:Act} {w:World} (h:Core w0 St0 St β s a w) (d:Option Nat) {x:AV} {u:Value} (hx:AVR w St s.st β x u) :
  Core w0 St0 St β (s.put d x) (a.put d u) w:=by
 cases d with
 | none=>exact h
 | some d =>
  by_cases hd:d<s.n
  ·have e1:s.put (some d) x=⟨s.n,(d,x)::s.env,s.st⟩:=by simp[MS.put,hd]
   rw[e1]
   exact {
    defers:=h.defers
    size:=by simpa [Act.put] using h.size
    lim:=h.lim
    env:=fun i=>by
     simp only[Cb,Act.put]
     by_cases hi:d=i
     ·subst hi
      have:d<a.tmps.size:=by rw[h.size]; exact hd
      rw[Tc (bP hd h.lim)]
      simpa [this] using hx
     ·have:=h.env i
      unfold nm at this ⊢
      simpa [hi,Array.getElem?_setIfInBounds] using this
    below:=h.below,st0:=h.st0,stOld:=h.stOld,stIn:=h.stIn,obs:=h.obs,nil:=h.nil,inj:=h.inj,sep:=h.sep,own:=h.own }
  ·have e1:s.put (some d) x=s:=by simp[MS.put,hd]
   rw[e1]
   have e2:a.put (some d) u=a:=by
    have:¬ d<a.tmps.size:=by rw[h.size]; exact hd
    cases a
    simp only[Act.put,Act.mk.injEq,abG]
    simp only at this
    exact Array.setIfInBounds_eq_of_size_le AOh
   grind
theorem AVR.un {w:World} {St:Nat→Nat→Prop} {st:List Ob} {β:Nat→Option Nat} {u:Value}:AVR w St st β .un u:=by simp only[AVR]
def Ae (P:Program) (t:TypeId):Option Nat:=(P.info? t).map (·.size)
def Bf (P:Program) (t:TypeId):Option Bool:=(P.underlying t).map fun d=>match d with | .struct _ | .array _ _=>true | _=>false
def Q3 (P:Program) (t:TypeId):Option (List Value):=(P.info? t).bind fun i=>i.zero.map fun z=>z.cells.toList
def y_ (zs:List Value):Bool:=zs.all QZ
def VQ (P:Program) (t:TypeId):Option (List Cl):=match Q3 P t with
 | some zs=>if y_ zs then some (zs.map .v) else none
 | none=>none
theorem Q4 {P:Program} {t:TypeId} {cs:List Cl} (h:VQ P t=some cs):∃ zs,Q3 P t=some zs∧y_ zs=true∧cs=zs.map .v:=by
 unfold VQ at h
 grind
def AC (P:Program) (t:TypeId) (f:Nat):Option (Nat×TypeId):=match P.underlying t with
 | some (.struct fs)=>(fs[f]?).map fun x=>(x.offset,x.type)
 | _=>none
def EO (P:Program) (t:TypeId):Option TypeId:=match P.underlying t with
 | some (.slice e)=>some e
 | _=>none
theorem Ig {P:Program} {t:TypeId} {n:Nat} (h:Ae P t=some n) (w:World):(sizeOf t).run P w = .ok n w:=by
 unfold Ae at h
 cases hi:P.info? t with
 | none=>grind
 | some i=>simp[hi] at h; simp[sizeOf,typeInfo,hi,h]
theorem VR {P:Program} {t:TypeId} {g:Bool} (h:Bf P t=some g) (w:World):(isAgg t).run P w = .ok g w:=by
 unfold Bf at h
 cases hu:P.underlying t with
 | none=>grind
 | some d =>
  simp only[hu,bW,ak] at h
  subst h
  simp only[isAgg,Sem.run_bind,run_underlying hu,Result.andThen_ok]
  cases d<;>rfl
theorem VS {P:Program} {t:TypeId} {cs:List Value} (h:Q3 P t=some cs) (w:World):∃ z,(zeroValue t).run P w = .ok z w∧z.cells.toList=cs:=by
 unfold Q3 at h
 cases hi:P.info? t with
 | none=>grind
 | some i =>
  cases hz:i.zero with
  | none=>grind
  | some z=>simp[hi,hz] at h; exact⟨z,by simp[zeroValue,typeInfo,hi,hz],h⟩
def XD (v:Value):AV:=match v with
 | .agg cs=>.agg (cs.toList.map .v)
 | .tuple vs=>if vs.toList.isEmpty then .undef else .un
 | v=>.c (.v v)
def oO (v:Value):Bool:=match v with
 | .agg cs=>cs.toList.all QZ
 | .tuple _=>true
 | v=>QZ v
def Au:Operand→Bool
 | .tmp t=>decide (t<1000000)
 | .const v=>oO v
 | _=>true
def unpin:AV→AV
 | .pin x _=>x
 | .c x=>.c x
 | .agg xs=>.agg xs
 | .lp l i off=>.lp l i off
 | .ip xs=>.ip xs
 | .tup xs=>.tup xs
 | .undef=>.undef
 | .un=>.un
 | .clo f xs=>.clo f xs
theorem AVR.unpin {w:World} {St:Nat→Nat→Prop} {st:List Ob} {β:Nat→Option Nat} {x:AV} {u:Value} (h:AVR w St st β x u):AVR w St st β (unpin x) u:=by
 cases x with
 | pin x u0=>simp only[AVR] at h; exact h.2
 | _=>exact h
def Ew (s:MS):Operand→AV
 | .tmp t=>unpin (Cb s.env t)
 | .const v=>XD v
 | .global g=>.c (.v (.pointer (some ⟨g,0,none⟩)))
 | .func f=>.c (.v (.func (.func f) #[] #[]))
theorem AB8 {w:World} {St:Nat→Nat→Prop} {st:List Ob} {β:Nat→Option Nat} (v:Value) (hv:oO v=true):AVR w St st β (XD v) v:=by
 cases v with
 | agg cs =>
  simp only[XD,AVR]
  simp only[oO] at hv
  refine⟨cs.toList,AOi,AOi,fun k c hk=>?_⟩
  simp only[qp,yx] at hk
  obtain⟨y,hy,rfl⟩:=hk
  refine⟨y,hy, ?_⟩
  simp only[RdC,RdD,true_and]
  grind
 | tuple vs =>
  simp only[XD]
  split
  ·rename_i h
   have:vs = #[]:=by cases vs; simp_all
   subst this
   simp only[AVR]; rfl
  ·simp only[AVR]
 | _=>simp only[XD,AVR,RdC,RdD,true_and]; exact hv
theorem Cj {w0:Bs} {St0 St:Nat→Nat→Prop} {β:Nat→Option Nat} {s:MS} {a:Act} {w:World} (h:Core w0 St0 St β s a w) (x:Operand) (hx:Au x=true):AVR w St s.st β (Ew s x) (a.eval x):=by
 cases x with
 | tmp t =>
  have:=h.env t
  rw[Tc (by simpa [Au] using hx)] at this
  exact this.unpin
 | const v=>exact AB8 v hx
 | global g=>simp[Ew,AVR,RdC,RdD,Act.eval,QZ]
 | func f=>simp[Ew,AVR,RdC,RdD,Act.eval,QZ]
def cellsA:AV→Option (List Cl)
 | .c x=>some [x]
 | .agg xs=>some xs
 | _=>none
theorem Sv {w:World} {St:Nat→Nat→Prop} {st:List Ob} {β:Nat→Option Nat} {x:AV} {u:Value} {cs:List Cl} (h:AVR w St st β x u) (hc:cellsA x=some cs) :
  u.cells.toList.length=cs.length∧∀ (k:Nat) (c:Cl),cs[k]?=some c→∃ y,u.cells.toList[k]?=some y∧RdC w St st β c y:=by
 cases x with
 | c x =>
  simp only[cellsA,ak] at hc
  subst hc
  simp only[AVR] at h
  have h1:u.oneCell'=true:=by
   exact AL7
  have h2:u.cells = #[u]:=by cases u<;>first | rfl | simp[Value.oneCell'] at h1
  grind
 | agg xs =>
  simp only[cellsA,ak] at hc
  subst hc
  simp only[AVR] at h
  obtain⟨us,rfl,h2,h3⟩:=h
  exact⟨by simpa [Value.cells] using h2,fun k c hk=>by simpa [Value.cells] using h3 k c hk⟩
 | _=>simp[cellsA] at hc
theorem RdC.one {w:World} {St:Nat→Nat→Prop} {st:List Ob} {β:Nat→Option Nat} {x:Cl} {u:Value} (h:RdC w St st β x u):u.oneCell'=true:=by
 exact AL7
theorem RdB.one {w:World} {St:Nat→Nat→Prop} {st:List Ob} {β:Nat→Option Nat} {x:Cl} {u:Value} (h:RdB w St st β x u):u.oneCell'=true:=by
 cases x with
 | ow ty sz xs=>exact h
 | v y=>exact RdC.one (w:=w) (St:=St) (st:=st) (β:=β) (x:=.v y) h
 | sl xs=>exact RdC.one (w:=w) (St:=St) (st:=st) (β:=β) (x:=.sl xs) h
 | ref l=>exact RdC.one (w:=w) (St:=St) (st:=st) (β:=β) (x:=.ref l) h
def DT (st:List Ob) (l:Nat):Option Ob:=match st[l]? with
 | some ob=>if ob.live then some ob else none
 | none=>none
theorem CS {st:List Ob} {l:Nat} {ob:Ob} (h:DT st l=some ob):st[l]?=some ob∧ob.live=true:=by
 unfold DT at h
 grind
def Td (st:List Ob):Cl→Option (List (List Cl))
 | .v (.slice none 0 0)=>some []
 | .v _=>none
 | .sl xs=>some xs
 | .ref l=>(DT st l).map (·.xs)
 | .ow _ _ _=>none
def fzC (st:List Ob):Cl→Option Cl
 | .v (.slice none 0 0)=>some (.sl [])
 | .v (.slice _ _ _)=>none
 | .v x=>some (.v x)
 | .sl xs=>some (.sl xs)
 | .ref l=>match DT st l with
  | some ob=>if G5 ob.xs then some (.sl ob.xs) else none
  | none=>none
 | .ow _ _ _=>none
def Qi (st:List Ob) (l:Nat):List Ob:=st.modify l fun ob=>{ ob with wr:=false }
def uY (st:List Ob):Cl→List Ob
 | .ref l=>Qi st l
 | _=>st
theorem FZ {xs:List (List Cl)} {sz:Nat} (hl:∀ x∈xs,x.length=sz):∀ (i j:Nat) (x:List Cl) (c:Cl),xs[i]?=some x→x[j]?=some c→xs.flatten[i*sz+j]?=some c:=by
 induction xs with
 | nil=>grind
 | cons x0 xs ih =>
  intro i j x c hi hj
  have h0:x0.length=sz:=hl x0 AOi
  simp only[dm]
  cases i with
  | zero =>
   grind
  | succ i =>
   grind
theorem Eb {xs:List (List Cl)} {sz:Nat} (hl:∀ x∈xs,x.length=sz):xs.flatten.length=xs.length*sz:=by
 induction xs with
 | nil=>simp
 | cons x xs ih =>
  grind
theorem VT {w:World} {St:Nat→Nat→Prop} {st:List Ob} {β:Nat→Option Nat} {c:Cl} {u:Value} (hp:AB c=true) (h:RdC w St st β c u):RdD w St c u:=by
 cases c with
 | ref l=>simp[AB] at hp
 | v x=>exact h
 | sl xs=>exact h
 | ow ty sz xs=>simp[AB] at hp
theorem Lc {c:Cl} (hp:AB c=true):Gi c=false:=by
 cases c<;>simp_all [AB,Gi]
theorem XE {w:World} {st:List Ob} {β:Nat→Option Nat} {l:Nat} (l':Nat) (u:Value):BN w (Qi st l) β l' u↔BN w st β l' u:=by
 unfold BN Qi
 grind
theorem Core.freeze {w0:Bs} {St0 St:Nat→Nat→Prop} {β:Nat→Option Nat} {s:MS} {a:Act} {w:World} (h:Core w0 St0 St β s a w) (l:Nat) {ob:Ob} (hl:DT s.st l=some ob) (hp:G5 ob.xs=true) :
  ∃ St',Core w0 St0 St' β ⟨s.n,s.env,Qi s.st l⟩ a w∧(∀ b o,St b o→St' b o)∧(∀ u,BN w s.st β l u→RdD w St' (.sl ob.xs) u)∧∀ b,β l=some b→(∀ x∈ob.xs,x.length=ob.sz)∧RdE w St' ob.xs b 0:=by
 obtain⟨hl1,hlive⟩:=CS hl
 refine⟨fun b o=>St b o∨(β l=some b∧o<ob.xs.length*ob.sz), ?_,fun b o hbo=>.inl hbo, ?_, ?_⟩
 ·have hget:∀ l' ob',(Qi s.st l)[l']?=some ob'→∃ ob'',s.st[l']?=some ob''∧ob'.ty=ob''.ty∧ob'.sz=ob''.sz∧ob'.xs=ob''.xs∧ob'.live=ob''.live∧(l=l'→ob'.wr=false)∧(l≠l'→ob'=ob''):=by
   intro l' ob' h'
   unfold Qi at h'
   rw[List.getElem?_modify] at h'
   simp only[Option.map_eq_map,yx] at h'
   obtain⟨ob'',h1,h2⟩:=h'
   refine⟨ob'',h1, ?_⟩
   exact ANk
  have hS:∀ b o,St b o→St b o∨(β l=some b∧o<ob.xs.length*ob.sz):=fun b o hbo=>.inl hbo
  have hr:∀ l' u,BN w s.st β l' u→BN w (Qi s.st l) β l' u:=fun l' u hu=>(XE l' u).2 hu
  have hp':∀ l' i off u,AVR w St s.st β (.lp l' i off) u→AVR w (fun b o=>St b o∨(β l=some b∧o<ob.xs.length*ob.sz)) (Qi s.st l) β (.lp l' i off) u:=by
   intro l' i off u hu
   simp only[AVR] at hu ⊢
   cases hq:(Qi s.st l)[l']? with
   | none =>
    unfold Qi at hq
    grind
   | some ob' =>
    grind
  exact {
   defers:=h.defers
   size:=h.size
   lim:=h.lim
   env:=fun i=>AVR.mono hS (fun _ _ _=>rfl) hr hp' _ _ (h.env i)
   below:=h.below
   st0:=fun b o hbo=>.inl (h.st0 b o hbo)
   stOld:=fun b o hbo hlt hno=>by
    rcases hbo with hbo | ⟨hβ,_⟩
    ·exact h.stOld b o hbo hlt hno
    ·rcases(h.obs l ob b hl1 hlive hβ).1 with h' | h'
     ·omega
     grind
   stIn:=fun b o hbo=>by
    rcases hbo with hbo | ⟨hβ,_⟩
    ·exact h.stIn b o hbo
    ·exact(h.obs l ob b hl1 hlive hβ).2.1
   obs:=fun l' ob' b hl' hlive' hβ=>by
    obtain⟨ob'',h1,h2,h3,h4,h5,_⟩:=hget l' ob' hl'
    obtain⟨h6,h7,h8⟩:=h.obs l' ob'' b h1 AOk hβ
    refine⟨h6,h7, ?_⟩
    obtain⟨cs,g1,g2,g3⟩:=ObR.mono hS (fun _ _ _=>rfl) hr rfl h8
    exact⟨cs,AOk,AOk,AOk⟩
   nil:=fun l' ob' hl' hlive' hβ=>by
    obtain⟨ob'',h1,_,_,h4,h5,_⟩:=hget l' ob' hl'
    rw[h4]; exact h.nil l' ob'' h1 AOk hβ
   inj:=fun l1 l2 o1 o2 b h1 h2 h3 h4 h5 h6=>by
    obtain⟨p1,q1,_,_,_,r1,_⟩:=hget l1 o1 h1
    obtain⟨p2,q2,_,_,_,r2,_⟩:=hget l2 o2 h2
    exact h.inj l1 l2 p1 p2 b q1 q2 AOk AOk h5 h6
   sep:=fun l' ob' b o hl' hlive' hβ hbo=>by
    obtain⟨ob'',h1,_,h3,h4,h5,h6,h7⟩:=hget l' ob' hl'
    rcases hbo with hbo | ⟨hβl,ho⟩
    ·have:=h.sep l' ob'' b o h1 AOk hβ hbo
     grind
    ·have e:l=l':=h.inj l l' ob ob'' b hl1 h1 hlive AOk hβl hβ
     grind
   own:=by
    refine h.own.move id (fun x hx=>⟨⟨hx.1,hx.2.1,hx.2.2.1,fun o ho=>?_,fun l' o' hl' hlv=>by
     obtain⟨o2,g1,_,_,_,g5,_⟩:=hget l' o' hl'
     exact hx.2.2.2.2 l' o2 g1 AOk⟩,rfl⟩) hS (fun _ _ _=>rfl) (fun l' ob' b k c h1 h2 h3 h4 h5=>?_) (fun _ _ _ _ _ _ _ _ e=>e)
    ·rcases ho with ho | ⟨hβ,_⟩
     ·exact hx.2.2.2.1 o ho
     ·exact hx.2.2.2.2 l ob hl1 hlive hβ
    grind }
 ·intro u hu
  unfold BN at hu
  simp only[hl1] at hu
  have hu2:=hu.2 hlive
  cases hβ:β l with
  | none =>
   simp only[hβ] at hu2
   obtain⟨rfl,hx⟩:=hu2
   simp only[RdD]
   exact⟨none,0,APe,APe,by simp[maxLen],⟨0,APe⟩,.inl hx⟩
  | some b =>
   simp only[hβ] at hu2
   obtain⟨cap,cs,rfl,h2,h3,h4,h5⟩:=hu2
   obtain⟨_,_,cs',g1,g2,g3⟩:=h.obs l ob b hl1 hlive hβ
   simp only[RdD]
   refine⟨some ⟨b,0,none⟩,cap,rfl,h2,h3,⟨ob.sz,g2⟩,.inr ⟨b,0,rfl, ?_⟩⟩
   refine ADp ob.sz g2 fun i x hi=>AC7 fun j c hj=>?_
   have hf:=FZ g2 i j x c hi hj
   obtain⟨v,hv,hc⟩:=g3 _ c hf
   have hlt:i*ob.sz+j<ob.xs.length*ob.sz:=by
    exact ANx
   have hpc:AB c=true:=by
    have h1:DJ x=true:=aP.1 hp x (bF hi)
    exact aP.1 h1 c (bF hj)
   refine⟨.inr ⟨rfl,AOh⟩,v, ?_, ?_⟩
   ·rw[World.cell?,g1]
    grind
   ·exact ANp
 ·intro b hβ
  obtain⟨_,_,cs',g1,g2,g3⟩:=h.obs l ob b hl1 hlive hβ
  refine⟨g2, ?_⟩
  refine ADp ob.sz g2 fun i x hi=>AC7 fun j c hj=>?_
  have hf:=FZ g2 i j x c hi hj
  obtain⟨v,hv,hc⟩:=g3 _ c hf
  have hlt:i*ob.sz+j<ob.xs.length*ob.sz:=by
   exact ANx
  have hpc:AB c=true:=by
   have h1:DJ x=true:=aP.1 hp x (bF hi)
   exact aP.1 h1 c (bF hj)
  refine⟨.inr ⟨hβ,AOh⟩,v, ?_, ?_⟩
  ·rw[World.cell?,g1]
   grind
  ·exact ANp
def dP (k:IntKind) (x y:Int):Int:=((BitVec.ofInt k.bits x &&& BitVec.ofInt k.bits y).toNat:Int)
def orK (k:IntKind) (x y:Int):Int:=((BitVec.ofInt k.bits x ||| BitVec.ofInt k.bits y).toNat:Int)
def AHd (op:BinOp) (k:IntKind) (x y:Int):Option Value:=match op with
 | .add=>some (.int k (k.wrap (x+y)))
 | .sub=>some (.int k (k.wrap (x-y)))
 | .mul=>some (.int k (k.wrap (x*y)))
 | .quo=>if y=0 then none else some (.int k (k.wrap (x.tdiv y)))
 | .rem=>if y=0 then none else some (.int k (k.wrap (x.tmod y)))
 | .and=>some (.int k (k.wrap (dP k x y)))
 | .or=>some (.int k (k.wrap (orK k x y)))
 | .eql=>some (.bool (x==y))
 | .neq=>some (.bool (x != y))
 | .lss=>some (.bool (decide (x<y)))
 | .leq=>some (.bool (decide (x≤y)))
 | .gtr=>some (.bool (decide (x>y)))
 | .geq=>some (.bool (decide (x≥y)))
 | _=>none
def AHe (op:BinOp) (x y:ByteArray):Option Value:=match op with
 | .add=>if x.size+y.size≤maxLen then some (.string (x++y)) else none
 | .eql=>some (.bool (x.toList==y.toList))
 | .neq=>some (.bool (!(x.toList==y.toList)))
 | .lss=>some (.bool (Op.bytesLess x.toList y.toList))
 | .leq=>some (.bool (Op.bytesLess x.toList y.toList||x.toList==y.toList))
 | .gtr=>some (.bool (!(Op.bytesLess x.toList y.toList||x.toList==y.toList)))
 | .geq=>some (.bool (!(Op.bytesLess x.toList y.toList)))
 | _=>none
def AFW (P:Program) (op:BinOp) (T:TypeId) (a b:Value):Option Value:=match a,b with
 | .int k x,.int k' y=>match op with
  | .shl=>if y<0 then none else some (.int k (k.wrap (x*2 ^ min y.toNat k.bits)))
  | .shr=>if y<0 then none else some (.int k (k.wrap (x.fdiv (2 ^ min y.toNat k.bits))))
  | op=>if k=k' then AHd op k x y else none
 | .string x,.string y=>AHe op x y
 | .bool x,.bool y=>match P.underlying T with
  | some .bool=>(match op with
   | .eql=>some (.bool (x==y))
   | .neq=>some (.bool (!(x==y)))
   | _=>none)
  | _=>none
 | _,_=>none
theorem Ko {k:IntKind} {n:Int} (h:(Lit.int k n).wf=true):k.wrap n=n:=by
 simp only[Lit.wf,ay,bf] at h
 obtain⟨h1,h2⟩:=h
 unfold IntKind.wrap
 exact AMN
theorem AFX {k:IntKind} {x y:Int} (h:(Lit.int k x).wf=true):(Lit.int k (x.tmod y)).wf=true:=by
 have h2:(x.tmod y).natAbs≤x.natAbs:=by
  rw[Int.natAbs_tmod]; exact Nat.mod_le _ _
 have h3:0≤x→0≤x.tmod y:=fun h=>Int.tmod_nonneg y h
 have h6:x≤0→x.tmod y≤0:=fun h=>by
  have:=Int.tmod_nonneg (a:=-x) y AOh
  simp_all
 have h4:x.tmod y≤x∨x.tmod y≤ -x:=AOh
 have h5:x≤x.tmod y∨ -x≤x.tmod y:=AOh
 generalize x.tmod y=z at *
 clear h2
 simp only[Lit.wf,ay,bf] at *
 exact AMN
theorem AFY {k:IntKind} {x:Int} {n:Nat} (h:(Lit.int k x).wf=true):(Lit.int k (x.fdiv (2 ^ n))).wf=true:=by
 have hp:(1:Int)≤2 ^ n:=by
  have:(0:Int)<2 ^ n:=Int.pow_pos AOq
  omega
 have e:x.fdiv (2 ^ n)=x/(2 ^ n):=by
  rw[aaK _ AOh]
 have h1:0≤x→0≤x/(2 ^ n)∧x/(2 ^ n)≤x:=fun hx=>⟨Int.ediv_nonneg hx AOh,Int.ediv_le_self _ hx⟩
 have h2:x<0→x≤x/(2 ^ n)∧x/(2 ^ n)<0:=fun hx=>by
  refine⟨?_,Int.ediv_neg_of_neg_of_pos hx AOh⟩
  rw[Int.le_ediv_iff_mul_le AOh]
  have h:=aaX (show 0≤ -x from AOh) (show (0:Int)≤2 ^ n-1 from AOh)
  grind
 rw[e]
 simp only[Lit.wf,ay,bf] at *
 exact AMN
theorem AFZ {P:Program} {op:BinOp} {T:TypeId} {a b r:Value} (ha:QZ a=true) (h:AFW P op T a b=some r) (x y:Operand) (w:World) :
  (do eqGuard op T x y a b; binOp op T a b:Sem Value).run P w = .ok r w∧QZ r=true:=by
 unfold AFW at h
 split at h
 ·rename_i k x' k' y'
  have hg:(eqGuard op T x y (.int k x') (.int k' y')).run P w = .ok () w:=by
   unfold eqGuard; cases op<;>simp
  simp only[Sem.run_bind,hg,Result.andThen_ok]
  simp only[QZ] at ha
  split at h
  ·split at h
   ·cases h
   ·simp only[ak] at h; subst h
    rename_i hy
    refine⟨?_,APC⟩
    simp[binOp,Op.shift,hy]
  ·split at h
   ·cases h
   ·simp only[ak] at h; subst h
    rename_i hy
    refine⟨?_,APC⟩
    have:=Ko (AFY (n:=min y'.toNat k.bits) ha)
    simp[binOp,Op.shift,hy,this]
  ·split at h
   ·rename_i hn1 hn2 hk
    subst hk
    unfold AHd at h
    cases op<;>simp only[ak] at h<;>first
     | (cases h; done)
     | (subst h; refine⟨by simp[binOp,Op.intArith,Op.intCmp,Op.intBits,dP,orK], ?_⟩; first | rfl | exact Go.wf_wrap _ _)
     | (
       split at h
       ·cases h
       ·simp only[ak] at h; subst h
        rename_i hy
        refine⟨?_,APC⟩
        have:=Ko (AFX (y:=y') ha)
        simp[binOp,Op.intDiv,hy,this])
     | skip
   ·cases h
 ·rename_i x' y'
  have hg:(eqGuard op T x y (.string x') (.string y')).run P w = .ok () w:=by
   unfold eqGuard; cases op<;>simp
  simp only[Sem.run_bind,hg,Result.andThen_ok]
  unfold AHe at h
  cases op<;>simp only[ak] at h<;>first
   | (cases h; done)
   | (subst h; refine⟨by simp[binOp,Op.stringOp],rfl⟩)
   | (
     split at h
     ·rename_i hs
      simp only[ak] at h; subst h
      have hs':¬ (IntKind.i64.max<((x'.size+y'.size:Nat):Int)):=by simp only[maxLen] at hs; simp[IntKind.max,IntKind.signed,IntKind.bits]; omega
      refine⟨?_, ?_⟩
      ·simp only[binOp,Op.stringOp,gt_iff_lt,aZ hs',Sem.run_pure]
      ·simp only[QZ,bf]; grind
     ·cases h)
 ·rename_i x' y'
  have hg:(eqGuard op T x y (.bool x') (.bool y')).run P w = .ok () w:=by
   unfold eqGuard; cases op<;>simp
  simp only[Sem.run_bind,hg,Result.andThen_ok]
  split at h
  ·rename_i hu
   cases op<;>simp only[ak] at h<;>first
    | (cases h; done)
    | (
      subst h
      refine⟨?_,rfl⟩
      have he:(Op.equal T (.bool x') (.bool y')).run P w = .ok (x'==y') w:=by
       unfold Op.equal Op.maxDepth
       rw[Op.equalIn]
       simp[run_underlying hu]
      first
       | (show ((do pure (.bool (← Op.equal T (.bool x') (.bool y')))):Sem Value).run P w=_; simp_all)
       | (show ((do pure (.bool (!(← Op.equal T (.bool x') (.bool y'))))):Sem Value).run P w=_; simp_all))
  ·cases h
 ·cases h
def aUn (op:UnOp) (a:Value):Option Value:=match op,a with
 | .neg,.int k n=>some (.int k (k.wrap (0-n)))
 | .not,.bool b=>some (.bool !b)
 | _,_=>none
theorem AHf {P:Program} {op:UnOp} {a r:Value} (h:aUn op a=some r) (w:World):(Op.unary op a).run P w = .ok r w∧QZ r=true:=by
 unfold aUn at h
 split at h<;>(try simp only[ak] at h)<;>first
  | (subst h; exact⟨by simp[Op.unary,Op.intArith],APC⟩)
  | (subst h; exact⟨by simp[Op.unary],rfl⟩)
  | cases h
inductive Kd where
 | bool
 | int (k:IntKind)
 | str
def ADt (P:Program) (t:TypeId):Option Kd:=match P.underlying t with
 | some .bool=>some .bool
 | some (.int k)=>some (.int k)
 | some .string=>some .str
 | _=>none
def flatK (P:Program):List Field→Nat→Option (List Kd)
 | [],_=>some []
 | f::fs,i=>match ADt P f.type,flatK P fs (i+1) with
  | some k, some ks => if f.offset = i ∧ f.name ≠ "_" then some (k :: ks) else none
  | _,_=>none
def ZF (P:Program) (T:TypeId):Option (List Kd):=match P.underlying T with
 | some (.struct fs)=>if P.eqGuardType P.depth T=false∧P.stoodInHeld T=false then flatK P fs.toList 0 else none
 | _=>none
def IG:Kd→Cl→Cl→Option Bool
 | .bool,.v (.bool a),.v (.bool b)=>some (a==b)
 | .int k,.v (.int k1 a),.v (.int k2 b)=>if k1=k∧k2=k then some (a==b) else none
 | .str,.v (.string a),.v (.string b)=>some (a.toList==b.toList)
 | _,_,_=>none
def EP:List Kd→List Cl→List Cl→Option Bool
 | [],[],[]=>some true
 | k::ks,c::cs,d::ds=>match IG k c d,EP ks cs ds with
  | some b,some r=>some (b&&r)
  | _,_=>none
 | _,_,_=>none
theorem zA {P:Program} {t:TypeId} {k:Kd} (h:ADt P t=some k):P.plainKey t=true:=by
 unfold ADt at h
 unfold Program.plainKey
 grind
theorem AHg {P:Program} {w:World} {t:TypeId} {k:Kd} {c d:Cl} {b:Bool} (hk:ADt P t=some k) (h:IG k c d=some b) (n:Nat):∃ x y,c = .v x∧d = .v y∧(Op.equalIn (n+1) t x y).run P w = .ok b w:=by
 unfold IG at h
 unfold ADt at hk
 split at h
 ·grind [ak,run_equalIn_bool]
 ·rename_i q k1 a k2 a'
  split at h
  ·rename_i hkk
   obtain⟨rfl,rfl⟩:=hkk
   simp only[ak] at h
   subst h
   split at hk<;>simp_all
   rename_i hu
   simp[Op.equalIn,run_underlying hu]
  ·cases h
 ·rename_i a a'
  simp only[ak] at h
  subst h
  split at hk<;>simp_all
  rename_i hu
  rw[← beq_toListBytes]
  simp[Op.equalIn,run_underlying hu]
 ·cases h
theorem YH {P:Program} {w:World} (n:Nat) {us vs:List Value}:∀ (fs:List Field) (i:Nat) (ks:List Kd) (cs ds:List Cl) (r:Bool),flatK P fs i=some ks→EP ks cs ds=some r →
  (∀ (k:Nat) (x:Value),cs[k]?=some (.v x)→us[i+k]?=some x)→(∀ (k:Nat) (x:Value),ds[k]?=some (.v x)→vs[i+k]?=some x)→(Op.eqFields (n+1) us.toArray vs.toArray fs).run P w = .ok r w
 | [],i,ks,cs,ds,r,hf,hb,hu,hv=>by
  simp only[flatK,ak] at hf
  subst hf
  unfold EP at hb
  split at hb
  ·simp only[ak] at hb
   subst hb
   simp[Op.eqFields]
  ·rename_i he; cases he
  ·cases hb
 | f::fs,i,ks,cs,ds,r,hf,hb,hu,hv=>by
  simp only[flatK] at hf
  split at hf
  ·rename_i k ks' hk hks
   split at hf
   ·rename_i hc
    obtain⟨hoff,hname⟩:=hc
    simp only[ak] at hf
    subst hf
    cases cs with
    | nil=>simp[EP] at hb
    | cons c cs =>
     cases ds with
     | nil=>simp[EP] at hb
     | cons d ds =>
      simp only[EP] at hb
      split at hb
      ·rename_i b r' hb1 hb2
       simp only[ak] at hb
       subst hb
       obtain⟨x,y,rfl,rfl,heq⟩:=AHg (w:=w) hk hb1 n
       have hp:=zA hk
       have p1:(part f.type us.toArray f.offset).run P w = .ok x w:=run_part_plain w hp (by rw[hoff]; simpa using hu 0 x rfl)
       have p2:(part f.type vs.toArray f.offset).run P w = .ok y w:=run_part_plain w hp (by rw[hoff]; simpa using hv 0 y rfl)
       have ih:=YH (w:=w) n fs (i+1) ks' cs ds r' hks hb2 (fun k z hz=>by
        have:=hu (k+1) z (by simpa using hz)
        rwa [show i+(k+1)=i+1+k from AOh] at this) (fun k z hz=>by
        have:=hv (k+1) z (by simpa using hz)
        rwa [show i+(k+1)=i+1+k from AOh] at this)
       simp only[Op.eqFields,hname,ne_eq,not_false_eq_true,aX,Sem.run_bind,p1,p2,heq,Result.andThen_ok,Sem.run_ite]
       cases b with
       | true=>simpa using ih
       | false=>simp
      ·cases hb
   ·cases hf
  ·cases hf
theorem uZ {P:Program} {w:World} {T:TypeId} {ks:List Kd} {cs ds:List Cl} {r:Bool} {us vs:List Value} (hs:ZF P T=some ks) (hb:EP ks cs ds=some r) (hu:∀ (k:Nat) (x:Value),cs[k]?=some (.v x)→us[k]?=some x) (hv:∀ (k:Nat) (x:Value),ds[k]?=some (.v x)→vs[k]?=some x) (x y:Operand) :
  (do eqGuard .eql T x y (.agg us.toArray) (.agg vs.toArray); binOp .eql T (.agg us.toArray) (.agg vs.toArray):Sem Value).run P w = .ok (.bool r) w ∧
   (do eqGuard .neq T x y (.agg us.toArray) (.agg vs.toArray); binOp .neq T (.agg us.toArray) (.agg vs.toArray):Sem Value).run P w = .ok (.bool (!r)) w:=by
 unfold ZF at hs
 split at hs
 ·rename_i fs hut
  split at hs
  ·rename_i hc
   obtain⟨hg,hst⟩:=hc
   have hfo:P.fieldsOf T=fs:=by simp[Program.fieldsOf,hut]
   have heq:(Op.equal T (.agg us.toArray) (.agg vs.toArray)).run P w = .ok r w:=by
    unfold Op.equal Op.maxDepth
    rw[run_equalIn_struct w 9999 T us.toArray vs.toArray AOk hst,hfo]
    exact YH 9998 fs.toList 0 ks cs ds r hs hb (fun k x hx=>AOk) (fun k x hx=>AOk)
   constructor
   ·simp[eqGuard,run_program,hg,binOp,heq]
   ·simp[eqGuard,run_program,hg,binOp,heq]
  ·cases hs
 ·cases hs
def Om (row:List Cl) (off n:Nat) (g:Bool):Option AV:=
 if g then(if off+n≤row.length then some (.agg ((row.drop off).take n)) else none)
 else match row[off]? with
  | some c=>some (.c c)
  | none=>none
def KH:AV→Bool
 | .c x=>!Gi x
 | .agg xs=>xs.all fun c=>!Gi c
 | _=>true
def Oo (x:AV):Option Nat:=match x with
 | .c (.v (.int _ n))=>if 0≤n then some n.toNat else none
 | _=>none
def AGj (t:Bool) (x y:AV):AV:=match t with
 | true=>x
 | false=>y
def Q5:List (List Cl)→Option (List Int)
 | []=>some []
 | [.v (.int .u8 n)]::r=>match Q5 r with
  | some ns=>some (n::ns)
  | none=>none
 | _::_=>none
def Ip (P:Program) (s:MS) (op:Op):Option AV:=match op with
 | .move x=>some (Ew s x)
 | .assign x=>some (Ew s x)
 | .pick c x y=>match Ew s c with
  | .c (.v (.bool t))=>some (AGj t (Ew s x) (Ew s y))
  | _=>none
 | .load T a=>match Ae P T,Bf P T with
  | some n,some g=>match Ew s a with
   | .lp l i off=>match DT s.st l with
    | some ob=>match ob.xs[i]? with
     | some row=>match Om row off n g with
      | some y=>if KH y=true then some y else none
      | none=>none
     | none=>none
    | none=>none
   | .ip row=>Om row 0 n g
   | _=>none
  | _,_=>none
 | .nilCheck x=>match Ew s x with
  | .lp l i off=>match DT s.st l with
   | some _=>some (.lp l i off)
   | none=>none
  | .ip row=>some (.ip row)
  | .c (.v (.func (.func f) a b))=>some (.c (.v (.func (.func f) a b)))
  | _=>none
 | .binOp op T x y _=>match Ew s x,Ew s y with
  | .c (.v a),.c (.v b)=>match AFW P op T a b with
   | some r=>some (.c (.v r))
   | none=>none
  | .agg cs,.agg ds=>match ZF P T with
   | some ks=>match EP ks cs ds with
    | some r=>match op with
     | .eql=>some (.c (.v (.bool r)))
     | .neq=>some (.c (.v (.bool (!r))))
     | _=>none
    | none=>none
   | none=>none
  | _,_=>none
 | .unOp op _ x=>match Ew s x with
  | .c (.v a)=>match aUn op a with
   | some r=>some (.c (.v r))
   | none=>none
  | _=>none
 | .convert src dst x=>match P.underlying src,P.underlying dst,Ew s x with
  | some _,some (.int k),.c (.v (.int _ n))=>some (.c (.v (.int k (k.wrap n))))
  | some _,some .string,.c (.v (.string b))=>some (.c (.v (.string b)))
  | some (.slice e),some .string,.c d=>match P.underlying e,Td s.st d with
   | some (.int .u8),some xs=>match Q5 xs with
    | some ns=>some (.c (.v (.string (strOfNums ns))))
    | none=>none
   | _,_=>none
  | _,_,_=>none
 | .fieldAddr T x f=>match AC P T f with
  | some (fo,ft)=>match Ae P ft with
   | some (_+1)=>match Ew s x with
    | .lp l i off=>match DT s.st l with
     | some _=>some (.lp l i (off+fo))
     | none=>none
    | .ip row=>some (.ip (row.drop fo))
    | _=>none
   | _=>none
  | none=>none
 | .field T x f=>match AC P T f with
  | some (fo,ft)=>match Ae P ft,Bf P ft,Ew s x with
   | some n,some g,.agg row=>Om row fo n g
   | _,_,_=>none
  | none=>none
 | .indexAddr T x ix=>match EO P T with
  | some e=>match Ae P e,Oo (Ew s ix) with
   | some n,some k=>match Ew s x with
    | .c (.sl xs)=>match xs[k]? with
     | some row=>if row.length=n then some (.ip row) else none
     | none=>none
    | .c (.ref l)=>match DT s.st l with
     | some ob=>if k<ob.xs.length∧ob.sz=n then some (.lp l k 0) else none
     | none=>none
    | _=>none
   | _,_=>none
  | none=>none
 | .index T x ix=>match P.underlying T with
  | some .string=>match Ew s x,Oo (Ew s ix) with
   | .c (.v (.string b)),some k=>match b[k]? with
    | some c=>some (.c (.v (.int .u8 c.toNat)))
    | none=>none
   | _,_=>none
  | _=>none
 | .extract x ix=>match Ew s x with
  | .tup xs=>xs[ix]?
  | _=>none
 | .call c=>match c.callee with
  | .builtin .len=>match c.argTypes.toList,c.args.toList with
   | [t],[x]=>match P.underlying t,Ew s x with
    | some .string,.c (.v (.string b))=>some (.c (.v (.int .i64 b.size)))
    | some (.slice _),.c d=>match Td s.st d with
     | some xs=>some (.c (.v (.int .i64 xs.length)))
     | none=>none
    | _,_=>none
   | _,_=>none
  | .builtin .min=>match c.args.toList with
   | [x,y]=>match Ew s x,Ew s y with
    | .c (.v (.int .i64 a)),.c (.v (.int .i64 b))=>some (.c (.v (.int .i64 (if b<a then b else a))))
    | _,_=>none
   | _=>none
  | .builtin .max=>match c.args.toList with
   | [x,y]=>match Ew s x,Ew s y with
    | .c (.v (.int .i64 a)),.c (.v (.int .i64 b))=>some (.c (.v (.int .i64 (if a<b then b else a))))
    | _,_=>none
   | _=>none
  | _=>none
 | _=>none
end Go.Vm
