/- A part. -/
import Derived.Test.YtnfbaclikokapaaGreatAe
set_option linter.unusedSimpArgs false
set_option linter.unusedVariables false
set_option maxHeartbeats 2000000
set_option maxRecDepth 10000
open Go.Proofs.Tryz
namespace Go.Proofs.YtnfbaclikokapaaGreat
open Go.Vm
def SV (p:DPred):List Cl:=[.v (.int .i64 p.kind),.v (.int .i64 p.col),.v (.int .i64 p.op),.v (.int .i64 p.v.ty),.v (.int .i64 p.v.n),.v (.string p.v.s),.sl (p.l.map DPred.c)]
@[go_sem] theorem AEA (p:DPred):SV p = [.v (.int .i64 p.kind),.v (.int .i64 p.col),.v (.int .i64 p.op),.v (.int .i64 p.v.ty),.v (.int .i64 p.v.n),.v (.string p.v.s),.sl (p.l.map DPred.c)]:=rfl
def SX (c:Int) (p:DPred):List Cl:=[.v (.int .i64 p.kind),.v (.int .i64 c),.v (.int .i64 p.op),.v (.int .i64 p.v.ty),.v (.int .i64 p.v.n),.v (.string p.v.s),.sl (p.l.map DPred.c)]
@[go_sem] theorem ADU (c:Int) (p:DPred):SX c p = [.v (.int .i64 p.kind),.v (.int .i64 c),.v (.int .i64 p.op),.v (.int .i64 p.v.ty),.v (.int .i64 p.v.n),.v (.string p.v.s),.sl (p.l.map DPred.c)]:=rfl
def DD (cs:List Int) (d:Nat) (p:DPred):Int:=if H_ cs d p=true then(Bi d p:Int) else -1
theorem vJ {cs:List Int} {d:Nat} {p:DPred} (h:EI cs p=false):DD cs (d+1) p = -1:=by simp[DD,H_,h]
theorem xe (cs:List Int) (hc:cs.length≤1048576) (d:Nat) (p:DPred) (hd:d+1≤4) (hlen:p.l.length≤1048576) (hx:∀ x∈p.l,Ctr prog 239 [.c (.sl (cs.map intC)),.agg x.c,.c (.v (.int .i64 (d)))] [.val (.c (.v (.int .i64 (DD cs d x))))]):Ctr prog 239 [.c (.sl (cs.map intC)),.agg p.c,.c (.v (.int .i64 ((d+1:Nat))))] [.val (.c (.v (.int .i64 (DD cs (d+1) p))))]:=by
 refine CM call239 func239 ntmps239 results239 fun hw=>?_
 have h1:decide (((d+1:Nat):Int)<1)=false:=by simp; omega
 have hdw:IntKind.i64.wrap (((d+1:Nat):Int)-1)=(d:Int):=by rw[wrap_i64 (by omega) (by omega)]; omega
 have hin:Ac p.col 0 ((cs.length:Int)-1)=true→∃ m:Nat,p.col=m∧m<cs.length:=by
  intro hh
  simp[Ac] at hh
  exact⟨p.col.toNat,by omega,by omega⟩
 have hwl:IntKind.i64.wrap ((cs.length:Int)-1)=(cs.length:Int)-1:=wrap_i64 (by omega) (by omega)
 rcases hl4:decide ((p.l.length:Int)>4) with _ | _
 rotate_left
 ·have hno:EI cs p=false:=by
   rcases h:EI cs p with _ | _
   ·rfl
   ·have:=dA h; simp at hl4; omega
  rw[vJ hno]
  simp only[go_sem,ae,h1,hl4]
 rcases hs:EI cs p with _ | _
 ·rw[vJ hs]
  rcases k1:(p.kind==1) with _ | _
  rotate_left
  ·have hs1:(DJ p&&((p.l.length:Int)==0))=false:=by simpa [EI,k1] using hs
   rcases hA:(p.col==0) with _ | _
   ·simp only[go_sem,ae,h1,hl4,hA,k1]
   rcases hB:(p.op==0) with _ | _
   ·simp only[go_sem,ae,h1,hl4,hA,hB,k1]
   rcases hE:((p.v.ty==0)&&((p.v.n==0)&&(p.v.s.toList==ByteArray.empty.toList))) with _ | _
   ·simp only[go_sem,ae,h1,hl4,hA,hB,hE,k1,Dc,Gs]
   ·have hbt:DJ p=true:=by simp only[DJ,hA,hB,ai]; exact hE
    have hl0:((p.l.length:Int)==0)=false:=by rw[hbt,ai] at hs1; exact hs1
    simp only[go_sem,ae,h1,hl4,hA,hB,hE,k1,Dc,Gs,hl0]
  rcases k2:(p.kind==2) with _ | _
  rotate_left
  ·have hs1:(IA cs p&&((p.l.length:Int)==0))=false:=by simpa [EI,k1,k2] using hs
   rcases hA:(p.col==0) with _ | _
   ·simp only[go_sem,ae,h1,hl4,hwl,hA,k1,k2,Dc,Gs]
    refine DrawK.mk ?_
    simp only[go_sem,ae,h1,hl4,hwl,hA,k1,k2]
    refine CallF.mk _ (AC p.col 0 _) ?_
    rcases c1:Ac p.col 0 ((cs.length:Int)-1) with _ | _
    ·simp only[go_sem,ae,h1,hl4,hwl,k1,k2,c1]
    obtain⟨m,hm,hml⟩:=hin c1
    have hgm:(cs[p.col.toNat]?).getD 0=cs[m]:=by rw[hm]; simp[hml]
    simp only[go_sem,ae,h1,hl4,hwl,k1,k2,c1]
    refine CallF.mk _ (AC p.op 1 6) ?_
    rcases c4:Ac p.op 1 6 with _ | _
    ·simp only[go_sem,ae,h1,hl4,hwl,k1,k2,c1,c4]
    simp only[go_sem,ae,h1,hl4,hwl,k1,k2,c1,c4]
    refine CY (C9 p.v) ?_
    rcases c2:BD p.v with _ | _
    ·simp only[go_sem,ae,h1,hl4,hwl,k1,k2,c1,c2,c4]
    rcases c3:(p.v.ty==cs[m]) with _ | _
    ·simp only[go_sem,ae,h1,hl4,hwl,k1,k2,c1,c2,c3,c4,hm,AA _ hml,hml]
    have hl0:((p.l.length:Int)==0)=false:=by
     have:IA cs p=true:=by simp only[IA,hgm,c1,c2,c3,c4,aS]
     simpa [this] using hs1
    simp only[go_sem,ae,h1,hl4,hwl,k1,k2,c1,c2,c3,c4,hm,AA _ hml,hml,hl0]
   rcases hB:(p.op==0) with _ | _
   ·simp only[go_sem,ae,h1,hl4,hwl,hA,hB,k1,k2,Dc,Gs]
    refine DrawK.mk ?_
    simp only[go_sem,ae,h1,hl4,hwl,hA,hB,k1,k2]
    refine CallF.mk _ (AC p.col 0 _) ?_
    rcases c1:Ac p.col 0 ((cs.length:Int)-1) with _ | _
    ·simp only[go_sem,ae,h1,hl4,hwl,k1,k2,c1]
    obtain⟨m,hm,hml⟩:=hin c1
    have hgm:(cs[p.col.toNat]?).getD 0=cs[m]:=by rw[hm]; simp[hml]
    simp only[go_sem,ae,h1,hl4,hwl,k1,k2,c1]
    refine CallF.mk _ (AC p.op 1 6) ?_
    rcases c4:Ac p.op 1 6 with _ | _
    ·simp only[go_sem,ae,h1,hl4,hwl,k1,k2,c1,c4]
    simp only[go_sem,ae,h1,hl4,hwl,k1,k2,c1,c4]
    refine CY (C9 p.v) ?_
    rcases c2:BD p.v with _ | _
    ·simp only[go_sem,ae,h1,hl4,hwl,k1,k2,c1,c2,c4]
    rcases c3:(p.v.ty==cs[m]) with _ | _
    ·simp only[go_sem,ae,h1,hl4,hwl,k1,k2,c1,c2,c3,c4,hm,AA _ hml,hml]
    have hl0:((p.l.length:Int)==0)=false:=by
     have:IA cs p=true:=by simp only[IA,hgm,c1,c2,c3,c4,aS]
     simpa [this] using hs1
    simp only[go_sem,ae,h1,hl4,hwl,k1,k2,c1,c2,c3,c4,hm,AA _ hml,hml,hl0]
   simp only[go_sem,ae,h1,hl4,hwl,hA,hB,k1,k2,Dc,Gs]
   refine DrawK.mk ?_
   simp only[go_sem,ae,h1,hl4,hwl,hA,hB,k1,k2]
   refine CallF.mk _ (AC p.col 0 _) ?_
   rcases c1:Ac p.col 0 ((cs.length:Int)-1) with _ | _
   ·simp only[go_sem,ae,h1,hl4,hwl,k1,k2,c1]
   obtain⟨m,hm,hml⟩:=hin c1
   have hgm:(cs[p.col.toNat]?).getD 0=cs[m]:=by rw[hm]; simp[hml]
   simp only[go_sem,ae,h1,hl4,hwl,k1,k2,c1]
   refine CallF.mk _ (AC p.op 1 6) ?_
   rcases c4:Ac p.op 1 6 with _ | _
   ·simp only[go_sem,ae,h1,hl4,hwl,k1,k2,c1,c4]
   simp only[go_sem,ae,h1,hl4,hwl,k1,k2,c1,c4]
   refine CY (C9 p.v) ?_
   rcases c2:BD p.v with _ | _
   ·simp only[go_sem,ae,h1,hl4,hwl,k1,k2,c1,c2,c4]
   rcases c3:(p.v.ty==cs[m]) with _ | _
   ·simp only[go_sem,ae,h1,hl4,hwl,k1,k2,c1,c2,c3,c4,hm,AA _ hml,hml]
   have hl0:((p.l.length:Int)==0)=false:=by
    have:IA cs p=true:=by simp only[IA,hgm,c1,c2,c3,c4,aS]
    simpa [this] using hs1
   simp only[go_sem,ae,h1,hl4,hwl,k1,k2,c1,c2,c3,c4,hm,AA _ hml,hml,hl0]
  rcases k3:(p.kind==3) with _ | _
  rotate_left
  ·have hs1:(DJ p&&Ac p.l.length 1 4)=false:=by simpa [EI,k1,k2,k3] using hs
   rcases hA:(p.col==0) with _ | _
   ·simp only[go_sem,ae,h1,hl4,hA,k1,k2,k3]
   rcases hB:(p.op==0) with _ | _
   ·simp only[go_sem,ae,h1,hl4,hA,hB,k1,k2,k3]
   rcases hE:((p.v.ty==0)&&((p.v.n==0)&&(p.v.s.toList==ByteArray.empty.toList))) with _ | _
   ·simp only[go_sem,ae,h1,hl4,hA,hB,hE,k1,k2,k3,Dc,Gs]
   ·have hbt:DJ p=true:=by simp only[DJ,hA,hB,ai]; exact hE
    have hl0:Ac p.l.length 1 4=false:=by rw[hbt,ai] at hs1; exact hs1
    have hl1:decide ((p.l.length:Int)≥1)=false:=by simp[Ac] at hl0 hl4 ⊢; omega
    simp only[go_sem,ae,h1,hl4,hA,hB,hE,k1,k2,k3,Dc,Gs,hl1]
  rcases k4:(p.kind==4) with _ | _
  rotate_left
  ·have hs1:(DJ p&&Ac p.l.length 1 4)=false:=by simpa [EI,k1,k2,k3,k4] using hs
   rcases hA:(p.col==0) with _ | _
   ·simp only[go_sem,ae,h1,hl4,hA,k1,k2,k3,k4]
   rcases hB:(p.op==0) with _ | _
   ·simp only[go_sem,ae,h1,hl4,hA,hB,k1,k2,k3,k4]
   rcases hE:((p.v.ty==0)&&((p.v.n==0)&&(p.v.s.toList==ByteArray.empty.toList))) with _ | _
   ·simp only[go_sem,ae,h1,hl4,hA,hB,hE,k1,k2,k3,k4,Dc,Gs]
   ·have hbt:DJ p=true:=by simp only[DJ,hA,hB,ai]; exact hE
    have hl0:Ac p.l.length 1 4=false:=by rw[hbt,ai] at hs1; exact hs1
    have hl1:decide ((p.l.length:Int)≥1)=false:=by simp[Ac] at hl0 hl4 ⊢; omega
    simp only[go_sem,ae,h1,hl4,hA,hB,hE,k1,k2,k3,k4,Dc,Gs,hl1]
  rcases k5:(p.kind==5) with _ | _
  rotate_left
  ·have hs1:(DJ p&&((p.l.length:Int)==1))=false:=by simpa [EI,k1,k2,k3,k4,k5] using hs
   rcases hA:(p.col==0) with _ | _
   ·simp only[go_sem,ae,h1,hl4,hA,k1,k2,k3,k4,k5]
   rcases hB:(p.op==0) with _ | _
   ·simp only[go_sem,ae,h1,hl4,hA,hB,k1,k2,k3,k4,k5]
   rcases hE:((p.v.ty==0)&&((p.v.n==0)&&(p.v.s.toList==ByteArray.empty.toList))) with _ | _
   ·simp only[go_sem,ae,h1,hl4,hA,hB,hE,k1,k2,k3,k4,k5,Dc,Gs]
   ·have hbt:DJ p=true:=by simp only[DJ,hA,hB,ai]; exact hE
    have hl0:((p.l.length:Int)==1)=false:=by rw[hbt,ai] at hs1; exact hs1
    simp only[go_sem,ae,h1,hl4,hA,hB,hE,k1,k2,k3,k4,k5,Dc,Gs,hl0]
  rcases hA:(p.col==0) with _ | _
  ·simp only[go_sem,ae,h1,hl4,hA,k1,k2,k3,k4,k5]
  rcases hB:(p.op==0) with _ | _
  ·simp only[go_sem,ae,h1,hl4,hA,hB,k1,k2,k3,k4,k5]
  simp only[go_sem,ae,h1,hl4,hA,hB,k1,k2,k3,k4,k5,Dc,Gs]
 ·have hbare:DJ p=true→(p.col==0)=true∧(p.op==0)=true∧((p.v.ty==0)&&((p.v.n==0)&&(p.v.s.toList==ByteArray.empty.toList)))=true:=by
   intro hh
   simp only[DJ,ak] at hh
   simp only[ak]
   exact hh
  have hs0:=hs
  unfold EI at hs0
  rcases k1:(p.kind==1) with _ | _
  rotate_left
  ·have hs1:(DJ p&&((p.l.length:Int)==0))=true:=by simpa [k1] using hs0
   rw[ak] at hs1
   obtain⟨hA,hB,hE⟩:=hbare hs1.1
   have hl0:=hs1.2
   simp only[go_sem,ae,h1,hl4,k1,hA,hB,hE,hl0,Dc,Gs]
   refine LoopU.mk 1 (A:=Nat×Nat) (fun x=>[(9,.c (.v (.int .i64 (x.2)))),(105,.c (.v (.int .i64 (x.1))))]) (fun _=>[⟨71,7,[SV p],true,true⟩]) (fun x=>x.1≤p.l.length∧((p.l.drop x.1).all fun q=>H_ cs d q)=(p.l.all fun q=>H_ cs d q)∧x.2+((p.l.drop x.1).map fun q=>Bi d q).sum=1+(p.l.map fun q=>Bi d q).sum∧x.2≤1+100*x.1) (fun x=>p.l.length-x.1) (0,1) ⟨⟨rfl,rfl⟩,rfl,ax _,rfl,rfl,by simp⟩ ?_
   rintro⟨k,n⟩ ⟨hk,hb,hs2,hn⟩
   dsimp only at hk hb hs2 hn
   simp only[go_sem,ae]
   refine cndC.mk (fun h2=>?_) (fun h2=>?_)
   ·have hk':k<p.l.length:=by simpa using h2
    rw[Jp cs d p.l hk'] at hb
    rw[Jo d p.l hk'] at hs2
    simp only[go_sem,ae,AA _ hk',hk',hdw]
    try refine DrawK.mk ?_
    try simp only[go_sem,ae,AA _ hk',hk',hdw]
    first | refine CY (hx p.l[k] (aj hk')) ?_ | refine CW (hx p.l[k] (aj hk')) fun _=>?_
    rcases hv:H_ cs d p.l[k] with _ | _
    ·have e1:DD cs d p.l[k] = -1:=by simp[DD,hv]
     rw[hv,ag] at hb
     have e2:DD cs (d+1) p = -1:=by simp[DD,H_,← hb]
     have e3:decide ((-1:Int)<0)=true:=by decide
     rw[e2]
     simp only[go_sem,ae,e1,e3]
    ·have e1:DD cs d p.l[k]=(Bi d p.l[k]:Int):=by simp[DD,hv]
     have e4:=KN d _ hv
     have e5:4 ^ d≤4 ^ 3:=z_ (by omega) (by omega)
     have e3:decide ((Bi d p.l[k]:Int)<0)=false:=by simp
     rw[hv,ai] at hb
     have hw1:IntKind.i64.wrap ((n:Int)+(Bi d p.l[k]:Int))=((n+Bi d p.l[k]:Nat):Int):=by rw[wrap_i64 (by omega) (by omega)]; omega
     simp only[go_sem,ae,e1,e3,hw1,wrap_i64 (n:=(k:Int)+1) (by omega) (by omega)]
     exact⟨(k+1,n+Bi d p.l[k]),⟨rfl,rfl⟩,rfl,⟨by omega,hb,by simp only; omega,by simp only; omega⟩,by simp only; omega⟩
   ·have hk':k=p.l.length:=by simp at h2; omega
    subst hk'
    rw[aU] at hb hs2
    have e1:DD cs (d+1) p=n:=by
     have e2:H_ cs (d+1) p=true:=by rw[H_,hs,← hb]; rfl
     have e3:n=Bi (d+1) p:=by rw[Bi]; simpa using hs2
     rw[DD,bz e2,e3]
    rw[e1]
    simp only[go_sem]
  rcases k2:(p.kind==2) with _ | _
  rotate_left
  ·have hs1:(IA cs p&&((p.l.length:Int)==0))=true:=by simpa [k1,k2] using hs0
   rw[ak] at hs1
   have hl0:=hs1.2
   have hs2:=hs1.1
   simp only[IA,ak] at hs2
   obtain⟨c1,c4,c2,c3⟩:=hs2
   obtain⟨m,hm,hml⟩:=hin c1
   have hgm:(cs[p.col.toNat]?).getD 0=cs[m]:=by rw[hm]; simp[hml]
   rw[hgm] at c3
   have c1':=c1
   rw[hm] at c1'
   have fin:∀ P:Prop,P→P:=fun _ h=>h
   rcases hA:(p.col==0) with _ | _
   ·simp only[go_sem,ae,h1,hl4,hwl,hA,k1,k2,Dc,Gs]
    refine DrawK.mk ?_
    simp only[go_sem,ae,h1,hl4,hwl,hA,k1,k2]
    refine CallF.mk _ (AC p.col 0 _) ?_
    simp only[go_sem,ae,h1,hl4,hwl,k1,k2,c1]
    refine CallF.mk _ (AC p.op 1 6) ?_
    simp only[go_sem,ae,h1,hl4,hwl,k1,k2,c1,c4]
    refine CY (C9 p.v) ?_
    simp only[go_sem,ae,h1,hl4,hwl,k1,k2,c1,c2,c3,c4,hm,AA _ hml,hml,hl0]
    refine LoopU.mk 1 (A:=Nat×Nat) (fun x=>[(9,.c (.v (.int .i64 (x.2)))),(105,.c (.v (.int .i64 (x.1))))]) (fun _=>[⟨71,7,[SX m p],true,true⟩]) (fun x=>x.1≤p.l.length∧((p.l.drop x.1).all fun q=>H_ cs d q)=(p.l.all fun q=>H_ cs d q)∧x.2+((p.l.drop x.1).map fun q=>Bi d q).sum=1+(p.l.map fun q=>Bi d q).sum∧x.2≤1+100*x.1) (fun x=>p.l.length-x.1) (0,1) ⟨⟨rfl,rfl⟩,rfl,ax _,rfl,rfl,by simp⟩ ?_
    rintro⟨k,n⟩ ⟨hk,hb,hs2,hn⟩
    dsimp only at hk hb hs2 hn
    simp only[go_sem,ae]
    refine cndC.mk (fun h2=>?_) (fun h2=>?_)
    ·have hk':k<p.l.length:=by simpa using h2
     rw[Jp cs d p.l hk'] at hb
     rw[Jo d p.l hk'] at hs2
     simp only[go_sem,ae,AA _ hk',hk',hdw]
     try refine DrawK.mk ?_
     try simp only[go_sem,ae,AA _ hk',hk',hdw]
     first | refine CY (hx p.l[k] (aj hk')) ?_ | refine CW (hx p.l[k] (aj hk')) fun _=>?_
     rcases hv:H_ cs d p.l[k] with _ | _
     ·have e1:DD cs d p.l[k] = -1:=by simp[DD,hv]
      rw[hv,ag] at hb
      have e2:DD cs (d+1) p = -1:=by simp[DD,H_,← hb]
      have e3:decide ((-1:Int)<0)=true:=by decide
      rw[e2]
      simp only[go_sem,ae,e1,e3]
     ·have e1:DD cs d p.l[k]=(Bi d p.l[k]:Int):=by simp[DD,hv]
      have e4:=KN d _ hv
      have e5:4 ^ d≤4 ^ 3:=z_ (by omega) (by omega)
      have e3:decide ((Bi d p.l[k]:Int)<0)=false:=by simp
      rw[hv,ai] at hb
      have hw1:IntKind.i64.wrap ((n:Int)+(Bi d p.l[k]:Int))=((n+Bi d p.l[k]:Nat):Int):=by rw[wrap_i64 (by omega) (by omega)]; omega
      simp only[go_sem,ae,e1,e3,hw1,wrap_i64 (n:=(k:Int)+1) (by omega) (by omega)]
      exact⟨(k+1,n+Bi d p.l[k]),⟨rfl,rfl⟩,rfl,⟨by omega,hb,by simp only; omega,by simp only; omega⟩,by simp only; omega⟩
    ·have hk':k=p.l.length:=by simp at h2; omega
     subst hk'
     rw[aU] at hb hs2
     have e1:DD cs (d+1) p=n:=by
      have e2:H_ cs (d+1) p=true:=by rw[H_,hs,← hb]; rfl
      have e3:n=Bi (d+1) p:=by rw[Bi]; simpa using hs2
      rw[DD,bz e2,e3]
     rw[e1]
     simp only[go_sem]
   rcases hB:(p.op==0) with _ | _
   ·simp only[go_sem,ae,h1,hl4,hwl,hA,hB,k1,k2,Dc,Gs]
    refine DrawK.mk ?_
    simp only[go_sem,ae,h1,hl4,hwl,hA,hB,k1,k2]
    refine CallF.mk _ (AC p.col 0 _) ?_
    simp only[go_sem,ae,h1,hl4,hwl,k1,k2,c1]
    refine CallF.mk _ (AC p.op 1 6) ?_
    simp only[go_sem,ae,h1,hl4,hwl,k1,k2,c1,c4]
    refine CY (C9 p.v) ?_
    simp only[go_sem,ae,h1,hl4,hwl,k1,k2,c1,c2,c3,c4,hm,AA _ hml,hml,hl0]
    refine LoopU.mk 1 (A:=Nat×Nat) (fun x=>[(9,.c (.v (.int .i64 (x.2)))),(105,.c (.v (.int .i64 (x.1))))]) (fun _=>[⟨71,7,[SX m p],true,true⟩]) (fun x=>x.1≤p.l.length∧((p.l.drop x.1).all fun q=>H_ cs d q)=(p.l.all fun q=>H_ cs d q)∧x.2+((p.l.drop x.1).map fun q=>Bi d q).sum=1+(p.l.map fun q=>Bi d q).sum∧x.2≤1+100*x.1) (fun x=>p.l.length-x.1) (0,1) ⟨⟨rfl,rfl⟩,rfl,ax _,rfl,rfl,by simp⟩ ?_
    rintro⟨k,n⟩ ⟨hk,hb,hs2,hn⟩
    dsimp only at hk hb hs2 hn
    simp only[go_sem,ae]
    refine cndC.mk (fun h2=>?_) (fun h2=>?_)
    ·have hk':k<p.l.length:=by simpa using h2
     rw[Jp cs d p.l hk'] at hb
     rw[Jo d p.l hk'] at hs2
     simp only[go_sem,ae,AA _ hk',hk',hdw]
     try refine DrawK.mk ?_
     try simp only[go_sem,ae,AA _ hk',hk',hdw]
     first | refine CY (hx p.l[k] (aj hk')) ?_ | refine CW (hx p.l[k] (aj hk')) fun _=>?_
     rcases hv:H_ cs d p.l[k] with _ | _
     ·have e1:DD cs d p.l[k] = -1:=by simp[DD,hv]
      rw[hv,ag] at hb
      have e2:DD cs (d+1) p = -1:=by simp[DD,H_,← hb]
      have e3:decide ((-1:Int)<0)=true:=by decide
      rw[e2]
      simp only[go_sem,ae,e1,e3]
     ·have e1:DD cs d p.l[k]=(Bi d p.l[k]:Int):=by simp[DD,hv]
      have e4:=KN d _ hv
      have e5:4 ^ d≤4 ^ 3:=z_ (by omega) (by omega)
      have e3:decide ((Bi d p.l[k]:Int)<0)=false:=by simp
      rw[hv,ai] at hb
      have hw1:IntKind.i64.wrap ((n:Int)+(Bi d p.l[k]:Int))=((n+Bi d p.l[k]:Nat):Int):=by rw[wrap_i64 (by omega) (by omega)]; omega
      simp only[go_sem,ae,e1,e3,hw1,wrap_i64 (n:=(k:Int)+1) (by omega) (by omega)]
      exact⟨(k+1,n+Bi d p.l[k]),⟨rfl,rfl⟩,rfl,⟨by omega,hb,by simp only; omega,by simp only; omega⟩,by simp only; omega⟩
    ·have hk':k=p.l.length:=by simp at h2; omega
     subst hk'
     rw[aU] at hb hs2
     have e1:DD cs (d+1) p=n:=by
      have e2:H_ cs (d+1) p=true:=by rw[H_,hs,← hb]; rfl
      have e3:n=Bi (d+1) p:=by rw[Bi]; simpa using hs2
      rw[DD,bz e2,e3]
     rw[e1]
     simp only[go_sem]
   simp only[go_sem,ae,h1,hl4,hwl,hA,hB,k1,k2,Dc,Gs]
   refine DrawK.mk ?_
   simp only[go_sem,ae,h1,hl4,hwl,hA,hB,k1,k2]
   refine CallF.mk _ (AC p.col 0 _) ?_
   simp only[go_sem,ae,h1,hl4,hwl,k1,k2,c1]
   refine CallF.mk _ (AC p.op 1 6) ?_
   simp only[go_sem,ae,h1,hl4,hwl,k1,k2,c1,c4]
   refine CY (C9 p.v) ?_
   simp only[go_sem,ae,h1,hl4,hwl,k1,k2,c1,c2,c3,c4,hm,AA _ hml,hml,hl0]
   refine LoopU.mk 1 (A:=Nat×Nat) (fun x=>[(9,.c (.v (.int .i64 (x.2)))),(105,.c (.v (.int .i64 (x.1))))]) (fun _=>[⟨71,7,[SX m p],true,true⟩]) (fun x=>x.1≤p.l.length∧((p.l.drop x.1).all fun q=>H_ cs d q)=(p.l.all fun q=>H_ cs d q)∧x.2+((p.l.drop x.1).map fun q=>Bi d q).sum=1+(p.l.map fun q=>Bi d q).sum∧x.2≤1+100*x.1) (fun x=>p.l.length-x.1) (0,1) ⟨⟨rfl,rfl⟩,rfl,ax _,rfl,rfl,by simp⟩ ?_
   rintro⟨k,n⟩ ⟨hk,hb,hs2,hn⟩
   dsimp only at hk hb hs2 hn
   simp only[go_sem,ae]
   refine cndC.mk (fun h2=>?_) (fun h2=>?_)
   ·have hk':k<p.l.length:=by simpa using h2
    rw[Jp cs d p.l hk'] at hb
    rw[Jo d p.l hk'] at hs2
    simp only[go_sem,ae,AA _ hk',hk',hdw]
    try refine DrawK.mk ?_
    try simp only[go_sem,ae,AA _ hk',hk',hdw]
    first | refine CY (hx p.l[k] (aj hk')) ?_ | refine CW (hx p.l[k] (aj hk')) fun _=>?_
    rcases hv:H_ cs d p.l[k] with _ | _
    ·have e1:DD cs d p.l[k] = -1:=by simp[DD,hv]
     rw[hv,ag] at hb
     have e2:DD cs (d+1) p = -1:=by simp[DD,H_,← hb]
     have e3:decide ((-1:Int)<0)=true:=by decide
     rw[e2]
     simp only[go_sem,ae,e1,e3]
    ·have e1:DD cs d p.l[k]=(Bi d p.l[k]:Int):=by simp[DD,hv]
     have e4:=KN d _ hv
     have e5:4 ^ d≤4 ^ 3:=z_ (by omega) (by omega)
     have e3:decide ((Bi d p.l[k]:Int)<0)=false:=by simp
     rw[hv,ai] at hb
     have hw1:IntKind.i64.wrap ((n:Int)+(Bi d p.l[k]:Int))=((n+Bi d p.l[k]:Nat):Int):=by rw[wrap_i64 (by omega) (by omega)]; omega
     simp only[go_sem,ae,e1,e3,hw1,wrap_i64 (n:=(k:Int)+1) (by omega) (by omega)]
     exact⟨(k+1,n+Bi d p.l[k]),⟨rfl,rfl⟩,rfl,⟨by omega,hb,by simp only; omega,by simp only; omega⟩,by simp only; omega⟩
   ·have hk':k=p.l.length:=by simp at h2; omega
    subst hk'
    rw[aU] at hb hs2
    have e1:DD cs (d+1) p=n:=by
     have e2:H_ cs (d+1) p=true:=by rw[H_,hs,← hb]; rfl
     have e3:n=Bi (d+1) p:=by rw[Bi]; simpa using hs2
     rw[DD,bz e2,e3]
    rw[e1]
    simp only[go_sem]
  rcases k3:(p.kind==3) with _ | _
  rotate_left
  ·have hs1:(DJ p&&Ac p.l.length 1 4)=true:=by simpa [k1,k2,k3] using hs0
   rw[ak] at hs1
   obtain⟨hA,hB,hE⟩:=hbare hs1.1
   have hl0:=hs1.2
   have hl1:decide ((p.l.length:Int)≥1)=true:=by simp[Ac] at hl0 ⊢; omega
   simp only[go_sem,ae,h1,hl4,k1,k2,k3,hA,hB,hE,hl1,Dc,Gs]
   refine LoopU.mk 1 (A:=Nat×Nat) (fun x=>[(9,.c (.v (.int .i64 (x.2)))),(105,.c (.v (.int .i64 (x.1))))]) (fun _=>[⟨71,7,[SV p],true,true⟩]) (fun x=>x.1≤p.l.length∧((p.l.drop x.1).all fun q=>H_ cs d q)=(p.l.all fun q=>H_ cs d q)∧x.2+((p.l.drop x.1).map fun q=>Bi d q).sum=1+(p.l.map fun q=>Bi d q).sum∧x.2≤1+100*x.1) (fun x=>p.l.length-x.1) (0,1) ⟨⟨rfl,rfl⟩,rfl,ax _,rfl,rfl,by simp⟩ ?_
   rintro⟨k,n⟩ ⟨hk,hb,hs2,hn⟩
   dsimp only at hk hb hs2 hn
   simp only[go_sem,ae]
   refine cndC.mk (fun h2=>?_) (fun h2=>?_)
   ·have hk':k<p.l.length:=by simpa using h2
    rw[Jp cs d p.l hk'] at hb
    rw[Jo d p.l hk'] at hs2
    simp only[go_sem,ae,AA _ hk',hk',hdw]
    try refine DrawK.mk ?_
    try simp only[go_sem,ae,AA _ hk',hk',hdw]
    first | refine CY (hx p.l[k] (aj hk')) ?_ | refine CW (hx p.l[k] (aj hk')) fun _=>?_
    rcases hv:H_ cs d p.l[k] with _ | _
    ·have e1:DD cs d p.l[k] = -1:=by simp[DD,hv]
     rw[hv,ag] at hb
     have e2:DD cs (d+1) p = -1:=by simp[DD,H_,← hb]
     have e3:decide ((-1:Int)<0)=true:=by decide
     rw[e2]
     simp only[go_sem,ae,e1,e3]
    ·have e1:DD cs d p.l[k]=(Bi d p.l[k]:Int):=by simp[DD,hv]
     have e4:=KN d _ hv
     have e5:4 ^ d≤4 ^ 3:=z_ (by omega) (by omega)
     have e3:decide ((Bi d p.l[k]:Int)<0)=false:=by simp
     rw[hv,ai] at hb
     have hw1:IntKind.i64.wrap ((n:Int)+(Bi d p.l[k]:Int))=((n+Bi d p.l[k]:Nat):Int):=by rw[wrap_i64 (by omega) (by omega)]; omega
     simp only[go_sem,ae,e1,e3,hw1,wrap_i64 (n:=(k:Int)+1) (by omega) (by omega)]
     exact⟨(k+1,n+Bi d p.l[k]),⟨rfl,rfl⟩,rfl,⟨by omega,hb,by simp only; omega,by simp only; omega⟩,by simp only; omega⟩
   ·have hk':k=p.l.length:=by simp at h2; omega
    subst hk'
    rw[aU] at hb hs2
    have e1:DD cs (d+1) p=n:=by
     have e2:H_ cs (d+1) p=true:=by rw[H_,hs,← hb]; rfl
     have e3:n=Bi (d+1) p:=by rw[Bi]; simpa using hs2
     rw[DD,bz e2,e3]
    rw[e1]
    simp only[go_sem]
  rcases k4:(p.kind==4) with _ | _
  rotate_left
  ·have hs1:(DJ p&&Ac p.l.length 1 4)=true:=by simpa [k1,k2,k3,k4] using hs0
   rw[ak] at hs1
   obtain⟨hA,hB,hE⟩:=hbare hs1.1
   have hl0:=hs1.2
   have hl1:decide ((p.l.length:Int)≥1)=true:=by simp[Ac] at hl0 ⊢; omega
   simp only[go_sem,ae,h1,hl4,k1,k2,k3,k4,hA,hB,hE,hl1,Dc,Gs]
   refine LoopU.mk 1 (A:=Nat×Nat) (fun x=>[(9,.c (.v (.int .i64 (x.2)))),(105,.c (.v (.int .i64 (x.1))))]) (fun _=>[⟨71,7,[SV p],true,true⟩]) (fun x=>x.1≤p.l.length∧((p.l.drop x.1).all fun q=>H_ cs d q)=(p.l.all fun q=>H_ cs d q)∧x.2+((p.l.drop x.1).map fun q=>Bi d q).sum=1+(p.l.map fun q=>Bi d q).sum∧x.2≤1+100*x.1) (fun x=>p.l.length-x.1) (0,1) ⟨⟨rfl,rfl⟩,rfl,ax _,rfl,rfl,by simp⟩ ?_
   rintro⟨k,n⟩ ⟨hk,hb,hs2,hn⟩
   dsimp only at hk hb hs2 hn
   simp only[go_sem,ae]
   refine cndC.mk (fun h2=>?_) (fun h2=>?_)
   ·have hk':k<p.l.length:=by simpa using h2
    rw[Jp cs d p.l hk'] at hb
    rw[Jo d p.l hk'] at hs2
    simp only[go_sem,ae,AA _ hk',hk',hdw]
    try refine DrawK.mk ?_
    try simp only[go_sem,ae,AA _ hk',hk',hdw]
    first | refine CY (hx p.l[k] (aj hk')) ?_ | refine CW (hx p.l[k] (aj hk')) fun _=>?_
    rcases hv:H_ cs d p.l[k] with _ | _
    ·have e1:DD cs d p.l[k] = -1:=by simp[DD,hv]
     rw[hv,ag] at hb
     have e2:DD cs (d+1) p = -1:=by simp[DD,H_,← hb]
     have e3:decide ((-1:Int)<0)=true:=by decide
     rw[e2]
     simp only[go_sem,ae,e1,e3]
    ·have e1:DD cs d p.l[k]=(Bi d p.l[k]:Int):=by simp[DD,hv]
     have e4:=KN d _ hv
     have e5:4 ^ d≤4 ^ 3:=z_ (by omega) (by omega)
     have e3:decide ((Bi d p.l[k]:Int)<0)=false:=by simp
     rw[hv,ai] at hb
     have hw1:IntKind.i64.wrap ((n:Int)+(Bi d p.l[k]:Int))=((n+Bi d p.l[k]:Nat):Int):=by rw[wrap_i64 (by omega) (by omega)]; omega
     simp only[go_sem,ae,e1,e3,hw1,wrap_i64 (n:=(k:Int)+1) (by omega) (by omega)]
     exact⟨(k+1,n+Bi d p.l[k]),⟨rfl,rfl⟩,rfl,⟨by omega,hb,by simp only; omega,by simp only; omega⟩,by simp only; omega⟩
   ·have hk':k=p.l.length:=by simp at h2; omega
    subst hk'
    rw[aU] at hb hs2
    have e1:DD cs (d+1) p=n:=by
     have e2:H_ cs (d+1) p=true:=by rw[H_,hs,← hb]; rfl
     have e3:n=Bi (d+1) p:=by rw[Bi]; simpa using hs2
     rw[DD,bz e2,e3]
    rw[e1]
    simp only[go_sem]
  rcases k5:(p.kind==5) with _ | _
  rotate_left
  ·have hs1:(DJ p&&((p.l.length:Int)==1))=true:=by simpa [k1,k2,k3,k4,k5] using hs0
   rw[ak] at hs1
   obtain⟨hA,hB,hE⟩:=hbare hs1.1
   have hl0:=hs1.2
   simp only[go_sem,ae,h1,hl4,k1,k2,k3,k4,k5,hA,hB,hE,hl0,Dc,Gs]
   refine LoopU.mk 1 (A:=Nat×Nat) (fun x=>[(9,.c (.v (.int .i64 (x.2)))),(105,.c (.v (.int .i64 (x.1))))]) (fun _=>[⟨71,7,[SV p],true,true⟩]) (fun x=>x.1≤p.l.length∧((p.l.drop x.1).all fun q=>H_ cs d q)=(p.l.all fun q=>H_ cs d q)∧x.2+((p.l.drop x.1).map fun q=>Bi d q).sum=1+(p.l.map fun q=>Bi d q).sum∧x.2≤1+100*x.1) (fun x=>p.l.length-x.1) (0,1) ⟨⟨rfl,rfl⟩,rfl,ax _,rfl,rfl,by simp⟩ ?_
   rintro⟨k,n⟩ ⟨hk,hb,hs2,hn⟩
   dsimp only at hk hb hs2 hn
   simp only[go_sem,ae]
   refine cndC.mk (fun h2=>?_) (fun h2=>?_)
   ·have hk':k<p.l.length:=by simpa using h2
    rw[Jp cs d p.l hk'] at hb
    rw[Jo d p.l hk'] at hs2
    simp only[go_sem,ae,AA _ hk',hk',hdw]
    try refine DrawK.mk ?_
    try simp only[go_sem,ae,AA _ hk',hk',hdw]
    first | refine CY (hx p.l[k] (aj hk')) ?_ | refine CW (hx p.l[k] (aj hk')) fun _=>?_
    rcases hv:H_ cs d p.l[k] with _ | _
    ·have e1:DD cs d p.l[k] = -1:=by simp[DD,hv]
     rw[hv,ag] at hb
     have e2:DD cs (d+1) p = -1:=by simp[DD,H_,← hb]
     have e3:decide ((-1:Int)<0)=true:=by decide
     rw[e2]
     simp only[go_sem,ae,e1,e3]
    ·have e1:DD cs d p.l[k]=(Bi d p.l[k]:Int):=by simp[DD,hv]
     have e4:=KN d _ hv
     have e5:4 ^ d≤4 ^ 3:=z_ (by omega) (by omega)
     have e3:decide ((Bi d p.l[k]:Int)<0)=false:=by simp
     rw[hv,ai] at hb
     have hw1:IntKind.i64.wrap ((n:Int)+(Bi d p.l[k]:Int))=((n+Bi d p.l[k]:Nat):Int):=by rw[wrap_i64 (by omega) (by omega)]; omega
     simp only[go_sem,ae,e1,e3,hw1,wrap_i64 (n:=(k:Int)+1) (by omega) (by omega)]
     exact⟨(k+1,n+Bi d p.l[k]),⟨rfl,rfl⟩,rfl,⟨by omega,hb,by simp only; omega,by simp only; omega⟩,by simp only; omega⟩
   ·have hk':k=p.l.length:=by simp at h2; omega
    subst hk'
    rw[aU] at hb hs2
    have e1:DD cs (d+1) p=n:=by
     have e2:H_ cs (d+1) p=true:=by rw[H_,hs,← hb]; rfl
     have e3:n=Bi (d+1) p:=by rw[Bi]; simpa using hs2
     rw[DD,bz e2,e3]
    rw[e1]
    simp only[go_sem]
  simp[k1,k2,k3,k4,k5] at hs0
theorem VW (cs:List Int) (hc:cs.length≤1048576):∀ (d:Nat) (p:DPred),d≤4→Aq p→Ctr prog 239 [.c (.sl (cs.map intC)),.agg p.c,.c (.v (.int .i64 (d)))] [.val (.c (.v (.int .i64 (DD cs d p))))]
 | 0,p,_,_=>by
  refine CM call239 func239 ntmps239 results239 fun hw=>?_
  have e1:DD cs 0 p = -1:=by simp[DD,H_]
  have h1:decide (((0:Nat):Int)<1)=true:=by decide
  rw[e1]
  simp only[go_sem,ae,h1]
 | d+1,p,hd,hf=>by
  rw[BP] at hf
  exact xe cs hc d p hd hf.2.1 fun x hx=>VW cs hc d x (by omega) (hf.2.2 x hx)
end Go.Proofs.YtnfbaclikokapaaGreat
