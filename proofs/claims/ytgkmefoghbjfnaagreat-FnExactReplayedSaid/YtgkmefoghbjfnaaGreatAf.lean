/- A part. -/
import Derived.Test.YtgkmefoghbjfnaaGreatAe
set_option linter.unusedSimpArgs false
set_option linter.unusedVariables false
set_option maxHeartbeats 2000000
set_option maxRecDepth 10000
open Go.Proofs.Tryz
namespace Go.Proofs.YtgkmefoghbjfnaaGreat
open Go.Vm
def ND (p:DPred):List Cl:=[.v (.int .i64 p.kind),.v (.int .i64 p.col),.v (.int .i64 p.op),.v (.int .i64 p.v.ty),.v (.int .i64 p.v.n),.v (.string p.v.s),.sl (p.l.map DPred.c)]
@[go_sem] theorem pq (p:DPred):ND p = [.v (.int .i64 p.kind),.v (.int .i64 p.col),.v (.int .i64 p.op),.v (.int .i64 p.v.ty),.v (.int .i64 p.v.n),.v (.string p.v.s),.sl (p.l.map DPred.c)]:=rfl
def NE (c:Int) (p:DPred):List Cl:=[.v (.int .i64 p.kind),.v (.int .i64 c),.v (.int .i64 p.op),.v (.int .i64 p.v.ty),.v (.int .i64 p.v.n),.v (.string p.v.s),.sl (p.l.map DPred.c)]
@[go_sem] theorem oQ (c:Int) (p:DPred):NE c p = [.v (.int .i64 p.kind),.v (.int .i64 c),.v (.int .i64 p.op),.v (.int .i64 p.v.ty),.v (.int .i64 p.v.n),.v (.string p.v.s),.sl (p.l.map DPred.c)]:=rfl
def Be (cs:List Int) (d:Nat) (p:DPred):Int:=if Es cs d p=true then(BG d p:Int) else -1
theorem Y_ {cs:List Int} {d:Nat} {p:DPred} (h:Ci cs p=false):Be cs (d+1) p = -1:=by simp[Be,Es,h]
theorem Zx (cs:List Int) (hc:cs.length≤1048576) (d:Nat) (p:DPred) (hd:d+1≤4) (hlen:p.l.length≤1048576) (hx:∀ x∈p.l,Ctr prog 171 [.c (.sl (cs.map intC)),.agg x.c,.c (.v (.int .i64 (d)))] [.val (.c (.v (.int .i64 (Be cs d x))))]):Ctr prog 171 [.c (.sl (cs.map intC)),.agg p.c,.c (.v (.int .i64 ((d+1:Nat))))] [.val (.c (.v (.int .i64 (Be cs (d+1) p))))]:=by
 refine CM call171 func171 ntmps171 results171 fun hw=>?_
 have h1:decide (((d+1:Nat):Int)<1)=false:=by simp; omega
 have hdw:IntKind.i64.wrap (((d+1:Nat):Int)-1)=(d:Int):=by rw[wrap_i64 (by omega) (by omega)]; omega
 have hin:Ce p.col 0 ((cs.length:Int)-1)=true→∃ m:Nat,p.col=m∧m<cs.length:=by
  intro hh
  simp[Ce] at hh
  exact⟨p.col.toNat,by omega,by omega⟩
 have hwl:IntKind.i64.wrap ((cs.length:Int)-1)=(cs.length:Int)-1:=wrap_i64 (by omega) (by omega)
 rcases hl4:decide ((p.l.length:Int)>4) with _ | _
 rotate_left
 ·have hno:Ci cs p=false:=by
   rcases h:Ci cs p with _ | _
   ·rfl
   ·have:=TC h; simp at hl4; omega
  rw[Y_ hno]
  simp only[go_sem,ae,h1,hl4]
 rcases hs:Ci cs p with _ | _
 ·rw[Y_ hs]
  rcases k1:(p.kind==1) with _ | _
  rotate_left
  ·have hs1:(Bh p&&((p.l.length:Int)==0))=false:=by simpa [Ci,k1] using hs
   rcases hA:(p.col==0) with _ | _
   ·simp only[go_sem,ae,h1,hl4,hA,k1]
   rcases hB:(p.op==0) with _ | _
   ·simp only[go_sem,ae,h1,hl4,hA,hB,k1]
   rcases hE:((p.v.ty==0)&&((p.v.n==0)&&(p.v.s.toList==ByteArray.empty.toList))) with _ | _
   ·simp only[go_sem,ae,h1,hl4,hA,hB,hE,k1,DJ,FC]
   ·have hbt:Bh p=true:=by simp only[Bh,hA,hB,aU]; exact hE
    have hl0:((p.l.length:Int)==0)=false:=by rw[hbt,aU] at hs1; exact hs1
    simp only[go_sem,ae,h1,hl4,hA,hB,hE,k1,DJ,FC,hl0]
  rcases k2:(p.kind==2) with _ | _
  rotate_left
  ·have hs1:(Et cs p&&((p.l.length:Int)==0))=false:=by simpa [Ci,k1,k2] using hs
   rcases hA:(p.col==0) with _ | _
   ·simp only[go_sem,ae,h1,hl4,hwl,hA,k1,k2,DJ,FC]
    refine DrawK.mk ?_
    simp only[go_sem,ae,h1,hl4,hwl,hA,k1,k2]
    refine CallF.mk _ (Aj p.col 0 _) ?_
    rcases c1:Ce p.col 0 ((cs.length:Int)-1) with _ | _
    ·simp only[go_sem,ae,h1,hl4,hwl,k1,k2,c1]
    obtain⟨m,hm,hml⟩:=hin c1
    have hgm:(cs[p.col.toNat]?).getD 0=cs[m]:=by rw[hm]; simp[hml]
    simp only[go_sem,ae,h1,hl4,hwl,k1,k2,c1]
    refine CallF.mk _ (Aj p.op 1 6) ?_
    rcases c4:Ce p.op 1 6 with _ | _
    ·simp only[go_sem,ae,h1,hl4,hwl,k1,k2,c1,c4]
    simp only[go_sem,ae,h1,hl4,hwl,k1,k2,c1,c4]
    refine CY (EY p.v) ?_
    rcases c2:EX p.v with _ | _
    ·simp only[go_sem,ae,h1,hl4,hwl,k1,k2,c1,c2,c4]
    rcases c3:(p.v.ty==cs[m]) with _ | _
    ·simp only[go_sem,ae,h1,hl4,hwl,k1,k2,c1,c2,c3,c4,hm,AA _ hml,hml]
    have hl0:((p.l.length:Int)==0)=false:=by
     have:Et cs p=true:=by simp only[Et,hgm,c1,c2,c3,c4,aH]
     simpa [this] using hs1
    simp only[go_sem,ae,h1,hl4,hwl,k1,k2,c1,c2,c3,c4,hm,AA _ hml,hml,hl0]
   rcases hB:(p.op==0) with _ | _
   ·simp only[go_sem,ae,h1,hl4,hwl,hA,hB,k1,k2,DJ,FC]
    refine DrawK.mk ?_
    simp only[go_sem,ae,h1,hl4,hwl,hA,hB,k1,k2]
    refine CallF.mk _ (Aj p.col 0 _) ?_
    rcases c1:Ce p.col 0 ((cs.length:Int)-1) with _ | _
    ·simp only[go_sem,ae,h1,hl4,hwl,k1,k2,c1]
    obtain⟨m,hm,hml⟩:=hin c1
    have hgm:(cs[p.col.toNat]?).getD 0=cs[m]:=by rw[hm]; simp[hml]
    simp only[go_sem,ae,h1,hl4,hwl,k1,k2,c1]
    refine CallF.mk _ (Aj p.op 1 6) ?_
    rcases c4:Ce p.op 1 6 with _ | _
    ·simp only[go_sem,ae,h1,hl4,hwl,k1,k2,c1,c4]
    simp only[go_sem,ae,h1,hl4,hwl,k1,k2,c1,c4]
    refine CY (EY p.v) ?_
    rcases c2:EX p.v with _ | _
    ·simp only[go_sem,ae,h1,hl4,hwl,k1,k2,c1,c2,c4]
    rcases c3:(p.v.ty==cs[m]) with _ | _
    ·simp only[go_sem,ae,h1,hl4,hwl,k1,k2,c1,c2,c3,c4,hm,AA _ hml,hml]
    have hl0:((p.l.length:Int)==0)=false:=by
     have:Et cs p=true:=by simp only[Et,hgm,c1,c2,c3,c4,aH]
     simpa [this] using hs1
    simp only[go_sem,ae,h1,hl4,hwl,k1,k2,c1,c2,c3,c4,hm,AA _ hml,hml,hl0]
   simp only[go_sem,ae,h1,hl4,hwl,hA,hB,k1,k2,DJ,FC]
   refine DrawK.mk ?_
   simp only[go_sem,ae,h1,hl4,hwl,hA,hB,k1,k2]
   refine CallF.mk _ (Aj p.col 0 _) ?_
   rcases c1:Ce p.col 0 ((cs.length:Int)-1) with _ | _
   ·simp only[go_sem,ae,h1,hl4,hwl,k1,k2,c1]
   obtain⟨m,hm,hml⟩:=hin c1
   have hgm:(cs[p.col.toNat]?).getD 0=cs[m]:=by rw[hm]; simp[hml]
   simp only[go_sem,ae,h1,hl4,hwl,k1,k2,c1]
   refine CallF.mk _ (Aj p.op 1 6) ?_
   rcases c4:Ce p.op 1 6 with _ | _
   ·simp only[go_sem,ae,h1,hl4,hwl,k1,k2,c1,c4]
   simp only[go_sem,ae,h1,hl4,hwl,k1,k2,c1,c4]
   refine CY (EY p.v) ?_
   rcases c2:EX p.v with _ | _
   ·simp only[go_sem,ae,h1,hl4,hwl,k1,k2,c1,c2,c4]
   rcases c3:(p.v.ty==cs[m]) with _ | _
   ·simp only[go_sem,ae,h1,hl4,hwl,k1,k2,c1,c2,c3,c4,hm,AA _ hml,hml]
   have hl0:((p.l.length:Int)==0)=false:=by
    have:Et cs p=true:=by simp only[Et,hgm,c1,c2,c3,c4,aH]
    simpa [this] using hs1
   simp only[go_sem,ae,h1,hl4,hwl,k1,k2,c1,c2,c3,c4,hm,AA _ hml,hml,hl0]
  rcases k3:(p.kind==3) with _ | _
  rotate_left
  ·have hs1:(Bh p&&Ce p.l.length 1 4)=false:=by simpa [Ci,k1,k2,k3] using hs
   rcases hA:(p.col==0) with _ | _
   ·simp only[go_sem,ae,h1,hl4,hA,k1,k2,k3]
   rcases hB:(p.op==0) with _ | _
   ·simp only[go_sem,ae,h1,hl4,hA,hB,k1,k2,k3]
   rcases hE:((p.v.ty==0)&&((p.v.n==0)&&(p.v.s.toList==ByteArray.empty.toList))) with _ | _
   ·simp only[go_sem,ae,h1,hl4,hA,hB,hE,k1,k2,k3,DJ,FC]
   ·have hbt:Bh p=true:=by simp only[Bh,hA,hB,aU]; exact hE
    have hl0:Ce p.l.length 1 4=false:=by rw[hbt,aU] at hs1; exact hs1
    have hl1:decide ((p.l.length:Int)≥1)=false:=by simp[Ce] at hl0 hl4 ⊢; omega
    simp only[go_sem,ae,h1,hl4,hA,hB,hE,k1,k2,k3,DJ,FC,hl1]
  rcases k4:(p.kind==4) with _ | _
  rotate_left
  ·have hs1:(Bh p&&Ce p.l.length 1 4)=false:=by simpa [Ci,k1,k2,k3,k4] using hs
   rcases hA:(p.col==0) with _ | _
   ·simp only[go_sem,ae,h1,hl4,hA,k1,k2,k3,k4]
   rcases hB:(p.op==0) with _ | _
   ·simp only[go_sem,ae,h1,hl4,hA,hB,k1,k2,k3,k4]
   rcases hE:((p.v.ty==0)&&((p.v.n==0)&&(p.v.s.toList==ByteArray.empty.toList))) with _ | _
   ·simp only[go_sem,ae,h1,hl4,hA,hB,hE,k1,k2,k3,k4,DJ,FC]
   ·have hbt:Bh p=true:=by simp only[Bh,hA,hB,aU]; exact hE
    have hl0:Ce p.l.length 1 4=false:=by rw[hbt,aU] at hs1; exact hs1
    have hl1:decide ((p.l.length:Int)≥1)=false:=by simp[Ce] at hl0 hl4 ⊢; omega
    simp only[go_sem,ae,h1,hl4,hA,hB,hE,k1,k2,k3,k4,DJ,FC,hl1]
  rcases k5:(p.kind==5) with _ | _
  rotate_left
  ·have hs1:(Bh p&&((p.l.length:Int)==1))=false:=by simpa [Ci,k1,k2,k3,k4,k5] using hs
   rcases hA:(p.col==0) with _ | _
   ·simp only[go_sem,ae,h1,hl4,hA,k1,k2,k3,k4,k5]
   rcases hB:(p.op==0) with _ | _
   ·simp only[go_sem,ae,h1,hl4,hA,hB,k1,k2,k3,k4,k5]
   rcases hE:((p.v.ty==0)&&((p.v.n==0)&&(p.v.s.toList==ByteArray.empty.toList))) with _ | _
   ·simp only[go_sem,ae,h1,hl4,hA,hB,hE,k1,k2,k3,k4,k5,DJ,FC]
   ·have hbt:Bh p=true:=by simp only[Bh,hA,hB,aU]; exact hE
    have hl0:((p.l.length:Int)==1)=false:=by rw[hbt,aU] at hs1; exact hs1
    simp only[go_sem,ae,h1,hl4,hA,hB,hE,k1,k2,k3,k4,k5,DJ,FC,hl0]
  rcases hA:(p.col==0) with _ | _
  ·simp only[go_sem,ae,h1,hl4,hA,k1,k2,k3,k4,k5]
  rcases hB:(p.op==0) with _ | _
  ·simp only[go_sem,ae,h1,hl4,hA,hB,k1,k2,k3,k4,k5]
  simp only[go_sem,ae,h1,hl4,hA,hB,k1,k2,k3,k4,k5,DJ,FC]
 ·have hbare:Bh p=true→(p.col==0)=true∧(p.op==0)=true∧((p.v.ty==0)&&((p.v.n==0)&&(p.v.s.toList==ByteArray.empty.toList)))=true:=by
   intro hh
   simp only[Bh,aI] at hh
   simp only[aI]
   exact hh
  have hs0:=hs
  unfold Ci at hs0
  rcases k1:(p.kind==1) with _ | _
  rotate_left
  ·have hs1:(Bh p&&((p.l.length:Int)==0))=true:=by simpa [k1] using hs0
   rw[aI] at hs1
   obtain⟨hA,hB,hE⟩:=hbare hs1.1
   have hl0:=hs1.2
   simp only[go_sem,ae,h1,hl4,k1,hA,hB,hE,hl0,DJ,FC]
   refine LoopU.mk 1 (A:=Nat×Nat) (fun x=>[(9,.c (.v (.int .i64 (x.2)))),(105,.c (.v (.int .i64 (x.1))))]) (fun _=>[⟨78,7,[ND p],true,true⟩]) (fun x=>x.1≤p.l.length∧((p.l.drop x.1).all fun q=>Es cs d q)=(p.l.all fun q=>Es cs d q)∧x.2+((p.l.drop x.1).map fun q=>BG d q).sum=1+(p.l.map fun q=>BG d q).sum∧x.2≤1+100*x.1) (fun x=>p.l.length-x.1) (0,1) ⟨⟨rfl,rfl⟩,rfl,aJ _,rfl,rfl,by simp⟩ ?_
   rintro⟨k,n⟩ ⟨hk,hb,hs2,hn⟩
   dsimp only at hk hb hs2 hn
   simp only[go_sem,ae]
   refine cndC.mk (fun h2=>?_) (fun h2=>?_)
   ·have hk':k<p.l.length:=by simpa using h2
    rw[GU cs d p.l hk'] at hb
    rw[GR d p.l hk'] at hs2
    simp only[go_sem,ae,AA _ hk',hk',hdw]
    try refine DrawK.mk ?_
    try simp only[go_sem,ae,AA _ hk',hk',hdw]
    first | refine CY (hx p.l[k] (au hk')) ?_ | refine CW (hx p.l[k] (au hk')) fun _=>?_
    rcases hv:Es cs d p.l[k] with _ | _
    ·have e1:Be cs d p.l[k] = -1:=by simp[Be,hv]
     rw[hv,aC] at hb
     have e2:Be cs (d+1) p = -1:=by simp[Be,Es,← hb]
     have e3:decide ((-1:Int)<0)=true:=by decide
     rw[e2]
     simp only[go_sem,ae,e1,e3]
    ·have e1:Be cs d p.l[k]=(BG d p.l[k]:Int):=by simp[Be,hv]
     have e4:=G6 d _ hv
     have e5:4 ^ d≤4 ^ 3:=mY (by omega) (by omega)
     have e3:decide ((BG d p.l[k]:Int)<0)=false:=by simp
     rw[hv,aU] at hb
     have hw1:IntKind.i64.wrap ((n:Int)+(BG d p.l[k]:Int))=((n+BG d p.l[k]:Nat):Int):=by rw[wrap_i64 (by omega) (by omega)]; omega
     simp only[go_sem,ae,e1,e3,hw1,wrap_i64 (n:=(k:Int)+1) (by omega) (by omega)]
     exact⟨(k+1,n+BG d p.l[k]),⟨rfl,rfl⟩,rfl,⟨by omega,hb,by simp only; omega,by simp only; omega⟩,by simp only; omega⟩
   ·have hk':k=p.l.length:=by simp at h2; omega
    subst hk'
    rw[aP] at hb hs2
    have e1:Be cs (d+1) p=n:=by
     have e2:Es cs (d+1) p=true:=by rw[Es,hs,← hb]; rfl
     have e3:n=BG (d+1) p:=by rw[BG]; simpa using hs2
     rw[Be,ED e2,e3]
    rw[e1]
    simp only[go_sem]
  rcases k2:(p.kind==2) with _ | _
  rotate_left
  ·have hs1:(Et cs p&&((p.l.length:Int)==0))=true:=by simpa [k1,k2] using hs0
   rw[aI] at hs1
   have hl0:=hs1.2
   have hs2:=hs1.1
   simp only[Et,aI] at hs2
   obtain⟨c1,c4,c2,c3⟩:=hs2
   obtain⟨m,hm,hml⟩:=hin c1
   have hgm:(cs[p.col.toNat]?).getD 0=cs[m]:=by rw[hm]; simp[hml]
   rw[hgm] at c3
   have c1':=c1
   rw[hm] at c1'
   have fin:∀ P:Prop,P→P:=fun _ h=>h
   rcases hA:(p.col==0) with _ | _
   ·simp only[go_sem,ae,h1,hl4,hwl,hA,k1,k2,DJ,FC]
    refine DrawK.mk ?_
    simp only[go_sem,ae,h1,hl4,hwl,hA,k1,k2]
    refine CallF.mk _ (Aj p.col 0 _) ?_
    simp only[go_sem,ae,h1,hl4,hwl,k1,k2,c1]
    refine CallF.mk _ (Aj p.op 1 6) ?_
    simp only[go_sem,ae,h1,hl4,hwl,k1,k2,c1,c4]
    refine CY (EY p.v) ?_
    simp only[go_sem,ae,h1,hl4,hwl,k1,k2,c1,c2,c3,c4,hm,AA _ hml,hml,hl0]
    refine LoopU.mk 1 (A:=Nat×Nat) (fun x=>[(9,.c (.v (.int .i64 (x.2)))),(105,.c (.v (.int .i64 (x.1))))]) (fun _=>[⟨78,7,[NE m p],true,true⟩]) (fun x=>x.1≤p.l.length∧((p.l.drop x.1).all fun q=>Es cs d q)=(p.l.all fun q=>Es cs d q)∧x.2+((p.l.drop x.1).map fun q=>BG d q).sum=1+(p.l.map fun q=>BG d q).sum∧x.2≤1+100*x.1) (fun x=>p.l.length-x.1) (0,1) ⟨⟨rfl,rfl⟩,rfl,aJ _,rfl,rfl,by simp⟩ ?_
    rintro⟨k,n⟩ ⟨hk,hb,hs2,hn⟩
    dsimp only at hk hb hs2 hn
    simp only[go_sem,ae]
    refine cndC.mk (fun h2=>?_) (fun h2=>?_)
    ·have hk':k<p.l.length:=by simpa using h2
     rw[GU cs d p.l hk'] at hb
     rw[GR d p.l hk'] at hs2
     simp only[go_sem,ae,AA _ hk',hk',hdw]
     try refine DrawK.mk ?_
     try simp only[go_sem,ae,AA _ hk',hk',hdw]
     first | refine CY (hx p.l[k] (au hk')) ?_ | refine CW (hx p.l[k] (au hk')) fun _=>?_
     rcases hv:Es cs d p.l[k] with _ | _
     ·have e1:Be cs d p.l[k] = -1:=by simp[Be,hv]
      rw[hv,aC] at hb
      have e2:Be cs (d+1) p = -1:=by simp[Be,Es,← hb]
      have e3:decide ((-1:Int)<0)=true:=by decide
      rw[e2]
      simp only[go_sem,ae,e1,e3]
     ·have e1:Be cs d p.l[k]=(BG d p.l[k]:Int):=by simp[Be,hv]
      have e4:=G6 d _ hv
      have e5:4 ^ d≤4 ^ 3:=mY (by omega) (by omega)
      have e3:decide ((BG d p.l[k]:Int)<0)=false:=by simp
      rw[hv,aU] at hb
      have hw1:IntKind.i64.wrap ((n:Int)+(BG d p.l[k]:Int))=((n+BG d p.l[k]:Nat):Int):=by rw[wrap_i64 (by omega) (by omega)]; omega
      simp only[go_sem,ae,e1,e3,hw1,wrap_i64 (n:=(k:Int)+1) (by omega) (by omega)]
      exact⟨(k+1,n+BG d p.l[k]),⟨rfl,rfl⟩,rfl,⟨by omega,hb,by simp only; omega,by simp only; omega⟩,by simp only; omega⟩
    ·have hk':k=p.l.length:=by simp at h2; omega
     subst hk'
     rw[aP] at hb hs2
     have e1:Be cs (d+1) p=n:=by
      have e2:Es cs (d+1) p=true:=by rw[Es,hs,← hb]; rfl
      have e3:n=BG (d+1) p:=by rw[BG]; simpa using hs2
      rw[Be,ED e2,e3]
     rw[e1]
     simp only[go_sem]
   rcases hB:(p.op==0) with _ | _
   ·simp only[go_sem,ae,h1,hl4,hwl,hA,hB,k1,k2,DJ,FC]
    refine DrawK.mk ?_
    simp only[go_sem,ae,h1,hl4,hwl,hA,hB,k1,k2]
    refine CallF.mk _ (Aj p.col 0 _) ?_
    simp only[go_sem,ae,h1,hl4,hwl,k1,k2,c1]
    refine CallF.mk _ (Aj p.op 1 6) ?_
    simp only[go_sem,ae,h1,hl4,hwl,k1,k2,c1,c4]
    refine CY (EY p.v) ?_
    simp only[go_sem,ae,h1,hl4,hwl,k1,k2,c1,c2,c3,c4,hm,AA _ hml,hml,hl0]
    refine LoopU.mk 1 (A:=Nat×Nat) (fun x=>[(9,.c (.v (.int .i64 (x.2)))),(105,.c (.v (.int .i64 (x.1))))]) (fun _=>[⟨78,7,[NE m p],true,true⟩]) (fun x=>x.1≤p.l.length∧((p.l.drop x.1).all fun q=>Es cs d q)=(p.l.all fun q=>Es cs d q)∧x.2+((p.l.drop x.1).map fun q=>BG d q).sum=1+(p.l.map fun q=>BG d q).sum∧x.2≤1+100*x.1) (fun x=>p.l.length-x.1) (0,1) ⟨⟨rfl,rfl⟩,rfl,aJ _,rfl,rfl,by simp⟩ ?_
    rintro⟨k,n⟩ ⟨hk,hb,hs2,hn⟩
    dsimp only at hk hb hs2 hn
    simp only[go_sem,ae]
    refine cndC.mk (fun h2=>?_) (fun h2=>?_)
    ·have hk':k<p.l.length:=by simpa using h2
     rw[GU cs d p.l hk'] at hb
     rw[GR d p.l hk'] at hs2
     simp only[go_sem,ae,AA _ hk',hk',hdw]
     try refine DrawK.mk ?_
     try simp only[go_sem,ae,AA _ hk',hk',hdw]
     first | refine CY (hx p.l[k] (au hk')) ?_ | refine CW (hx p.l[k] (au hk')) fun _=>?_
     rcases hv:Es cs d p.l[k] with _ | _
     ·have e1:Be cs d p.l[k] = -1:=by simp[Be,hv]
      rw[hv,aC] at hb
      have e2:Be cs (d+1) p = -1:=by simp[Be,Es,← hb]
      have e3:decide ((-1:Int)<0)=true:=by decide
      rw[e2]
      simp only[go_sem,ae,e1,e3]
     ·have e1:Be cs d p.l[k]=(BG d p.l[k]:Int):=by simp[Be,hv]
      have e4:=G6 d _ hv
      have e5:4 ^ d≤4 ^ 3:=mY (by omega) (by omega)
      have e3:decide ((BG d p.l[k]:Int)<0)=false:=by simp
      rw[hv,aU] at hb
      have hw1:IntKind.i64.wrap ((n:Int)+(BG d p.l[k]:Int))=((n+BG d p.l[k]:Nat):Int):=by rw[wrap_i64 (by omega) (by omega)]; omega
      simp only[go_sem,ae,e1,e3,hw1,wrap_i64 (n:=(k:Int)+1) (by omega) (by omega)]
      exact⟨(k+1,n+BG d p.l[k]),⟨rfl,rfl⟩,rfl,⟨by omega,hb,by simp only; omega,by simp only; omega⟩,by simp only; omega⟩
    ·have hk':k=p.l.length:=by simp at h2; omega
     subst hk'
     rw[aP] at hb hs2
     have e1:Be cs (d+1) p=n:=by
      have e2:Es cs (d+1) p=true:=by rw[Es,hs,← hb]; rfl
      have e3:n=BG (d+1) p:=by rw[BG]; simpa using hs2
      rw[Be,ED e2,e3]
     rw[e1]
     simp only[go_sem]
   simp only[go_sem,ae,h1,hl4,hwl,hA,hB,k1,k2,DJ,FC]
   refine DrawK.mk ?_
   simp only[go_sem,ae,h1,hl4,hwl,hA,hB,k1,k2]
   refine CallF.mk _ (Aj p.col 0 _) ?_
   simp only[go_sem,ae,h1,hl4,hwl,k1,k2,c1]
   refine CallF.mk _ (Aj p.op 1 6) ?_
   simp only[go_sem,ae,h1,hl4,hwl,k1,k2,c1,c4]
   refine CY (EY p.v) ?_
   simp only[go_sem,ae,h1,hl4,hwl,k1,k2,c1,c2,c3,c4,hm,AA _ hml,hml,hl0]
   refine LoopU.mk 1 (A:=Nat×Nat) (fun x=>[(9,.c (.v (.int .i64 (x.2)))),(105,.c (.v (.int .i64 (x.1))))]) (fun _=>[⟨78,7,[NE m p],true,true⟩]) (fun x=>x.1≤p.l.length∧((p.l.drop x.1).all fun q=>Es cs d q)=(p.l.all fun q=>Es cs d q)∧x.2+((p.l.drop x.1).map fun q=>BG d q).sum=1+(p.l.map fun q=>BG d q).sum∧x.2≤1+100*x.1) (fun x=>p.l.length-x.1) (0,1) ⟨⟨rfl,rfl⟩,rfl,aJ _,rfl,rfl,by simp⟩ ?_
   rintro⟨k,n⟩ ⟨hk,hb,hs2,hn⟩
   dsimp only at hk hb hs2 hn
   simp only[go_sem,ae]
   refine cndC.mk (fun h2=>?_) (fun h2=>?_)
   ·have hk':k<p.l.length:=by simpa using h2
    rw[GU cs d p.l hk'] at hb
    rw[GR d p.l hk'] at hs2
    simp only[go_sem,ae,AA _ hk',hk',hdw]
    try refine DrawK.mk ?_
    try simp only[go_sem,ae,AA _ hk',hk',hdw]
    first | refine CY (hx p.l[k] (au hk')) ?_ | refine CW (hx p.l[k] (au hk')) fun _=>?_
    rcases hv:Es cs d p.l[k] with _ | _
    ·have e1:Be cs d p.l[k] = -1:=by simp[Be,hv]
     rw[hv,aC] at hb
     have e2:Be cs (d+1) p = -1:=by simp[Be,Es,← hb]
     have e3:decide ((-1:Int)<0)=true:=by decide
     rw[e2]
     simp only[go_sem,ae,e1,e3]
    ·have e1:Be cs d p.l[k]=(BG d p.l[k]:Int):=by simp[Be,hv]
     have e4:=G6 d _ hv
     have e5:4 ^ d≤4 ^ 3:=mY (by omega) (by omega)
     have e3:decide ((BG d p.l[k]:Int)<0)=false:=by simp
     rw[hv,aU] at hb
     have hw1:IntKind.i64.wrap ((n:Int)+(BG d p.l[k]:Int))=((n+BG d p.l[k]:Nat):Int):=by rw[wrap_i64 (by omega) (by omega)]; omega
     simp only[go_sem,ae,e1,e3,hw1,wrap_i64 (n:=(k:Int)+1) (by omega) (by omega)]
     exact⟨(k+1,n+BG d p.l[k]),⟨rfl,rfl⟩,rfl,⟨by omega,hb,by simp only; omega,by simp only; omega⟩,by simp only; omega⟩
   ·have hk':k=p.l.length:=by simp at h2; omega
    subst hk'
    rw[aP] at hb hs2
    have e1:Be cs (d+1) p=n:=by
     have e2:Es cs (d+1) p=true:=by rw[Es,hs,← hb]; rfl
     have e3:n=BG (d+1) p:=by rw[BG]; simpa using hs2
     rw[Be,ED e2,e3]
    rw[e1]
    simp only[go_sem]
  rcases k3:(p.kind==3) with _ | _
  rotate_left
  ·have hs1:(Bh p&&Ce p.l.length 1 4)=true:=by simpa [k1,k2,k3] using hs0
   rw[aI] at hs1
   obtain⟨hA,hB,hE⟩:=hbare hs1.1
   have hl0:=hs1.2
   have hl1:decide ((p.l.length:Int)≥1)=true:=by simp[Ce] at hl0 ⊢; omega
   simp only[go_sem,ae,h1,hl4,k1,k2,k3,hA,hB,hE,hl1,DJ,FC]
   refine LoopU.mk 1 (A:=Nat×Nat) (fun x=>[(9,.c (.v (.int .i64 (x.2)))),(105,.c (.v (.int .i64 (x.1))))]) (fun _=>[⟨78,7,[ND p],true,true⟩]) (fun x=>x.1≤p.l.length∧((p.l.drop x.1).all fun q=>Es cs d q)=(p.l.all fun q=>Es cs d q)∧x.2+((p.l.drop x.1).map fun q=>BG d q).sum=1+(p.l.map fun q=>BG d q).sum∧x.2≤1+100*x.1) (fun x=>p.l.length-x.1) (0,1) ⟨⟨rfl,rfl⟩,rfl,aJ _,rfl,rfl,by simp⟩ ?_
   rintro⟨k,n⟩ ⟨hk,hb,hs2,hn⟩
   dsimp only at hk hb hs2 hn
   simp only[go_sem,ae]
   refine cndC.mk (fun h2=>?_) (fun h2=>?_)
   ·have hk':k<p.l.length:=by simpa using h2
    rw[GU cs d p.l hk'] at hb
    rw[GR d p.l hk'] at hs2
    simp only[go_sem,ae,AA _ hk',hk',hdw]
    try refine DrawK.mk ?_
    try simp only[go_sem,ae,AA _ hk',hk',hdw]
    first | refine CY (hx p.l[k] (au hk')) ?_ | refine CW (hx p.l[k] (au hk')) fun _=>?_
    rcases hv:Es cs d p.l[k] with _ | _
    ·have e1:Be cs d p.l[k] = -1:=by simp[Be,hv]
     rw[hv,aC] at hb
     have e2:Be cs (d+1) p = -1:=by simp[Be,Es,← hb]
     have e3:decide ((-1:Int)<0)=true:=by decide
     rw[e2]
     simp only[go_sem,ae,e1,e3]
    ·have e1:Be cs d p.l[k]=(BG d p.l[k]:Int):=by simp[Be,hv]
     have e4:=G6 d _ hv
     have e5:4 ^ d≤4 ^ 3:=mY (by omega) (by omega)
     have e3:decide ((BG d p.l[k]:Int)<0)=false:=by simp
     rw[hv,aU] at hb
     have hw1:IntKind.i64.wrap ((n:Int)+(BG d p.l[k]:Int))=((n+BG d p.l[k]:Nat):Int):=by rw[wrap_i64 (by omega) (by omega)]; omega
     simp only[go_sem,ae,e1,e3,hw1,wrap_i64 (n:=(k:Int)+1) (by omega) (by omega)]
     exact⟨(k+1,n+BG d p.l[k]),⟨rfl,rfl⟩,rfl,⟨by omega,hb,by simp only; omega,by simp only; omega⟩,by simp only; omega⟩
   ·have hk':k=p.l.length:=by simp at h2; omega
    subst hk'
    rw[aP] at hb hs2
    have e1:Be cs (d+1) p=n:=by
     have e2:Es cs (d+1) p=true:=by rw[Es,hs,← hb]; rfl
     have e3:n=BG (d+1) p:=by rw[BG]; simpa using hs2
     rw[Be,ED e2,e3]
    rw[e1]
    simp only[go_sem]
  rcases k4:(p.kind==4) with _ | _
  rotate_left
  ·have hs1:(Bh p&&Ce p.l.length 1 4)=true:=by simpa [k1,k2,k3,k4] using hs0
   rw[aI] at hs1
   obtain⟨hA,hB,hE⟩:=hbare hs1.1
   have hl0:=hs1.2
   have hl1:decide ((p.l.length:Int)≥1)=true:=by simp[Ce] at hl0 ⊢; omega
   simp only[go_sem,ae,h1,hl4,k1,k2,k3,k4,hA,hB,hE,hl1,DJ,FC]
   refine LoopU.mk 1 (A:=Nat×Nat) (fun x=>[(9,.c (.v (.int .i64 (x.2)))),(105,.c (.v (.int .i64 (x.1))))]) (fun _=>[⟨78,7,[ND p],true,true⟩]) (fun x=>x.1≤p.l.length∧((p.l.drop x.1).all fun q=>Es cs d q)=(p.l.all fun q=>Es cs d q)∧x.2+((p.l.drop x.1).map fun q=>BG d q).sum=1+(p.l.map fun q=>BG d q).sum∧x.2≤1+100*x.1) (fun x=>p.l.length-x.1) (0,1) ⟨⟨rfl,rfl⟩,rfl,aJ _,rfl,rfl,by simp⟩ ?_
   rintro⟨k,n⟩ ⟨hk,hb,hs2,hn⟩
   dsimp only at hk hb hs2 hn
   simp only[go_sem,ae]
   refine cndC.mk (fun h2=>?_) (fun h2=>?_)
   ·have hk':k<p.l.length:=by simpa using h2
    rw[GU cs d p.l hk'] at hb
    rw[GR d p.l hk'] at hs2
    simp only[go_sem,ae,AA _ hk',hk',hdw]
    try refine DrawK.mk ?_
    try simp only[go_sem,ae,AA _ hk',hk',hdw]
    first | refine CY (hx p.l[k] (au hk')) ?_ | refine CW (hx p.l[k] (au hk')) fun _=>?_
    rcases hv:Es cs d p.l[k] with _ | _
    ·have e1:Be cs d p.l[k] = -1:=by simp[Be,hv]
     rw[hv,aC] at hb
     have e2:Be cs (d+1) p = -1:=by simp[Be,Es,← hb]
     have e3:decide ((-1:Int)<0)=true:=by decide
     rw[e2]
     simp only[go_sem,ae,e1,e3]
    ·have e1:Be cs d p.l[k]=(BG d p.l[k]:Int):=by simp[Be,hv]
     have e4:=G6 d _ hv
     have e5:4 ^ d≤4 ^ 3:=mY (by omega) (by omega)
     have e3:decide ((BG d p.l[k]:Int)<0)=false:=by simp
     rw[hv,aU] at hb
     have hw1:IntKind.i64.wrap ((n:Int)+(BG d p.l[k]:Int))=((n+BG d p.l[k]:Nat):Int):=by rw[wrap_i64 (by omega) (by omega)]; omega
     simp only[go_sem,ae,e1,e3,hw1,wrap_i64 (n:=(k:Int)+1) (by omega) (by omega)]
     exact⟨(k+1,n+BG d p.l[k]),⟨rfl,rfl⟩,rfl,⟨by omega,hb,by simp only; omega,by simp only; omega⟩,by simp only; omega⟩
   ·have hk':k=p.l.length:=by simp at h2; omega
    subst hk'
    rw[aP] at hb hs2
    have e1:Be cs (d+1) p=n:=by
     have e2:Es cs (d+1) p=true:=by rw[Es,hs,← hb]; rfl
     have e3:n=BG (d+1) p:=by rw[BG]; simpa using hs2
     rw[Be,ED e2,e3]
    rw[e1]
    simp only[go_sem]
  rcases k5:(p.kind==5) with _ | _
  rotate_left
  ·have hs1:(Bh p&&((p.l.length:Int)==1))=true:=by simpa [k1,k2,k3,k4,k5] using hs0
   rw[aI] at hs1
   obtain⟨hA,hB,hE⟩:=hbare hs1.1
   have hl0:=hs1.2
   simp only[go_sem,ae,h1,hl4,k1,k2,k3,k4,k5,hA,hB,hE,hl0,DJ,FC]
   refine LoopU.mk 1 (A:=Nat×Nat) (fun x=>[(9,.c (.v (.int .i64 (x.2)))),(105,.c (.v (.int .i64 (x.1))))]) (fun _=>[⟨78,7,[ND p],true,true⟩]) (fun x=>x.1≤p.l.length∧((p.l.drop x.1).all fun q=>Es cs d q)=(p.l.all fun q=>Es cs d q)∧x.2+((p.l.drop x.1).map fun q=>BG d q).sum=1+(p.l.map fun q=>BG d q).sum∧x.2≤1+100*x.1) (fun x=>p.l.length-x.1) (0,1) ⟨⟨rfl,rfl⟩,rfl,aJ _,rfl,rfl,by simp⟩ ?_
   rintro⟨k,n⟩ ⟨hk,hb,hs2,hn⟩
   dsimp only at hk hb hs2 hn
   simp only[go_sem,ae]
   refine cndC.mk (fun h2=>?_) (fun h2=>?_)
   ·have hk':k<p.l.length:=by simpa using h2
    rw[GU cs d p.l hk'] at hb
    rw[GR d p.l hk'] at hs2
    simp only[go_sem,ae,AA _ hk',hk',hdw]
    try refine DrawK.mk ?_
    try simp only[go_sem,ae,AA _ hk',hk',hdw]
    first | refine CY (hx p.l[k] (au hk')) ?_ | refine CW (hx p.l[k] (au hk')) fun _=>?_
    rcases hv:Es cs d p.l[k] with _ | _
    ·have e1:Be cs d p.l[k] = -1:=by simp[Be,hv]
     rw[hv,aC] at hb
     have e2:Be cs (d+1) p = -1:=by simp[Be,Es,← hb]
     have e3:decide ((-1:Int)<0)=true:=by decide
     rw[e2]
     simp only[go_sem,ae,e1,e3]
    ·have e1:Be cs d p.l[k]=(BG d p.l[k]:Int):=by simp[Be,hv]
     have e4:=G6 d _ hv
     have e5:4 ^ d≤4 ^ 3:=mY (by omega) (by omega)
     have e3:decide ((BG d p.l[k]:Int)<0)=false:=by simp
     rw[hv,aU] at hb
     have hw1:IntKind.i64.wrap ((n:Int)+(BG d p.l[k]:Int))=((n+BG d p.l[k]:Nat):Int):=by rw[wrap_i64 (by omega) (by omega)]; omega
     simp only[go_sem,ae,e1,e3,hw1,wrap_i64 (n:=(k:Int)+1) (by omega) (by omega)]
     exact⟨(k+1,n+BG d p.l[k]),⟨rfl,rfl⟩,rfl,⟨by omega,hb,by simp only; omega,by simp only; omega⟩,by simp only; omega⟩
   ·have hk':k=p.l.length:=by simp at h2; omega
    subst hk'
    rw[aP] at hb hs2
    have e1:Be cs (d+1) p=n:=by
     have e2:Es cs (d+1) p=true:=by rw[Es,hs,← hb]; rfl
     have e3:n=BG (d+1) p:=by rw[BG]; simpa using hs2
     rw[Be,ED e2,e3]
    rw[e1]
    simp only[go_sem]
  simp[k1,k2,k3,k4,k5] at hs0
theorem PP (cs:List Int) (hc:cs.length≤1048576):∀ (d:Nat) (p:DPred),d≤4→BF p→Ctr prog 171 [.c (.sl (cs.map intC)),.agg p.c,.c (.v (.int .i64 (d)))] [.val (.c (.v (.int .i64 (Be cs d p))))]
 | 0,p,_,_=>by
  refine CM call171 func171 ntmps171 results171 fun hw=>?_
  have e1:Be cs 0 p = -1:=by simp[Be,Es]
  have h1:decide (((0:Nat):Int)<1)=true:=by decide
  rw[e1]
  simp only[go_sem,ae,h1]
 | d+1,p,hd,hf=>by
  rw[Bi] at hf
  exact Zx cs hc d p hd hf.2.1 fun x hx=>PP cs hc d x (by omega) (hf.2.2 x hx)
end Go.Proofs.YtgkmefoghbjfnaaGreat
