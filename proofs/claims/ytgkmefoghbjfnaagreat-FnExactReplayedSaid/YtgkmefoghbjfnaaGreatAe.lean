/- A part. -/
import Derived.Test.YtgkmefoghbjfnaaGreatAb
import Derived.Test.YtgkmefoghbjfnaaGreatIa
set_option linter.unusedSimpArgs false
set_option linter.unusedVariables false
set_option maxHeartbeats 2000000
set_option maxRecDepth 10000
open Go.Proofs.Tryz
namespace Go.Proofs.YtgkmefoghbjfnaaGreat
open Go.Vm
def Bh (p:DPred):Bool:=(p.col==0)&&((p.op==0)&&((p.v.ty==0)&&((p.v.n==0)&&(p.v.s.toList==ByteArray.empty.toList))))
def Et (cs:List Int) (p:DPred):Bool:=Ce p.col 0 ((cs.length:Int)-1)&&(Ce p.op 1 6&&(EX p.v&&(p.v.ty==(cs[p.col.toNat]?).getD 0)))
def Ci (cs:List Int) (p:DPred):Bool:=
 if(p.kind==1)=true then Bh p&&((p.l.length:Int)==0) else
 if(p.kind==2)=true then Et cs p&&((p.l.length:Int)==0) else
 if(p.kind==3)=true then Bh p&&Ce p.l.length 1 4 else
 if(p.kind==4)=true then Bh p&&Ce p.l.length 1 4 else
 if(p.kind==5)=true then Bh p&&((p.l.length:Int)==1) else false
def Es (cs:List Int):Nat→DPred→Bool
 | 0,_=>false
 | d+1,p=>(p.l.all fun q=>Es cs d q)&&Ci cs p
def BG:Nat→DPred→Nat
 | 0,_=>0
 | d+1,p=>1+(p.l.map fun q=>BG d q).sum
theorem TC {cs:List Int} {p:DPred} (h:Ci cs p=true):p.l.length≤4:=by
 unfold Ci at h
 by_cases hl:p.l.length≤4
 ·exact hl
 have e1:((p.l.length:Int)==0)=false:=by simp; intro h0; simp[h0] at hl
 have e2:Ce p.l.length 1 4=false:=by simp[Ce]; omega
 have e3:((p.l.length:Int)==1)=false:=by simp; omega
 rw[e1,e2,e3] at h
 repeat' split at h
 all_goals simp at h
theorem G6 {cs:List Int}:∀ (d:Nat) (p:DPred),Es cs d p=true→3*BG d p+1≤4 ^ d
 | 0,p,h=>by simp[Es] at h
 | d+1,p,h=>by
  rw[Es,aI] at h
  have hl:=TC h.2
  have hs:∀ l:List DPred,(l.all fun q=>Es cs d q)=true→3*(l.map fun q=>BG d q).sum+l.length≤l.length*4 ^ d:=by
   intro l
   induction l with
   | nil=>intro _; simp
   | cons x l ih =>
    intro hx
    rw[aS,aI] at hx
    have h1:=G6 d x hx.1
    have h2:=ih hx.2
    simp only[U9,List.sum_cons,bQ,Pj,Nat.one_mul]
    omega
  have h1:=hs p.l h.1
  have h2:p.l.length*(4 ^ d-1)≤4*(4 ^ d-1):=mX _ hl
  have h3:0<4 ^ d:=Nat.pow_pos (by omega)
  rw[Nat.mul_sub,Nat.mul_sub] at h2
  rw[BG,Nat.pow_succ]
  omega
theorem gq (d:Nat) (p:DPred):1≤BG (d+1) p:=by rw[BG]; omega
theorem GR (d:Nat) (l:List DPred) {k:Nat} (h:k<l.length):((l.drop k).map fun q=>BG d q).sum=BG d l[k]+((l.drop (k+1)).map fun q=>BG d q).sum:=by
 rw[aF h]; rfl
theorem GU (cs:List Int) (d:Nat) (l:List DPred) {k:Nat} (h:k<l.length):((l.drop k).all fun q=>Es cs d q)=(Es cs d l[k]&&(l.drop (k+1)).all fun q=>Es cs d q):=by
 rw[aF h]; rfl
theorem Jm (cs:List Int):∀ (d:Nat) (p:DPred),d≤4→BF p→Es cs d p=true→Ctr prog 179 [.agg p.c] [.val (.c (.v (.int .i64 (BG d p))))]
 | 0,p,_,_,h=>by simp[Es] at h
 | d+1,p,hd,hf,h=>by
  have hcb:=G6 _ p h
  have hpw:4 ^ (d+1)≤4 ^ 4:=mY (by omega) hd
  rw[Es,aI] at h
  rw[BG] at hcb ⊢
  rw[Bi] at hf
  have hlen:=hf.2.1
  refine CM call179 func179 ntmps179 results179 fun hw=>?_
  simp only[go_sem,ae]
  refine LoopU.mk 1 (A:=Nat×Nat) (fun x=>[(3,.c (.v (.int .i64 (x.2)))),(4,.c (.v (.int .i64 (x.1))))]) (fun _=>[⟨78,7,[[.v (.int .i64 p.kind),.v (.int .i64 p.col),.v (.int .i64 p.op),.v (.int .i64 p.v.ty),.v (.int .i64 p.v.n),.v (.string p.v.s),.sl (p.l.map DPred.c)]],true,true⟩]) (fun x=>x.1≤p.l.length∧x.2+((p.l.drop x.1).map fun q=>BG d q).sum=1+(p.l.map fun q=>BG d q).sum) (fun x=>p.l.length-x.1) (0,1) ⟨⟨rfl,rfl⟩,rfl,aJ _,rfl⟩ ?_
  rintro⟨k,n⟩ ⟨hk,hb⟩
  dsimp only at hk hb
  simp only[go_sem,ae]
  refine cndC.mk (fun h2=>?_) (fun h2=>?_)
  ·have hk':k<p.l.length:=by simpa using h2
   have hok:Es cs d p.l[k]=true:=aA.1 h.1 _ (au hk')
   rw[GR d p.l hk'] at hb
   have hw1:IntKind.i64.wrap ((n:Int)+(BG d p.l[k]:Int))=((n+BG d p.l[k]:Nat):Int):=by rw[wrap_i64 (by omega) (by omega)]; omega
   simp only[go_sem,ae,AA _ hk',hk']
   try refine DrawK.mk ?_
   try simp only[go_sem,ae,AA _ hk',hk']
   first | refine CallF.mk _ (by simpa only[go_sem] using Jm cs d p.l[k] (by omega) (hf.2.2 _ (au hk')) hok) ?_ | refine CallK.mk _ (by simpa only[go_sem] using Jm cs d p.l[k] (by omega) (hf.2.2 _ (au hk')) hok) fun _=>?_
   simp only[go_sem,ae,hw1,wrap_i64 (n:=(k:Int)+1) (by omega) (by omega)]
   exact⟨(k+1,n+BG d p.l[k]),⟨rfl,rfl⟩,rfl,⟨by omega,by simp only; omega⟩,by simp only; omega⟩
  ·have hk':k=p.l.length:=by simp at h2; omega
   subst hk'
   rw[aP] at hb
   have:n=1+(p.l.map fun q=>BG d q).sum:=by simpa using hb
   subst this
   simp only[go_sem]
theorem L6 (cs:List Int) (hc:cs.length≤1048576):∀ (d:Nat) (e:Int) (p:DPred),e+d=5→d≤4→BF p→Ctr prog 178 [.c (.sl (cs.map intC)),.agg p.c,.c (.v (.int .i64 (e)))] [.val (.c (.v (.bool (Es cs d p))))]
 | 0,e,p,he,_,_=>by
  refine CM call178 func178 ntmps178 results178 fun hw=>?_
  have h1:decide (e>4)=true:=by simp; omega
  simp only[go_sem,ae,h1,Es]
 | d+1,e,p,he,hd,hf=>by
  rw[Bi] at hf
  have hlen:=hf.2.1
  rw[Es]
  refine CM call178 func178 ntmps178 results178 fun hw=>?_
  have h1:decide (e>4)=false:=by simp; omega
  simp only[go_sem,ae,h1]
  refine LoopU.mk 1 (A:=Nat) (fun k=>[(7,.c (.v (.int .i64 (k))))]) (fun _=>[⟨78,7,[[.v (.int .i64 p.kind),.v (.int .i64 p.col),.v (.int .i64 p.op),.v (.int .i64 p.v.ty),.v (.int .i64 p.v.n),.v (.string p.v.s),.sl (p.l.map DPred.c)]],true,true⟩]) (fun k=>k≤p.l.length∧((p.l.drop k).all fun q=>Es cs d q)=(p.l.all fun q=>Es cs d q)) (fun k=>p.l.length-k) 0 ⟨⟨rfl,rfl⟩,rfl,aJ _,rfl⟩ ?_
  rintro k ⟨hk,hb⟩
  simp only[go_sem,ae]
  refine cndC.mk (fun h2=>?_) (fun h2=>?_)
  ·have hk':k<p.l.length:=by simpa using h2
   rw[GU cs d p.l hk'] at hb
   simp only[go_sem,ae,AA _ hk',hk',wrap_i64 (n:=e+1) (by omega) (by omega)]
   try refine DrawK.mk ?_
   try simp only[go_sem,ae,AA _ hk',hk',wrap_i64 (n:=e+1) (by omega) (by omega)]
   first | refine CallF.mk _ (by simpa only[go_sem] using L6 cs hc d (e+1) p.l[k] (by omega) (by omega) (hf.2.2 _ (au hk'))) ?_ | refine CallK.mk _ (by simpa only[go_sem] using L6 cs hc d (e+1) p.l[k] (by omega) (by omega) (hf.2.2 _ (au hk'))) fun _=>?_
   rcases hv:Es cs d p.l[k] with _ | _
   ·rw[hv,aC] at hb
    simp only[go_sem,hv]
    rw[← hb,aC]
   ·rw[hv,aU] at hb
    simp only[go_sem,hv,wrap_i64 (n:=(k:Int)+1) (by omega) (by omega)]
    exact⟨k+1,⟨rfl,rfl⟩,rfl,⟨by omega,hb⟩,by omega⟩
  ·have hk':k=p.l.length:=by simp at h2; omega
   rw[hk',aP,aZ] at hb
   rw[← hb,aU]
   clear hb
   have hin:Ce p.col 0 ((cs.length:Int)-1)=true→∃ m:Nat,p.col=m∧m<cs.length:=by
    intro hh
    simp[Ce] at hh
    exact⟨p.col.toNat,by omega,by omega⟩
   have hwl:IntKind.i64.wrap ((cs.length:Int)-1)=(cs.length:Int)-1:=wrap_i64 (by omega) (by omega)
   rcases k2:(p.kind==2) with _ | _
   ·rcases k1:(p.kind==1) with _ | _
    ·rcases k3:(p.kind==3) with _ | _
     ·rcases k4:(p.kind==4) with _ | _
      ·rcases k5:(p.kind==5) with _ | _
       ·have hsh:Ci cs p=false:=by simp[Ci,k1,k2,k3,k4,k5]
        rw[hsh]
        rcases hA:(p.col==0) with _ | _
        ·simp only[go_sem,ae,hA,k1,k2,k3,k4,k5]
        rcases hB:(p.op==0) with _ | _
        ·simp only[go_sem,ae,hA,hB,k1,k2,k3,k4,k5]
        simp only[go_sem,ae,hA,hB,k1,k2,k3,k4,k5,DJ,FC]
       ·have hsh:Ci cs p=(Bh p&&((p.l.length:Int)==1)):=by simp[Ci,k1,k2,k3,k4,k5]
        rw[hsh]
        rcases hA:(p.col==0) with _ | _
        ·simp only[go_sem,ae,hA,k1,k2,k3,k4,k5,Bh,aC]
        rcases hB:(p.op==0) with _ | _
        ·simp only[go_sem,ae,hA,hB,k1,k2,k3,k4,k5,Bh,aC,bF]
        rcases hE:((p.v.ty==0)&&((p.v.n==0)&&(p.v.s.toList==ByteArray.empty.toList))) with _ | _
        all_goals simp only[go_sem,ae,hA,hB,hE,k1,k2,k3,k4,k5,DJ,FC,Bh,aU,aC]
      ·have hsh:Ci cs p=(Bh p&&Ce p.l.length 1 4):=by simp[Ci,k1,k2,k3,k4]
       rw[hsh]
       rcases hA:(p.col==0) with _ | _
       ·simp only[go_sem,ae,hA,k1,k2,k3,k4,Bh,aC]
       rcases hB:(p.op==0) with _ | _
       ·simp only[go_sem,ae,hA,hB,k1,k2,k3,k4,Bh,aC,bF]
       rcases hE:((p.v.ty==0)&&((p.v.n==0)&&(p.v.s.toList==ByteArray.empty.toList))) with _ | _
       ·simp only[go_sem,ae,hA,hB,hE,k1,k2,k3,k4,DJ,FC,Bh,aU,aC]
       ·simp only[go_sem,ae,hA,hB,hE,k1,k2,k3,k4,DJ,FC,Bh,aU,aC]
        refine CallK.mk _ (BB p.l.length 1 4) fun _=>?_
        simp only[go_sem,ae,hA,hB,hE,k1,k2,k3,k4,DJ,FC,Bh,aU,aC]
     ·have hsh:Ci cs p=(Bh p&&Ce p.l.length 1 4):=by simp[Ci,k1,k2,k3]
      rw[hsh]
      rcases hA:(p.col==0) with _ | _
      ·simp only[go_sem,ae,hA,k1,k2,k3,Bh,aC]
      rcases hB:(p.op==0) with _ | _
      ·simp only[go_sem,ae,hA,hB,k1,k2,k3,Bh,aC,bF]
      rcases hE:((p.v.ty==0)&&((p.v.n==0)&&(p.v.s.toList==ByteArray.empty.toList))) with _ | _
      ·simp only[go_sem,ae,hA,hB,hE,k1,k2,k3,DJ,FC,Bh,aU,aC]
      ·simp only[go_sem,ae,hA,hB,hE,k1,k2,k3,DJ,FC,Bh,aU,aC]
       refine CallK.mk _ (BB p.l.length 1 4) fun _=>?_
       simp only[go_sem,ae,hA,hB,hE,k1,k2,k3,DJ,FC,Bh,aU,aC]
    ·have hsh:Ci cs p=(Bh p&&((p.l.length:Int)==0)):=by simp[Ci,k1]
     rw[hsh]
     rcases hA:(p.col==0) with _ | _
     ·simp only[go_sem,ae,hA,k1,Bh,aC]
     rcases hB:(p.op==0) with _ | _
     ·simp only[go_sem,ae,hA,hB,k1,Bh,aC,bF]
     rcases hE:((p.v.ty==0)&&((p.v.n==0)&&(p.v.s.toList==ByteArray.empty.toList))) with _ | _
     all_goals simp only[go_sem,ae,hA,hB,hE,k1,DJ,FC,Bh,aU,aC]
   ·have k1:(p.kind==1)=false:=by simp at k2 ⊢; omega
    have hsh:Ci cs p=(Et cs p&&((p.l.length:Int)==0)):=by simp[Ci,k1,k2]
    rw[hsh]
    rcases hA:(p.col==0) with _ | _
    ·simp only[go_sem,ae,hA,k1,k2,hwl,DJ,FC]
     refine DrawK.mk ?_
     simp only[go_sem,ae,hA,k1,k2,hwl]
     refine CallF.mk _ (BB p.col 0 _) ?_
     rcases c1:Ce p.col 0 ((cs.length:Int)-1) with _ | _
     ·simp only[go_sem,ae,k1,k2,c1,Et,aC]
     obtain⟨m,hm,hml⟩:=hin c1
     have hgm:(cs[p.col.toNat]?).getD 0=cs[m]:=by rw[hm]; simp[hml]
     have c1':=c1
     rw[hm] at c1'
     simp only[go_sem,ae,k1,k2,c1]
     refine CY (IX p.v) ?_
     rcases c2:EX p.v with _ | _
     ·simp only[go_sem,ae,k1,k2,c1,c2,Et,aC,bF]
     rcases c3:(p.v.ty==cs[m]) with _ | _
     ·simp only[go_sem,ae,k1,k2,c1,c2,c3,hm,AA _ hml,hml,Et,aC,bF]
      try simp[Et,hgm,c1,c2,c3,hm,hml]
     simp only[go_sem,ae,k1,k2,c1,c2,c3,hm,AA _ hml,hml]
     refine CallF.mk _ (BB p.op 1 6) ?_
     rcases c4:Ce p.op 1 6 with _ | _
     ·simp only[go_sem,ae,k1,k2,c1,c2,c3,c4,hm,AA _ hml,hml,Et,aC,bF]
      try simp[Et,hgm,c1,c2,c3,c4,hm,hml]
     ·simp only[go_sem,ae,k1,k2,c1,c2,c3,c4,hm,AA _ hml,hml]
      try simp[Et,hgm,c1,c1',c2,c3,c4,hm,hml]
    rcases hB:(p.op==0) with _ | _
    ·simp only[go_sem,ae,hA,hB,k1,k2,hwl,DJ,FC]
     refine DrawK.mk ?_
     simp only[go_sem,ae,hA,hB,k1,k2,hwl]
     refine CallF.mk _ (BB p.col 0 _) ?_
     rcases c1:Ce p.col 0 ((cs.length:Int)-1) with _ | _
     ·simp only[go_sem,ae,k1,k2,c1,Et,aC]
     obtain⟨m,hm,hml⟩:=hin c1
     have hgm:(cs[p.col.toNat]?).getD 0=cs[m]:=by rw[hm]; simp[hml]
     have c1':=c1
     rw[hm] at c1'
     simp only[go_sem,ae,k1,k2,c1]
     refine CY (IX p.v) ?_
     rcases c2:EX p.v with _ | _
     ·simp only[go_sem,ae,k1,k2,c1,c2,Et,aC,bF]
     rcases c3:(p.v.ty==cs[m]) with _ | _
     ·simp only[go_sem,ae,k1,k2,c1,c2,c3,hm,AA _ hml,hml,Et,aC,bF]
      try simp[Et,hgm,c1,c2,c3,hm,hml]
     simp only[go_sem,ae,k1,k2,c1,c2,c3,hm,AA _ hml,hml]
     refine CallF.mk _ (BB p.op 1 6) ?_
     rcases c4:Ce p.op 1 6 with _ | _
     ·simp only[go_sem,ae,k1,k2,c1,c2,c3,c4,hm,AA _ hml,hml,Et,aC,bF]
      try simp[Et,hgm,c1,c2,c3,c4,hm,hml]
     ·simp only[go_sem,ae,k1,k2,c1,c2,c3,c4,hm,AA _ hml,hml]
      try simp[Et,hgm,c1,c1',c2,c3,c4,hm,hml]
    simp only[go_sem,ae,hA,hB,k1,k2,hwl,DJ,FC]
    refine DrawK.mk ?_
    simp only[go_sem,ae,hA,hB,k1,k2,hwl]
    refine CallF.mk _ (BB p.col 0 _) ?_
    rcases c1:Ce p.col 0 ((cs.length:Int)-1) with _ | _
    ·simp only[go_sem,ae,k1,k2,c1,Et,aC]
    obtain⟨m,hm,hml⟩:=hin c1
    have hgm:(cs[p.col.toNat]?).getD 0=cs[m]:=by rw[hm]; simp[hml]
    have c1':=c1
    rw[hm] at c1'
    simp only[go_sem,ae,k1,k2,c1]
    refine CY (IX p.v) ?_
    rcases c2:EX p.v with _ | _
    ·simp only[go_sem,ae,k1,k2,c1,c2,Et,aC,bF]
    rcases c3:(p.v.ty==cs[m]) with _ | _
    ·simp only[go_sem,ae,k1,k2,c1,c2,c3,hm,AA _ hml,hml,Et,aC,bF]
     try simp[Et,hgm,c1,c2,c3,hm,hml]
    simp only[go_sem,ae,k1,k2,c1,c2,c3,hm,AA _ hml,hml]
    refine CallF.mk _ (BB p.op 1 6) ?_
    rcases c4:Ce p.op 1 6 with _ | _
    ·simp only[go_sem,ae,k1,k2,c1,c2,c3,c4,hm,AA _ hml,hml,Et,aC,bF]
     try simp[Et,hgm,c1,c2,c3,c4,hm,hml]
    ·simp only[go_sem,ae,k1,k2,c1,c2,c3,c4,hm,AA _ hml,hml]
     try simp[Et,hgm,c1,c1',c2,c3,c4,hm,hml]
end Go.Proofs.YtgkmefoghbjfnaaGreat
