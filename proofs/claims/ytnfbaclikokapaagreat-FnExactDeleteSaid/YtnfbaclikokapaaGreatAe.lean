/- A part. -/
import Derived.Test.YtnfbaclikokapaaGreatAc
import Derived.Test.YtnfbaclikokapaaGreatIa
set_option linter.unusedSimpArgs false
set_option linter.unusedVariables false
set_option maxHeartbeats 2000000
set_option maxRecDepth 10000
open Go.Proofs.Tryz
namespace Go.Proofs.YtnfbaclikokapaaGreat
open Go.Vm
def DJ (p:DPred):Bool:=(p.col==0)&&((p.op==0)&&((p.v.ty==0)&&((p.v.n==0)&&(p.v.s.toList==ByteArray.empty.toList))))
def IA (cs:List Int) (p:DPred):Bool:=Ac p.col 0 ((cs.length:Int)-1)&&(Ac p.op 1 6&&(BD p.v&&(p.v.ty==(cs[p.col.toNat]?).getD 0)))
def EI (cs:List Int) (p:DPred):Bool:=
 if(p.kind==1)=true then DJ p&&((p.l.length:Int)==0) else
 if(p.kind==2)=true then IA cs p&&((p.l.length:Int)==0) else
 if(p.kind==3)=true then DJ p&&Ac p.l.length 1 4 else
 if(p.kind==4)=true then DJ p&&Ac p.l.length 1 4 else
 if(p.kind==5)=true then DJ p&&((p.l.length:Int)==1) else false
def H_ (cs:List Int):Nat→DPred→Bool
 | 0,_=>false
 | d+1,p=>(p.l.all fun q=>H_ cs d q)&&EI cs p
def Bi:Nat→DPred→Nat
 | 0,_=>0
 | d+1,p=>1+(p.l.map fun q=>Bi d q).sum
theorem dA {cs:List Int} {p:DPred} (h:EI cs p=true):p.l.length≤4:=by
 unfold EI at h
 by_cases hl:p.l.length≤4
 ·exact hl
 have e1:((p.l.length:Int)==0)=false:=by simp; intro h0; simp[h0] at hl
 have e2:Ac p.l.length 1 4=false:=by simp[Ac]; omega
 have e3:((p.l.length:Int)==1)=false:=by simp; omega
 rw[e1,e2,e3] at h
 repeat' split at h
 all_goals simp at h
theorem KN {cs:List Int}:∀ (d:Nat) (p:DPred),H_ cs d p=true→3*Bi d p+1≤4 ^ d
 | 0,p,h=>by simp[H_] at h
 | d+1,p,h=>by
  rw[H_,ak] at h
  have hl:=dA h.2
  have hs:∀ l:List DPred,(l.all fun q=>H_ cs d q)=true→3*(l.map fun q=>Bi d q).sum+l.length≤l.length*4 ^ d:=by
   intro l
   induction l with
   | nil=>intro _; simp
   | cons x l ih =>
    intro hx
    rw[bK,ak] at hx
    have h1:=KN d x hx.1
    have h2:=ih hx.2
    simp only[XA,List.sum_cons,bU,iW,Nat.one_mul]
    omega
  have h1:=hs p.l h.1
  have h2:p.l.length*(4 ^ d-1)≤4*(4 ^ d-1):=aaE _ hl
  have h3:0<4 ^ d:=Nat.pow_pos (by omega)
  rw[Nat.mul_sub,Nat.mul_sub] at h2
  rw[Bi,Nat.pow_succ]
  omega
theorem AAH (d:Nat) (p:DPred):1≤Bi (d+1) p:=by rw[Bi]; omega
theorem Jo (d:Nat) (l:List DPred) {k:Nat} (h:k<l.length):((l.drop k).map fun q=>Bi d q).sum=Bi d l[k]+((l.drop (k+1)).map fun q=>Bi d q).sum:=by
 rw[aG h]; rfl
theorem Jp (cs:List Int) (d:Nat) (l:List DPred) {k:Nat} (h:k<l.length):((l.drop k).all fun q=>H_ cs d q)=(H_ cs d l[k]&&(l.drop (k+1)).all fun q=>H_ cs d q):=by
 rw[aG h]; rfl
theorem PD (cs:List Int):∀ (d:Nat) (p:DPred),d≤4→Aq p→H_ cs d p=true→Ctr prog 238 [.agg p.c] [.val (.c (.v (.int .i64 (Bi d p))))]
 | 0,p,_,_,h=>by simp[H_] at h
 | d+1,p,hd,hf,h=>by
  have hcb:=KN _ p h
  have hpw:4 ^ (d+1)≤4 ^ 4:=z_ (by omega) hd
  rw[H_,ak] at h
  rw[Bi] at hcb ⊢
  rw[BP] at hf
  have hlen:=hf.2.1
  refine CM call238 func238 ntmps238 results238 fun hw=>?_
  simp only[go_sem,ae]
  refine LoopU.mk 1 (A:=Nat×Nat) (fun x=>[(3,.c (.v (.int .i64 (x.2)))),(4,.c (.v (.int .i64 (x.1))))]) (fun _=>[⟨71,7,[[.v (.int .i64 p.kind),.v (.int .i64 p.col),.v (.int .i64 p.op),.v (.int .i64 p.v.ty),.v (.int .i64 p.v.n),.v (.string p.v.s),.sl (p.l.map DPred.c)]],true,true⟩]) (fun x=>x.1≤p.l.length∧x.2+((p.l.drop x.1).map fun q=>Bi d q).sum=1+(p.l.map fun q=>Bi d q).sum) (fun x=>p.l.length-x.1) (0,1) ⟨⟨rfl,rfl⟩,rfl,ax _,rfl⟩ ?_
  rintro⟨k,n⟩ ⟨hk,hb⟩
  dsimp only at hk hb
  simp only[go_sem,ae]
  refine cndC.mk (fun h2=>?_) (fun h2=>?_)
  ·have hk':k<p.l.length:=by simpa using h2
   have hok:H_ cs d p.l[k]=true:=aF.1 h.1 _ (aj hk')
   rw[Jo d p.l hk'] at hb
   have hw1:IntKind.i64.wrap ((n:Int)+(Bi d p.l[k]:Int))=((n+Bi d p.l[k]:Nat):Int):=by rw[wrap_i64 (by omega) (by omega)]; omega
   simp only[go_sem,ae,AA _ hk',hk']
   try refine DrawK.mk ?_
   try simp only[go_sem,ae,AA _ hk',hk']
   first | refine CallF.mk _ (by simpa only[go_sem] using PD cs d p.l[k] (by omega) (hf.2.2 _ (aj hk')) hok) ?_ | refine CallK.mk _ (by simpa only[go_sem] using PD cs d p.l[k] (by omega) (hf.2.2 _ (aj hk')) hok) fun _=>?_
   simp only[go_sem,ae,hw1,wrap_i64 (n:=(k:Int)+1) (by omega) (by omega)]
   exact⟨(k+1,n+Bi d p.l[k]),⟨rfl,rfl⟩,rfl,⟨by omega,by simp only; omega⟩,by simp only; omega⟩
  ·have hk':k=p.l.length:=by simp at h2; omega
   subst hk'
   rw[aU] at hb
   have:n=1+(p.l.map fun q=>Bi d q).sum:=by simpa using hb
   subst this
   simp only[go_sem]
theorem RV (cs:List Int) (hc:cs.length≤1048576):∀ (d:Nat) (e:Int) (p:DPred),e+d=5→d≤4→Aq p→Ctr prog 237 [.c (.sl (cs.map intC)),.agg p.c,.c (.v (.int .i64 (e)))] [.val (.c (.v (.bool (H_ cs d p))))]
 | 0,e,p,he,_,_=>by
  refine CM call237 func237 ntmps237 results237 fun hw=>?_
  have h1:decide (e>4)=true:=by simp; omega
  simp only[go_sem,ae,h1,H_]
 | d+1,e,p,he,hd,hf=>by
  rw[BP] at hf
  have hlen:=hf.2.1
  rw[H_]
  refine CM call237 func237 ntmps237 results237 fun hw=>?_
  have h1:decide (e>4)=false:=by simp; omega
  simp only[go_sem,ae,h1]
  refine LoopU.mk 1 (A:=Nat) (fun k=>[(7,.c (.v (.int .i64 (k))))]) (fun _=>[⟨71,7,[[.v (.int .i64 p.kind),.v (.int .i64 p.col),.v (.int .i64 p.op),.v (.int .i64 p.v.ty),.v (.int .i64 p.v.n),.v (.string p.v.s),.sl (p.l.map DPred.c)]],true,true⟩]) (fun k=>k≤p.l.length∧((p.l.drop k).all fun q=>H_ cs d q)=(p.l.all fun q=>H_ cs d q)) (fun k=>p.l.length-k) 0 ⟨⟨rfl,rfl⟩,rfl,ax _,rfl⟩ ?_
  rintro k ⟨hk,hb⟩
  simp only[go_sem,ae]
  refine cndC.mk (fun h2=>?_) (fun h2=>?_)
  ·have hk':k<p.l.length:=by simpa using h2
   rw[Jp cs d p.l hk'] at hb
   simp only[go_sem,ae,AA _ hk',hk',wrap_i64 (n:=e+1) (by omega) (by omega)]
   try refine DrawK.mk ?_
   try simp only[go_sem,ae,AA _ hk',hk',wrap_i64 (n:=e+1) (by omega) (by omega)]
   first | refine CallF.mk _ (by simpa only[go_sem] using RV cs hc d (e+1) p.l[k] (by omega) (by omega) (hf.2.2 _ (aj hk'))) ?_ | refine CallK.mk _ (by simpa only[go_sem] using RV cs hc d (e+1) p.l[k] (by omega) (by omega) (hf.2.2 _ (aj hk'))) fun _=>?_
   rcases hv:H_ cs d p.l[k] with _ | _
   ·rw[hv,ag] at hb
    simp only[go_sem,hv]
    rw[← hb,ag]
   ·rw[hv,ai] at hb
    simp only[go_sem,hv,wrap_i64 (n:=(k:Int)+1) (by omega) (by omega)]
    exact⟨k+1,⟨rfl,rfl⟩,rfl,⟨by omega,hb⟩,by omega⟩
  ·have hk':k=p.l.length:=by simp at h2; omega
   rw[hk',aU,dm] at hb
   rw[← hb,ai]
   clear hb
   have hin:Ac p.col 0 ((cs.length:Int)-1)=true→∃ m:Nat,p.col=m∧m<cs.length:=by
    intro hh
    simp[Ac] at hh
    exact⟨p.col.toNat,by omega,by omega⟩
   have hwl:IntKind.i64.wrap ((cs.length:Int)-1)=(cs.length:Int)-1:=wrap_i64 (by omega) (by omega)
   rcases k2:(p.kind==2) with _ | _
   ·rcases k1:(p.kind==1) with _ | _
    ·rcases k3:(p.kind==3) with _ | _
     ·rcases k4:(p.kind==4) with _ | _
      ·rcases k5:(p.kind==5) with _ | _
       ·have hsh:EI cs p=false:=by simp[EI,k1,k2,k3,k4,k5]
        rw[hsh]
        rcases hA:(p.col==0) with _ | _
        ·simp only[go_sem,ae,hA,k1,k2,k3,k4,k5]
        rcases hB:(p.op==0) with _ | _
        ·simp only[go_sem,ae,hA,hB,k1,k2,k3,k4,k5]
        simp only[go_sem,ae,hA,hB,k1,k2,k3,k4,k5,Dc,Gs]
       ·have hsh:EI cs p=(DJ p&&((p.l.length:Int)==1)):=by simp[EI,k1,k2,k3,k4,k5]
        rw[hsh]
        rcases hA:(p.col==0) with _ | _
        ·simp only[go_sem,ae,hA,k1,k2,k3,k4,k5,DJ,ag]
        rcases hB:(p.op==0) with _ | _
        ·simp only[go_sem,ae,hA,hB,k1,k2,k3,k4,k5,DJ,ag,aH]
        rcases hE:((p.v.ty==0)&&((p.v.n==0)&&(p.v.s.toList==ByteArray.empty.toList))) with _ | _
        all_goals simp only[go_sem,ae,hA,hB,hE,k1,k2,k3,k4,k5,Dc,Gs,DJ,ai,ag]
      ·have hsh:EI cs p=(DJ p&&Ac p.l.length 1 4):=by simp[EI,k1,k2,k3,k4]
       rw[hsh]
       rcases hA:(p.col==0) with _ | _
       ·simp only[go_sem,ae,hA,k1,k2,k3,k4,DJ,ag]
       rcases hB:(p.op==0) with _ | _
       ·simp only[go_sem,ae,hA,hB,k1,k2,k3,k4,DJ,ag,aH]
       rcases hE:((p.v.ty==0)&&((p.v.n==0)&&(p.v.s.toList==ByteArray.empty.toList))) with _ | _
       ·simp only[go_sem,ae,hA,hB,hE,k1,k2,k3,k4,Dc,Gs,DJ,ai,ag]
       ·simp only[go_sem,ae,hA,hB,hE,k1,k2,k3,k4,Dc,Gs,DJ,ai,ag]
        refine CallK.mk _ (AL p.l.length 1 4) fun _=>?_
        simp only[go_sem,ae,hA,hB,hE,k1,k2,k3,k4,Dc,Gs,DJ,ai,ag]
     ·have hsh:EI cs p=(DJ p&&Ac p.l.length 1 4):=by simp[EI,k1,k2,k3]
      rw[hsh]
      rcases hA:(p.col==0) with _ | _
      ·simp only[go_sem,ae,hA,k1,k2,k3,DJ,ag]
      rcases hB:(p.op==0) with _ | _
      ·simp only[go_sem,ae,hA,hB,k1,k2,k3,DJ,ag,aH]
      rcases hE:((p.v.ty==0)&&((p.v.n==0)&&(p.v.s.toList==ByteArray.empty.toList))) with _ | _
      ·simp only[go_sem,ae,hA,hB,hE,k1,k2,k3,Dc,Gs,DJ,ai,ag]
      ·simp only[go_sem,ae,hA,hB,hE,k1,k2,k3,Dc,Gs,DJ,ai,ag]
       refine CallK.mk _ (AL p.l.length 1 4) fun _=>?_
       simp only[go_sem,ae,hA,hB,hE,k1,k2,k3,Dc,Gs,DJ,ai,ag]
    ·have hsh:EI cs p=(DJ p&&((p.l.length:Int)==0)):=by simp[EI,k1]
     rw[hsh]
     rcases hA:(p.col==0) with _ | _
     ·simp only[go_sem,ae,hA,k1,DJ,ag]
     rcases hB:(p.op==0) with _ | _
     ·simp only[go_sem,ae,hA,hB,k1,DJ,ag,aH]
     rcases hE:((p.v.ty==0)&&((p.v.n==0)&&(p.v.s.toList==ByteArray.empty.toList))) with _ | _
     all_goals simp only[go_sem,ae,hA,hB,hE,k1,Dc,Gs,DJ,ai,ag]
   ·have k1:(p.kind==1)=false:=by simp at k2 ⊢; omega
    have hsh:EI cs p=(IA cs p&&((p.l.length:Int)==0)):=by simp[EI,k1,k2]
    rw[hsh]
    rcases hA:(p.col==0) with _ | _
    ·simp only[go_sem,ae,hA,k1,k2,hwl,Dc,Gs]
     refine DrawK.mk ?_
     simp only[go_sem,ae,hA,k1,k2,hwl]
     refine CallF.mk _ (AL p.col 0 _) ?_
     rcases c1:Ac p.col 0 ((cs.length:Int)-1) with _ | _
     ·simp only[go_sem,ae,k1,k2,c1,IA,ag]
     obtain⟨m,hm,hml⟩:=hin c1
     have hgm:(cs[p.col.toNat]?).getD 0=cs[m]:=by rw[hm]; simp[hml]
     have c1':=c1
     rw[hm] at c1'
     simp only[go_sem,ae,k1,k2,c1]
     refine CY (G_ p.v) ?_
     rcases c2:BD p.v with _ | _
     ·simp only[go_sem,ae,k1,k2,c1,c2,IA,ag,aH]
     rcases c3:(p.v.ty==cs[m]) with _ | _
     ·simp only[go_sem,ae,k1,k2,c1,c2,c3,hm,AA _ hml,hml,IA,ag,aH]
      try simp[IA,hgm,c1,c2,c3,hm,hml]
     simp only[go_sem,ae,k1,k2,c1,c2,c3,hm,AA _ hml,hml]
     refine CallF.mk _ (AL p.op 1 6) ?_
     rcases c4:Ac p.op 1 6 with _ | _
     ·simp only[go_sem,ae,k1,k2,c1,c2,c3,c4,hm,AA _ hml,hml,IA,ag,aH]
      try simp[IA,hgm,c1,c2,c3,c4,hm,hml]
     ·simp only[go_sem,ae,k1,k2,c1,c2,c3,c4,hm,AA _ hml,hml]
      try simp[IA,hgm,c1,c1',c2,c3,c4,hm,hml]
    rcases hB:(p.op==0) with _ | _
    ·simp only[go_sem,ae,hA,hB,k1,k2,hwl,Dc,Gs]
     refine DrawK.mk ?_
     simp only[go_sem,ae,hA,hB,k1,k2,hwl]
     refine CallF.mk _ (AL p.col 0 _) ?_
     rcases c1:Ac p.col 0 ((cs.length:Int)-1) with _ | _
     ·simp only[go_sem,ae,k1,k2,c1,IA,ag]
     obtain⟨m,hm,hml⟩:=hin c1
     have hgm:(cs[p.col.toNat]?).getD 0=cs[m]:=by rw[hm]; simp[hml]
     have c1':=c1
     rw[hm] at c1'
     simp only[go_sem,ae,k1,k2,c1]
     refine CY (G_ p.v) ?_
     rcases c2:BD p.v with _ | _
     ·simp only[go_sem,ae,k1,k2,c1,c2,IA,ag,aH]
     rcases c3:(p.v.ty==cs[m]) with _ | _
     ·simp only[go_sem,ae,k1,k2,c1,c2,c3,hm,AA _ hml,hml,IA,ag,aH]
      try simp[IA,hgm,c1,c2,c3,hm,hml]
     simp only[go_sem,ae,k1,k2,c1,c2,c3,hm,AA _ hml,hml]
     refine CallF.mk _ (AL p.op 1 6) ?_
     rcases c4:Ac p.op 1 6 with _ | _
     ·simp only[go_sem,ae,k1,k2,c1,c2,c3,c4,hm,AA _ hml,hml,IA,ag,aH]
      try simp[IA,hgm,c1,c2,c3,c4,hm,hml]
     ·simp only[go_sem,ae,k1,k2,c1,c2,c3,c4,hm,AA _ hml,hml]
      try simp[IA,hgm,c1,c1',c2,c3,c4,hm,hml]
    simp only[go_sem,ae,hA,hB,k1,k2,hwl,Dc,Gs]
    refine DrawK.mk ?_
    simp only[go_sem,ae,hA,hB,k1,k2,hwl]
    refine CallF.mk _ (AL p.col 0 _) ?_
    rcases c1:Ac p.col 0 ((cs.length:Int)-1) with _ | _
    ·simp only[go_sem,ae,k1,k2,c1,IA,ag]
    obtain⟨m,hm,hml⟩:=hin c1
    have hgm:(cs[p.col.toNat]?).getD 0=cs[m]:=by rw[hm]; simp[hml]
    have c1':=c1
    rw[hm] at c1'
    simp only[go_sem,ae,k1,k2,c1]
    refine CY (G_ p.v) ?_
    rcases c2:BD p.v with _ | _
    ·simp only[go_sem,ae,k1,k2,c1,c2,IA,ag,aH]
    rcases c3:(p.v.ty==cs[m]) with _ | _
    ·simp only[go_sem,ae,k1,k2,c1,c2,c3,hm,AA _ hml,hml,IA,ag,aH]
     try simp[IA,hgm,c1,c2,c3,hm,hml]
    simp only[go_sem,ae,k1,k2,c1,c2,c3,hm,AA _ hml,hml]
    refine CallF.mk _ (AL p.op 1 6) ?_
    rcases c4:Ac p.op 1 6 with _ | _
    ·simp only[go_sem,ae,k1,k2,c1,c2,c3,c4,hm,AA _ hml,hml,IA,ag,aH]
     try simp[IA,hgm,c1,c2,c3,c4,hm,hml]
    ·simp only[go_sem,ae,k1,k2,c1,c2,c3,c4,hm,AA _ hml,hml]
     try simp[IA,hgm,c1,c1',c2,c3,c4,hm,hml]
end Go.Proofs.YtnfbaclikokapaaGreat
