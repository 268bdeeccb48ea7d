/- A part. -/
import Derived.Test.YtnoldekcdlaahaaGreatPAc
import Derived.Test.YtnoldekcdlaahaaGreatPZx
set_option linter.unusedSimpArgs false
set_option linter.unusedVariables false
set_option maxHeartbeats 2000000
set_option maxRecDepth 10000
open Go.Proofs.Tryz
namespace Go.Proofs.YtnoldekcdlaahaaGreat
open Go.Vm
def EE (p:DPred):Bool:=(p.col==0)&&((p.op==0)&&((p.v.ty==0)&&((p.v.n==0)&&(p.v.s.toList==ByteArray.empty.toList))))
def JA (cs:List Int) (p:DPred):Bool:=Ad p.col 0 ((cs.length:Int)-1)&&(Ad p.op 1 6&&(BQ p.v&&(p.v.ty==(cs[p.col.toNat]?).getD 0)))
def FM (cs:List Int) (p:DPred):Bool:=
 if(p.kind==1)=true then EE p&&((p.l.length:Int)==0) else
 if(p.kind==2)=true then JA cs p&&((p.l.length:Int)==0) else
 if(p.kind==3)=true then EE p&&Ad p.l.length 1 4 else
 if(p.kind==4)=true then EE p&&Ad p.l.length 1 4 else
 if(p.kind==5)=true then EE p&&((p.l.length:Int)==1) else false
def I_ (cs:List Int):Nat→DPred→Bool
 | 0,_=>false
 | d+1,p=>(p.l.all fun q=>I_ cs d q)&&FM cs p
def Cc:Nat→DPred→Nat
 | 0,_=>0
 | d+1,p=>1+(p.l.map fun q=>Cc d q).sum
theorem jK {cs:List Int} {p:DPred} (h:FM cs p=true):p.l.length≤4:=by
 unfold FM at h
 by_cases hl:p.l.length≤4
 ·exact hl
 have e1:((p.l.length:Int)==0)=false:=by simp; intro h0; simp[h0] at hl
 have e2:Ad p.l.length 1 4=false:=by simp[Ad]; omega
 have e3:((p.l.length:Int)==1)=false:=AOS
 rw[e1,e2,e3] at h
 repeat' split at h
 all_goals simp at h
theorem MF {cs:List Int}:∀ (d:Nat) (p:DPred),I_ cs d p=true→3*Cc d p+1≤4 ^ d
 | 0,p,h=>by simp[I_] at h
 | d+1,p,h=>by
  rw[I_,ay] at h
  have hl:=jK h.2
  have hs:∀ l:List DPred,(l.all fun q=>I_ cs d q)=true→3*(l.map fun q=>Cc d q).sum+l.length≤l.length*4 ^ d:=by
   intro l
   induction l with
   | nil=>intro _; simp
   | cons x l ih =>
    intro hx
    rw[bi,ay] at hx
    have h1:=MF d x hx.1
    have h2:=ih hx.2
    simp only[YR,List.sum_cons,aI,Zm,Nat.one_mul]
    omega
  have h1:=hs p.l h.1
  have h2:p.l.length*(4 ^ d-1)≤4*(4 ^ d-1):=aaE _ hl
  have h3:0<4 ^ d:=Nat.pow_pos AOQ
  rw[Nat.mul_sub,Nat.mul_sub] at h2
  rw[Cc,Nat.pow_succ]
  omega
theorem ACW (d:Nat) (p:DPred):1≤Cc (d+1) p:=by rw[Cc]; omega
theorem LH (d:Nat) (l:List DPred) {k:Nat} (h:k<l.length):((l.drop k).map fun q=>Cc d q).sum=Cc d l[k]+((l.drop (k+1)).map fun q=>Cc d q).sum:=by
 rw[aG h]; rfl
theorem LJ (cs:List Int) (d:Nat) (l:List DPred) {k:Nat} (h:k<l.length):((l.drop k).all fun q=>I_ cs d q)=(I_ cs d l[k]&&(l.drop (k+1)).all fun q=>I_ cs d q):=by
 rw[aG h]; rfl
theorem QW (cs:List Int):∀ (d:Nat) (p:DPred),d≤4→BD p→I_ cs d p=true→Ctr prog 389 [.agg p.c] [.val (.c (.v (.int .i64 (Cc d p))))]
 | 0,p,_,_,h=>by simp[I_] at h
 | d+1,p,hd,hf,h=>by
  have hcb:=MF _ p h
  have hpw:4 ^ (d+1)≤4 ^ 4:=aay AOQ hd
  rw[I_,ay] at h
  rw[Cc] at hcb ⊢
  rw[Bg] at hf
  have hlen:=hf.2.1
  refine CM call389 func389 ntmps389 results389 fun hw=>?_
  simp only[go_sem,ae]
  refine ABK 1 (A:=Nat×Nat) (fun x=>[(3,.c (.v (.int .i64 (x.2)))),(4,.c (.v (.int .i64 (x.1))))]) (fun _=>[⟨67,7,[[.v (.int .i64 p.kind),.v (.int .i64 p.col),.v (.int .i64 p.op),.v (.int .i64 p.v.ty),.v (.int .i64 p.v.n),.v (.string p.v.s),.sl (p.l.map DPred.c)]],true,true⟩]) (fun x=>x.1≤p.l.length∧x.2+((p.l.drop x.1).map fun q=>Cc d q).sum=1+(p.l.map fun q=>Cc d q).sum) (fun x=>p.l.length-x.1) (0,1) ⟨⟨rfl,rfl⟩,rfl,aA _,rfl⟩ ?_
  rintro⟨k,n⟩ ⟨hk,hb⟩
  dsimp only at hk hb
  simp only[go_sem,ae]
  refine ABG (fun h2=>?_) (fun h2=>?_)
  ·have hk':k<p.l.length:=by simpa using h2
   have hok:I_ cs d p.l[k]=true:=aJ.1 h.1 _ (ax hk')
   rw[LH d p.l hk'] at hb
   have hw1:IntKind.i64.wrap ((n:Int)+(Cc d p.l[k]:Int))=((n+Cc d p.l[k]:Nat):Int):=AOW
   simp only[go_sem,ae,AA _ hk',hk']
   try refine AAm ?_
   try simp only[go_sem,ae,AA _ hk',hk']
   first | refine ABL _ (by simpa only[go_sem] using QW cs d p.l[k] AOQ (hf.2.2 _ (ax hk')) hok) ?_ | refine AAM _ (by simpa only[go_sem] using QW cs d p.l[k] AOQ (hf.2.2 _ (ax hk')) hok) fun _=>?_
   simp only[go_sem,ae,hw1,wrap_i64 (n:=(k:Int)+1) AOQ AOQ]
   exact⟨(k+1,n+Cc d p.l[k]),⟨rfl,rfl⟩,rfl,⟨AOQ,AOV⟩,AOV⟩
  ·have hk':k=p.l.length:=by simp at h2; omega
   subst hk'
   rw[aY] at hb
   have:n=1+(p.l.map fun q=>Cc d q).sum:=APB
   subst this
   exact AI5
theorem TZ (cs:List Int) (hc:cs.length≤1048576):∀ (d:Nat) (e:Int) (p:DPred),e+d=5→d≤4→BD p→Ctr prog 388 [.c (.sl (cs.map intC)),.agg p.c,.c (.v (.int .i64 (e)))] [.val (.c (.v (.bool (I_ cs d p))))]
 | 0,e,p,he,_,_=>by
  refine CM call388 func388 ntmps388 results388 fun hw=>?_
  have h1:decide (e>4)=true:=AOS
  simp only[go_sem,ae,h1,I_]
 | d+1,e,p,he,hd,hf=>by
  rw[Bg] at hf
  have hlen:=hf.2.1
  rw[I_]
  refine CM call388 func388 ntmps388 results388 fun hw=>?_
  have h1:decide (e>4)=false:=AOS
  simp only[go_sem,ae,h1]
  refine ABK 1 (A:=Nat) (fun k=>[(7,.c (.v (.int .i64 (k))))]) (fun _=>[⟨67,7,[[.v (.int .i64 p.kind),.v (.int .i64 p.col),.v (.int .i64 p.op),.v (.int .i64 p.v.ty),.v (.int .i64 p.v.n),.v (.string p.v.s),.sl (p.l.map DPred.c)]],true,true⟩]) (fun k=>k≤p.l.length∧((p.l.drop k).all fun q=>I_ cs d q)=(p.l.all fun q=>I_ cs d q)) (fun k=>p.l.length-k) 0 ⟨⟨rfl,rfl⟩,rfl,aA _,rfl⟩ ?_
  rintro k ⟨hk,hb⟩
  simp only[go_sem,ae]
  refine ABG (fun h2=>?_) (fun h2=>?_)
  ·have hk':k<p.l.length:=by simpa using h2
   rw[LJ cs d p.l hk'] at hb
   simp only[go_sem,ae,AA _ hk',hk',wrap_i64 (n:=e+1) AOQ AOQ]
   try refine AAm ?_
   try simp only[go_sem,ae,AA _ hk',hk',wrap_i64 (n:=e+1) AOQ AOQ]
   first | refine ABL _ (by simpa only[go_sem] using TZ cs hc d (e+1) p.l[k] AOQ AOQ (hf.2.2 _ (ax hk'))) ?_ | refine AAM _ (by simpa only[go_sem] using TZ cs hc d (e+1) p.l[k] AOQ AOQ (hf.2.2 _ (ax hk'))) fun _=>?_
   rcases hv:I_ cs d p.l[k] with _ | _
   ·rw[hv,ag] at hb
    simp only[go_sem,hv]
    rw[← hb,ag]
   ·rw[hv,aj] at hb
    simp only[go_sem,hv,wrap_i64 (n:=(k:Int)+1) AOQ AOQ]
    exact⟨k+1,⟨rfl,rfl⟩,rfl,⟨AOQ,hb⟩,AOQ⟩
  ·have hk':k=p.l.length:=by simp at h2; omega
   rw[hk',aY,bJ] at hb
   rw[← hb,aj]
   clear hb
   have hin:Ad p.col 0 ((cs.length:Int)-1)=true→∃ m:Nat,p.col=m∧m<cs.length:=by
    intro hh
    simp[Ad] at hh
    exact⟨p.col.toNat,AOQ,AOQ⟩
   have hwl:IntKind.i64.wrap ((cs.length:Int)-1)=(cs.length:Int)-1:=wrap_i64 AOQ AOQ
   rcases k2:(p.kind==2) with _ | _
   ·rcases k1:(p.kind==1) with _ | _
    ·rcases k3:(p.kind==3) with _ | _
     ·rcases k4:(p.kind==4) with _ | _
      ·rcases k5:(p.kind==5) with _ | _
       ·have hsh:FM cs p=false:=by simp[FM,k1,k2,k3,k4,k5]
        rw[hsh]
        rcases hA:(p.col==0) with _ | _
        ·simp only[go_sem,ae,hA,k1,k2,k3,k4,k5]
        rcases hB:(p.op==0) with _ | _
        ·simp only[go_sem,ae,hA,hB,k1,k2,k3,k4,k5]
        simp only[go_sem,ae,hA,hB,k1,k2,k3,k4,k5,ES,IL]
       ·have hsh:FM cs p=(EE p&&((p.l.length:Int)==1)):=by simp[FM,k1,k2,k3,k4,k5]
        rw[hsh]
        rcases hA:(p.col==0) with _ | _
        ·simp only[go_sem,ae,hA,k1,k2,k3,k4,k5,EE,ag]
        rcases hB:(p.op==0) with _ | _
        ·simp only[go_sem,ae,hA,hB,k1,k2,k3,k4,k5,EE,ag,aK]
        rcases hE:((p.v.ty==0)&&((p.v.n==0)&&(p.v.s.toList==ByteArray.empty.toList))) with _ | _
        all_goals simp only[go_sem,ae,hA,hB,hE,k1,k2,k3,k4,k5,ES,IL,EE,aj,ag]
      ·have hsh:FM cs p=(EE p&&Ad p.l.length 1 4):=by simp[FM,k1,k2,k3,k4]
       rw[hsh]
       rcases hA:(p.col==0) with _ | _
       ·simp only[go_sem,ae,hA,k1,k2,k3,k4,EE,ag]
       rcases hB:(p.op==0) with _ | _
       ·simp only[go_sem,ae,hA,hB,k1,k2,k3,k4,EE,ag,aK]
       rcases hE:((p.v.ty==0)&&((p.v.n==0)&&(p.v.s.toList==ByteArray.empty.toList))) with _ | _
       ·simp only[go_sem,ae,hA,hB,hE,k1,k2,k3,k4,ES,IL,EE,aj,ag]
       ·simp only[go_sem,ae,hA,hB,hE,k1,k2,k3,k4,ES,IL,EE,aj,ag]
        refine AAM _ (AO p.l.length 1 4) fun _=>?_
        simp only[go_sem,ae,hA,hB,hE,k1,k2,k3,k4,ES,IL,EE,aj,ag]
     ·have hsh:FM cs p=(EE p&&Ad p.l.length 1 4):=by simp[FM,k1,k2,k3]
      rw[hsh]
      rcases hA:(p.col==0) with _ | _
      ·simp only[go_sem,ae,hA,k1,k2,k3,EE,ag]
      rcases hB:(p.op==0) with _ | _
      ·simp only[go_sem,ae,hA,hB,k1,k2,k3,EE,ag,aK]
      rcases hE:((p.v.ty==0)&&((p.v.n==0)&&(p.v.s.toList==ByteArray.empty.toList))) with _ | _
      ·simp only[go_sem,ae,hA,hB,hE,k1,k2,k3,ES,IL,EE,aj,ag]
      ·simp only[go_sem,ae,hA,hB,hE,k1,k2,k3,ES,IL,EE,aj,ag]
       refine AAM _ (AO p.l.length 1 4) fun _=>?_
       simp only[go_sem,ae,hA,hB,hE,k1,k2,k3,ES,IL,EE,aj,ag]
    ·have hsh:FM cs p=(EE p&&((p.l.length:Int)==0)):=by simp[FM,k1]
     rw[hsh]
     rcases hA:(p.col==0) with _ | _
     ·simp only[go_sem,ae,hA,k1,EE,ag]
     rcases hB:(p.op==0) with _ | _
     ·simp only[go_sem,ae,hA,hB,k1,EE,ag,aK]
     rcases hE:((p.v.ty==0)&&((p.v.n==0)&&(p.v.s.toList==ByteArray.empty.toList))) with _ | _
     all_goals simp only[go_sem,ae,hA,hB,hE,k1,ES,IL,EE,aj,ag]
   ·have k1:(p.kind==1)=false:=by simp at k2 ⊢; omega
    have hsh:FM cs p=(JA cs p&&((p.l.length:Int)==0)):=by simp[FM,k1,k2]
    rw[hsh]
    rcases hA:(p.col==0) with _ | _
    ·simp only[go_sem,ae,hA,k1,k2,hwl,ES,IL]
     refine AAm ?_
     simp only[go_sem,ae,hA,k1,k2,hwl]
     exact AEv
    rcases hB:(p.op==0) with _ | _
    ·simp only[go_sem,ae,hA,hB,k1,k2,hwl,ES,IL]
     refine AAm ?_
     simp only[go_sem,ae,hA,hB,k1,k2,hwl]
     exact AEv
    simp only[go_sem,ae,hA,hB,k1,k2,hwl,ES,IL]
    refine AAm ?_
    simp only[go_sem,ae,hA,hB,k1,k2,hwl]
    exact AEv
def UZ (p:DPred):List Cl:=[.v (.int .i64 p.kind),.v (.int .i64 p.col),.v (.int .i64 p.op),.v (.int .i64 p.v.ty),.v (.int .i64 p.v.n),.v (.string p.v.s),.sl (p.l.map DPred.c)]
@[go_sem] theorem AGj (p:DPred):UZ p = [.v (.int .i64 p.kind),.v (.int .i64 p.col),.v (.int .i64 p.op),.v (.int .i64 p.v.ty),.v (.int .i64 p.v.n),.v (.string p.v.s),.sl (p.l.map DPred.c)]:=rfl
def Ua (c:Int) (p:DPred):List Cl:=[.v (.int .i64 p.kind),.v (.int .i64 c),.v (.int .i64 p.op),.v (.int .i64 p.v.ty),.v (.int .i64 p.v.n),.v (.string p.v.s),.sl (p.l.map DPred.c)]
@[go_sem] theorem AF6 (c:Int) (p:DPred):Ua c p = [.v (.int .i64 p.kind),.v (.int .i64 c),.v (.int .i64 p.op),.v (.int .i64 p.v.ty),.v (.int .i64 p.v.n),.v (.string p.v.s),.sl (p.l.map DPred.c)]:=rfl
def D9 (cs:List Int) (d:Nat) (p:DPred):Int:=if I_ cs d p=true then(Cc d p:Int) else -1
theorem zD {cs:List Int} {d:Nat} {p:DPred} (h:FM cs p=false):D9 cs (d+1) p = -1:=by simp[D9,I_,h]
theorem AAt (cs:List Int) (hc:cs.length≤1048576) (d:Nat) (p:DPred) (hd:d+1≤4) (hlen:p.l.length≤1048576) (hx:∀ x∈p.l,Ctr prog 397 [.c (.sl (cs.map intC)),.agg x.c,.c (.v (.int .i64 (d)))] [.val (.c (.v (.int .i64 (D9 cs d x))))]):Ctr prog 397 [.c (.sl (cs.map intC)),.agg p.c,.c (.v (.int .i64 ((d+1:Nat))))] [.val (.c (.v (.int .i64 (D9 cs (d+1) p))))]:=by
 refine CM call397 func397 ntmps397 results397 fun hw=>?_
 have h1:decide (((d+1:Nat):Int)<1)=false:=AOS
 have hdw:IntKind.i64.wrap (((d+1:Nat):Int)-1)=(d:Int):=AOW
 have hin:Ad p.col 0 ((cs.length:Int)-1)=true→∃ m:Nat,p.col=m∧m<cs.length:=by
  intro hh
  simp[Ad] at hh
  exact⟨p.col.toNat,AOQ,AOQ⟩
 have hwl:IntKind.i64.wrap ((cs.length:Int)-1)=(cs.length:Int)-1:=wrap_i64 AOQ AOQ
 rcases hl4:decide ((p.l.length:Int)>4) with _ | _
 rotate_left
 ·have hno:FM cs p=false:=by
   rcases h:FM cs p with _ | _
   ·rfl
   ·have:=jK h; simp at hl4; omega
  rw[zD hno]
  simp only[go_sem,ae,h1,hl4]
 rcases hs:FM cs p with _ | _
 ·rw[zD hs]
  rcases k1:(p.kind==1) with _ | _
  rotate_left
  ·have hs1:(EE p&&((p.l.length:Int)==0))=false:=by simpa [FM,k1] using hs
   rcases hA:(p.col==0) with _ | _
   ·simp only[go_sem,ae,h1,hl4,hA,k1]
   rcases hB:(p.op==0) with _ | _
   ·simp only[go_sem,ae,h1,hl4,hA,hB,k1]
   rcases hE:((p.v.ty==0)&&((p.v.n==0)&&(p.v.s.toList==ByteArray.empty.toList))) with _ | _
   ·simp only[go_sem,ae,h1,hl4,hA,hB,hE,k1,ES,IL]
   ·have hbt:EE p=true:=by simp only[EE,hA,hB,aj]; exact hE
    have hl0:((p.l.length:Int)==0)=false:=APd
    simp only[go_sem,ae,h1,hl4,hA,hB,hE,k1,ES,IL,hl0]
  rcases k2:(p.kind==2) with _ | _
  rotate_left
  ·have hs1:(JA cs p&&((p.l.length:Int)==0))=false:=by simpa [FM,k1,k2] using hs
   rcases hA:(p.col==0) with _ | _
   ·simp only[go_sem,ae,h1,hl4,hwl,hA,k1,k2,ES,IL]
    refine AAm ?_
    simp only[go_sem,ae,h1,hl4,hwl,hA,k1,k2]
    exact AEw
   rcases hB:(p.op==0) with _ | _
   ·simp only[go_sem,ae,h1,hl4,hwl,hA,hB,k1,k2,ES,IL]
    refine AAm ?_
    simp only[go_sem,ae,h1,hl4,hwl,hA,hB,k1,k2]
    exact AEw
   simp only[go_sem,ae,h1,hl4,hwl,hA,hB,k1,k2,ES,IL]
   refine AAm ?_
   simp only[go_sem,ae,h1,hl4,hwl,hA,hB,k1,k2]
   exact AEw
  rcases k3:(p.kind==3) with _ | _
  rotate_left
  ·have hs1:(EE p&&Ad p.l.length 1 4)=false:=by simpa [FM,k1,k2,k3] using hs
   rcases hA:(p.col==0) with _ | _
   ·simp only[go_sem,ae,h1,hl4,hA,k1,k2,k3]
   rcases hB:(p.op==0) with _ | _
   ·simp only[go_sem,ae,h1,hl4,hA,hB,k1,k2,k3]
   rcases hE:((p.v.ty==0)&&((p.v.n==0)&&(p.v.s.toList==ByteArray.empty.toList))) with _ | _
   ·simp only[go_sem,ae,h1,hl4,hA,hB,hE,k1,k2,k3,ES,IL]
   ·have hbt:EE p=true:=by simp only[EE,hA,hB,aj]; exact hE
    have hl0:Ad p.l.length 1 4=false:=APd
    have hl1:decide ((p.l.length:Int)≥1)=false:=by simp[Ad] at hl0 hl4 ⊢; omega
    simp only[go_sem,ae,h1,hl4,hA,hB,hE,k1,k2,k3,ES,IL,hl1]
  rcases k4:(p.kind==4) with _ | _
  rotate_left
  ·have hs1:(EE p&&Ad p.l.length 1 4)=false:=by simpa [FM,k1,k2,k3,k4] using hs
   rcases hA:(p.col==0) with _ | _
   ·simp only[go_sem,ae,h1,hl4,hA,k1,k2,k3,k4]
   rcases hB:(p.op==0) with _ | _
   ·simp only[go_sem,ae,h1,hl4,hA,hB,k1,k2,k3,k4]
   rcases hE:((p.v.ty==0)&&((p.v.n==0)&&(p.v.s.toList==ByteArray.empty.toList))) with _ | _
   ·simp only[go_sem,ae,h1,hl4,hA,hB,hE,k1,k2,k3,k4,ES,IL]
   ·have hbt:EE p=true:=by simp only[EE,hA,hB,aj]; exact hE
    have hl0:Ad p.l.length 1 4=false:=APd
    have hl1:decide ((p.l.length:Int)≥1)=false:=by simp[Ad] at hl0 hl4 ⊢; omega
    simp only[go_sem,ae,h1,hl4,hA,hB,hE,k1,k2,k3,k4,ES,IL,hl1]
  rcases k5:(p.kind==5) with _ | _
  rotate_left
  ·have hs1:(EE p&&((p.l.length:Int)==1))=false:=by simpa [FM,k1,k2,k3,k4,k5] using hs
   rcases hA:(p.col==0) with _ | _
   ·simp only[go_sem,ae,h1,hl4,hA,k1,k2,k3,k4,k5]
   rcases hB:(p.op==0) with _ | _
   ·simp only[go_sem,ae,h1,hl4,hA,hB,k1,k2,k3,k4,k5]
   rcases hE:((p.v.ty==0)&&((p.v.n==0)&&(p.v.s.toList==ByteArray.empty.toList))) with _ | _
   ·simp only[go_sem,ae,h1,hl4,hA,hB,hE,k1,k2,k3,k4,k5,ES,IL]
   ·have hbt:EE p=true:=by simp only[EE,hA,hB,aj]; exact hE
    have hl0:((p.l.length:Int)==1)=false:=APd
    simp only[go_sem,ae,h1,hl4,hA,hB,hE,k1,k2,k3,k4,k5,ES,IL,hl0]
  rcases hA:(p.col==0) with _ | _
  ·simp only[go_sem,ae,h1,hl4,hA,k1,k2,k3,k4,k5]
  rcases hB:(p.op==0) with _ | _
  ·simp only[go_sem,ae,h1,hl4,hA,hB,k1,k2,k3,k4,k5]
  simp only[go_sem,ae,h1,hl4,hA,hB,k1,k2,k3,k4,k5,ES,IL]
 ·have hbare:EE p=true→(p.col==0)=true∧(p.op==0)=true∧((p.v.ty==0)&&((p.v.n==0)&&(p.v.s.toList==ByteArray.empty.toList)))=true:=by
   intro hh
   simp only[EE,ay] at hh
   simp only[ay]
   exact hh
  have hs0:=hs
  unfold FM at hs0
  rcases k1:(p.kind==1) with _ | _
  rotate_left
  ·have hs1:(EE p&&((p.l.length:Int)==0))=true:=by simpa [k1] using hs0
   rw[ay] at hs1
   obtain⟨hA,hB,hE⟩:=hbare hs1.1
   have hl0:=hs1.2
   simp only[go_sem,ae,h1,hl4,k1,hA,hB,hE,hl0,ES,IL]
   refine ABK 1 (A:=Nat×Nat) (fun x=>[(9,.c (.v (.int .i64 (x.2)))),(105,.c (.v (.int .i64 (x.1))))]) (fun _=>[⟨67,7,[UZ p],true,true⟩]) (fun x=>x.1≤p.l.length∧((p.l.drop x.1).all fun q=>I_ cs d q)=(p.l.all fun q=>I_ cs d q)∧x.2+((p.l.drop x.1).map fun q=>Cc d q).sum=1+(p.l.map fun q=>Cc d q).sum∧x.2≤1+100*x.1) (fun x=>p.l.length-x.1) (0,1) ⟨⟨rfl,rfl⟩,rfl,aA _,rfl,rfl,AOR⟩ ?_
   exact AET
  rcases k2:(p.kind==2) with _ | _
  rotate_left
  ·have hs1:(JA cs p&&((p.l.length:Int)==0))=true:=by simpa [k1,k2] using hs0
   rw[ay] at hs1
   have hl0:=hs1.2
   have hs2:=hs1.1
   simp only[JA,ay] at hs2
   obtain⟨c1,c4,c2,c3⟩:=hs2
   obtain⟨m,hm,hml⟩:=hin c1
   have hgm:(cs[p.col.toNat]?).getD 0=cs[m]:=by rw[hm]; simp[hml]
   rw[hgm] at c3
   have c1':=c1
   rw[hm] at c1'
   have fin:∀ P:Prop,P→P:=fun _ h=>h
   rcases hA:(p.col==0) with _ | _
   ·simp only[go_sem,ae,h1,hl4,hwl,hA,k1,k2,ES,IL]
    refine AAm ?_
    simp only[go_sem,ae,h1,hl4,hwl,hA,k1,k2]
    refine ABL _ (AL p.col 0 _) ?_
    simp only[go_sem,ae,h1,hl4,hwl,k1,k2,c1]
    refine ABL _ (AL p.op 1 6) ?_
    simp only[go_sem,ae,h1,hl4,hwl,k1,k2,c1,c4]
    refine CY (Dz p.v) ?_
    simp only[go_sem,ae,h1,hl4,hwl,k1,k2,c1,c2,c3,c4,hm,AA _ hml,hml,hl0]
    refine ABK 1 (A:=Nat×Nat) (fun x=>[(9,.c (.v (.int .i64 (x.2)))),(105,.c (.v (.int .i64 (x.1))))]) (fun _=>[⟨67,7,[Ua m p],true,true⟩]) (fun x=>x.1≤p.l.length∧((p.l.drop x.1).all fun q=>I_ cs d q)=(p.l.all fun q=>I_ cs d q)∧x.2+((p.l.drop x.1).map fun q=>Cc d q).sum=1+(p.l.map fun q=>Cc d q).sum∧x.2≤1+100*x.1) (fun x=>p.l.length-x.1) (0,1) ⟨⟨rfl,rfl⟩,rfl,aA _,rfl,rfl,AOR⟩ ?_
    exact AET
   rcases hB:(p.op==0) with _ | _
   ·simp only[go_sem,ae,h1,hl4,hwl,hA,hB,k1,k2,ES,IL]
    refine AAm ?_
    simp only[go_sem,ae,h1,hl4,hwl,hA,hB,k1,k2]
    refine ABL _ (AL p.col 0 _) ?_
    simp only[go_sem,ae,h1,hl4,hwl,k1,k2,c1]
    refine ABL _ (AL p.op 1 6) ?_
    simp only[go_sem,ae,h1,hl4,hwl,k1,k2,c1,c4]
    refine CY (Dz p.v) ?_
    simp only[go_sem,ae,h1,hl4,hwl,k1,k2,c1,c2,c3,c4,hm,AA _ hml,hml,hl0]
    refine ABK 1 (A:=Nat×Nat) (fun x=>[(9,.c (.v (.int .i64 (x.2)))),(105,.c (.v (.int .i64 (x.1))))]) (fun _=>[⟨67,7,[Ua m p],true,true⟩]) (fun x=>x.1≤p.l.length∧((p.l.drop x.1).all fun q=>I_ cs d q)=(p.l.all fun q=>I_ cs d q)∧x.2+((p.l.drop x.1).map fun q=>Cc d q).sum=1+(p.l.map fun q=>Cc d q).sum∧x.2≤1+100*x.1) (fun x=>p.l.length-x.1) (0,1) ⟨⟨rfl,rfl⟩,rfl,aA _,rfl,rfl,AOR⟩ ?_
    exact AET
   simp only[go_sem,ae,h1,hl4,hwl,hA,hB,k1,k2,ES,IL]
   refine AAm ?_
   simp only[go_sem,ae,h1,hl4,hwl,hA,hB,k1,k2]
   refine ABL _ (AL p.col 0 _) ?_
   simp only[go_sem,ae,h1,hl4,hwl,k1,k2,c1]
   refine ABL _ (AL p.op 1 6) ?_
   simp only[go_sem,ae,h1,hl4,hwl,k1,k2,c1,c4]
   refine CY (Dz p.v) ?_
   simp only[go_sem,ae,h1,hl4,hwl,k1,k2,c1,c2,c3,c4,hm,AA _ hml,hml,hl0]
   refine ABK 1 (A:=Nat×Nat) (fun x=>[(9,.c (.v (.int .i64 (x.2)))),(105,.c (.v (.int .i64 (x.1))))]) (fun _=>[⟨67,7,[Ua m p],true,true⟩]) (fun x=>x.1≤p.l.length∧((p.l.drop x.1).all fun q=>I_ cs d q)=(p.l.all fun q=>I_ cs d q)∧x.2+((p.l.drop x.1).map fun q=>Cc d q).sum=1+(p.l.map fun q=>Cc d q).sum∧x.2≤1+100*x.1) (fun x=>p.l.length-x.1) (0,1) ⟨⟨rfl,rfl⟩,rfl,aA _,rfl,rfl,AOR⟩ ?_
   exact AET
  rcases k3:(p.kind==3) with _ | _
  rotate_left
  ·have hs1:(EE p&&Ad p.l.length 1 4)=true:=by simpa [k1,k2,k3] using hs0
   rw[ay] at hs1
   obtain⟨hA,hB,hE⟩:=hbare hs1.1
   have hl0:=hs1.2
   have hl1:decide ((p.l.length:Int)≥1)=true:=by simp[Ad] at hl0 ⊢; omega
   simp only[go_sem,ae,h1,hl4,k1,k2,k3,hA,hB,hE,hl1,ES,IL]
   refine ABK 1 (A:=Nat×Nat) (fun x=>[(9,.c (.v (.int .i64 (x.2)))),(105,.c (.v (.int .i64 (x.1))))]) (fun _=>[⟨67,7,[UZ p],true,true⟩]) (fun x=>x.1≤p.l.length∧((p.l.drop x.1).all fun q=>I_ cs d q)=(p.l.all fun q=>I_ cs d q)∧x.2+((p.l.drop x.1).map fun q=>Cc d q).sum=1+(p.l.map fun q=>Cc d q).sum∧x.2≤1+100*x.1) (fun x=>p.l.length-x.1) (0,1) ⟨⟨rfl,rfl⟩,rfl,aA _,rfl,rfl,AOR⟩ ?_
   exact AET
  rcases k4:(p.kind==4) with _ | _
  rotate_left
  ·have hs1:(EE p&&Ad p.l.length 1 4)=true:=by simpa [k1,k2,k3,k4] using hs0
   rw[ay] at hs1
   obtain⟨hA,hB,hE⟩:=hbare hs1.1
   have hl0:=hs1.2
   have hl1:decide ((p.l.length:Int)≥1)=true:=by simp[Ad] at hl0 ⊢; omega
   simp only[go_sem,ae,h1,hl4,k1,k2,k3,k4,hA,hB,hE,hl1,ES,IL]
   refine ABK 1 (A:=Nat×Nat) (fun x=>[(9,.c (.v (.int .i64 (x.2)))),(105,.c (.v (.int .i64 (x.1))))]) (fun _=>[⟨67,7,[UZ p],true,true⟩]) (fun x=>x.1≤p.l.length∧((p.l.drop x.1).all fun q=>I_ cs d q)=(p.l.all fun q=>I_ cs d q)∧x.2+((p.l.drop x.1).map fun q=>Cc d q).sum=1+(p.l.map fun q=>Cc d q).sum∧x.2≤1+100*x.1) (fun x=>p.l.length-x.1) (0,1) ⟨⟨rfl,rfl⟩,rfl,aA _,rfl,rfl,AOR⟩ ?_
   exact AET
  rcases k5:(p.kind==5) with _ | _
  rotate_left
  ·have hs1:(EE p&&((p.l.length:Int)==1))=true:=by simpa [k1,k2,k3,k4,k5] using hs0
   rw[ay] at hs1
   obtain⟨hA,hB,hE⟩:=hbare hs1.1
   have hl0:=hs1.2
   simp only[go_sem,ae,h1,hl4,k1,k2,k3,k4,k5,hA,hB,hE,hl0,ES,IL]
   refine ABK 1 (A:=Nat×Nat) (fun x=>[(9,.c (.v (.int .i64 (x.2)))),(105,.c (.v (.int .i64 (x.1))))]) (fun _=>[⟨67,7,[UZ p],true,true⟩]) (fun x=>x.1≤p.l.length∧((p.l.drop x.1).all fun q=>I_ cs d q)=(p.l.all fun q=>I_ cs d q)∧x.2+((p.l.drop x.1).map fun q=>Cc d q).sum=1+(p.l.map fun q=>Cc d q).sum∧x.2≤1+100*x.1) (fun x=>p.l.length-x.1) (0,1) ⟨⟨rfl,rfl⟩,rfl,aA _,rfl,rfl,AOR⟩ ?_
   exact AET
  simp[k1,k2,k3,k4,k5] at hs0
theorem XU (cs:List Int) (hc:cs.length≤1048576):∀ (d:Nat) (p:DPred),d≤4→BD p→Ctr prog 397 [.c (.sl (cs.map intC)),.agg p.c,.c (.v (.int .i64 (d)))] [.val (.c (.v (.int .i64 (D9 cs d p))))]
 | 0,p,_,_=>by
  refine CM call397 func397 ntmps397 results397 fun hw=>?_
  have e1:D9 cs 0 p = -1:=by simp[D9,I_]
  have h1:decide (((0:Nat):Int)<1)=true:=AOU
  rw[e1]
  simp only[go_sem,ae,h1]
 | d+1,p,hd,hf=>by
  rw[Bg] at hf
  exact AAt cs hc d p hd hf.2.1 fun x hx=>XU cs hc d x AOQ (hf.2.2 x hx)
def NF (cs:List Int) (p:DPred):Bool:=FT cs&&(I_ cs 4 p&&decide ((Cc 4 p:Int)≤8))
theorem kY (cs:List Int) (p:DPred) (hc:cs.length≤1048576) (hp:BD p):Ctr prog 351 [.c (.sl (cs.map intC)),.agg p.c] [.val (.c (.v (.bool (NF cs p))))]:=by
 refine CM call351 func351 ntmps351 results351 fun hw=>?_
 simp only[go_sem,ae]
 refine AAM _ (PI cs) fun _=>?_
 rcases h1:FT cs with _ | _
 ·simp only[go_sem,NF,h1,ag]
 simp only[go_sem,h1]
 refine CW (TZ cs hc 4 1 p AOU AOU hp) fun _=>?_
 rcases h2:I_ cs 4 p with _ | _
 ·simp only[go_sem,NF,h1,h2,ag,aK]
 simp only[go_sem,h1,h2]
 refine CW (QW cs 4 p AOU hp h2) fun _=>?_
 simp only[go_sem,NF,h1,h2,aj]
theorem kZ (cs:List Int) (p:DPred) (hc:cs.length≤1048576) (hp:BD p):Ctr prog 362 [.c (.sl (cs.map intC)),.agg p.c] [.val (.c (.v (.bool (NF cs p))))]:=by
 refine CM call362 func362 ntmps362 results362 fun hw=>?_
 simp only[go_sem,ae]
 refine AAM _ (PK cs) fun _=>?_
 rcases h1:FT cs with _ | _
 ·simp only[go_sem,NF,h1,ag]
 simp only[go_sem,h1]
 refine AAM _ (by have:=XU cs hc 4 p AOU hp; rw[show ((4:Nat):Int)=4 from rfl] at this; simpa only[go_sem] using this) fun _=>?_
 simp only[go_sem,h1]
 refine AAM _ (AL _ _ _) fun _=>?_
 have:Ad (D9 cs 4 p) 1 8=NF cs p:=by
  unfold NF D9
  rw[h1]
  rcases h2:I_ cs 4 p with _ | _
  ·rfl
  ·have:1≤Cc 4 p:=ACW 3 p
   simp[Ad]
   omega
 simp only[go_sem,this]
def AEa (q:DQuery):List Cl:=[.v (.int .i64 q.kind),.v (.int .i64 q.p.kind),.v (.int .i64 q.p.col),.v (.int .i64 q.p.op),.v (.int .i64 q.p.v.ty),.v (.int .i64 q.p.v.n),.v (.string q.p.v.s),.sl (q.p.l.map DPred.c),.v (.int .i64 q.col),.sl (q.out.map intC)]
@[go_sem] theorem AJu (q:DQuery):AEa q = [.v (.int .i64 q.kind),.v (.int .i64 q.p.kind),.v (.int .i64 q.p.col),.v (.int .i64 q.p.op),.v (.int .i64 q.p.v.ty),.v (.int .i64 q.p.v.n),.v (.string q.p.v.s),.sl (q.p.l.map DPred.c),.v (.int .i64 q.col),.sl (q.out.map intC)]:=rfl
def L_ (cs:List Int) (l:List Int):Bool:=l.all fun k=>Ad k 0 ((cs.length:Int)-1)
def Bz (cs:List Int) (q:DQuery):Bool:=
 NF cs q.p&&(if(q.kind==1)=true then L_ cs q.out&&((q.col==0)&&Ad q.out.length 1 3) else
  if(q.kind==2)=true then(q.col==0)&&((q.out.length:Int)==0) else
  if(q.kind==3)=true then Ad q.col 0 ((cs.length:Int)-1)&&(((cs[q.col.toNat]?).getD 0==1)&&((q.out.length:Int)==0)) else
  if(q.kind==4)=true then Ad q.col 0 ((cs.length:Int)-1)&&((q.out.length:Int)==0) else
  if(q.kind==5)=true then Ad q.col 0 ((cs.length:Int)-1)&&((q.out.length:Int)==0) else false)
theorem Tc (cs:List Int) (l:List Int) {k:Nat} (h:k<l.length):L_ cs (l.drop k)=(Ad l[k] 0 ((cs.length:Int)-1)&&L_ cs (l.drop (k+1))):=by
 unfold L_
 grind [aG]
theorem TF (cs:List Int) (q:DQuery) (hc:cs.length≤1048576) (hq:Eh q):Ctr prog 298 [.c (.sl (cs.map intC)),.agg q.c] [.val (.c (.v (.bool (Bz cs q))))]:=by
 rw[GI] at hq
 have hol:=hq.2
 have hwl:IntKind.i64.wrap ((cs.length:Int)-1)=(cs.length:Int)-1:=wrap_i64 AOQ AOQ
 have hin:Ad q.col 0 ((cs.length:Int)-1)=true→∃ m:Nat,q.col=m∧m<cs.length:=by
  intro hh
  simp[Ad] at hh
  exact⟨q.col.toNat,AOQ,AOQ⟩
 refine CM call298 func298 ntmps298 results298 fun hw=>?_
 simp only[go_sem,ae]
 refine CW (kY cs q.p hc hq.1) fun _=>?_
 rcases h1:NF cs q.p with _ | _
 ·simp only[go_sem,Bz,h1,ag]
 rcases k1:(q.kind==1) with _ | _
 rotate_left
 ·have hr:Bz cs q=(L_ cs q.out&&((q.col==0)&&Ad q.out.length 1 3)):=by simp[Bz,h1,k1]
  rw[hr]
  simp only[go_sem,ae,h1,k1]
  refine ABK 1 (A:=Nat) (fun k=>[(5,.c (.v (.int .i64 (k))))]) (fun _=>[⟨69,10,[AEa q],true,true⟩]) (fun k=>k≤q.out.length∧L_ cs (q.out.drop k)=L_ cs q.out) (fun k=>q.out.length-k) 0 ⟨⟨rfl,rfl⟩,rfl,aA _,rfl⟩ ?_
  rintro k ⟨hk,hb⟩
  refine AOK (fun h=>?_) fun h=>?_
  ·have hk':k<q.out.length:=by simpa using h
   rw[Tc cs q.out hk'] at hb
   simp only[go_sem,ae,AA _ hk',hk',hwl]
   refine AAM _ (AO q.out[k] 0 _) fun _=>?_
   rcases hv:Ad q.out[k] 0 ((cs.length:Int)-1) with _ | _
   ·rw[hv,ag] at hb
    simp only[go_sem,ae,hv,← hb,ag]
   ·rw[hv,aj] at hb
    simp only[go_sem,ae,hv,wrap_i64 (n:=(k:Int)+1) AOQ AOQ]
    exact⟨k+1,⟨rfl,rfl⟩,rfl,⟨AOQ,hb⟩,AOQ⟩
  ·have hk':k=q.out.length:=by simp at h; omega
   rw[hk',aY] at hb
   have hb':L_ cs q.out=true:=by rw[← hb]; rfl
   rw[hb',aj]
   rcases hA:(q.col==0) with _ | _
   ·simp only[go_sem,ae,hA,ag]
   ·simp only[go_sem,ae,hA,aj]
    refine AAM _ (AO q.out.length 1 3) fun _=>?_
    simp only[go_sem,ae,hA,aj]
 rcases k2:(q.kind==2) with _ | _
 rotate_left
 ·have hr:Bz cs q=((q.col==0)&&((q.out.length:Int)==0)):=by simp[Bz,h1,k1,k2]
  rw[hr]
  rcases hA:(q.col==0) with _ | _
  ·simp only[go_sem,ae,h1,k1,k2,hA,ag]
  ·simp only[go_sem,ae,h1,k1,k2,hA,aj]
 rcases k3:(q.kind==3) with _ | _
 rotate_left
 ·have hr:Bz cs q=(Ad q.col 0 ((cs.length:Int)-1)&&(((cs[q.col.toNat]?).getD 0==1)&&((q.out.length:Int)==0))):=by simp[Bz,h1,k1,k2,k3]
  rw[hr]
  simp only[go_sem,ae,h1,k1,k2,k3,hwl]
  refine AAM _ (AO q.col 0 _) fun _=>?_
  rcases c1:Ad q.col 0 ((cs.length:Int)-1) with _ | _
  ·simp only[go_sem,ae,c1,ag]
  obtain⟨m,hm,hml⟩:=hin c1
  have hgm:(cs[q.col.toNat]?).getD 0=cs[m]:=by rw[hm]; simp[hml]
  rw[hgm]
  rcases c2:(cs[m]==1) with _ | _
  ·simp only[go_sem,ae,c1,c2,hm,AA _ hml,hml,aj,ag]
  ·simp only[go_sem,ae,c1,c2,hm,AA _ hml,hml,aj]
 rcases k4:(q.kind==4) with _ | _
 rotate_left
 ·have hr:Bz cs q=(Ad q.col 0 ((cs.length:Int)-1)&&((q.out.length:Int)==0)):=by simp[Bz,h1,k1,k2,k3,k4]
  rw[hr]
  simp only[go_sem,ae,h1,k1,k2,k3,k4,hwl]
  exact AMa
 rcases k5:(q.kind==5) with _ | _
 rotate_left
 ·have hr:Bz cs q=(Ad q.col 0 ((cs.length:Int)-1)&&((q.out.length:Int)==0)):=by simp[Bz,h1,k1,k2,k3,k4,k5]
  rw[hr]
  simp only[go_sem,ae,h1,k1,k2,k3,k4,k5,hwl]
  exact AMa
 have hr:Bz cs q=false:=by simp[Bz,h1,k1,k2,k3,k4,k5]
 rw[hr]
 simp only[go_sem,ae,h1,k1,k2,k3,k4,k5]
theorem TG (cs:List Int) (q:DQuery) (hc:cs.length≤1048576) (hq:Eh q):Ctr prog 311 [.c (.sl (cs.map intC)),.agg q.c] [.val (.c (.v (.bool (Bz cs q))))]:=by
 rw[GI] at hq
 have hol:=hq.2
 have hwl:IntKind.i64.wrap ((cs.length:Int)-1)=(cs.length:Int)-1:=wrap_i64 AOQ AOQ
 have hin:Ad q.col 0 ((cs.length:Int)-1)=true→∃ m:Nat,q.col=m∧m<cs.length:=by
  intro hh
  simp[Ad] at hh
  exact⟨q.col.toNat,AOQ,AOQ⟩
 refine CM call311 func311 ntmps311 results311 fun hw=>?_
 simp only[go_sem,ae]
 refine CW (kZ cs q.p hc hq.1) fun _=>?_
 rcases h1:NF cs q.p with _ | _
 ·simp only[go_sem,Bz,h1,ag]
 simp only[go_sem,ae,h1,hwl]
 refine AAM _ (AL q.col 0 _) fun _=>?_
 rcases c1:Ad q.col 0 ((cs.length:Int)-1) with _ | _
 ·rcases k1:(q.kind==1) with _ | _
  rotate_left
  ·exact AGK
  rcases k2:(q.kind==2) with _ | _
  rotate_left
  ·exact ALg
  have hr:Bz cs q=false:=by simp[Bz,h1,k1,k2,c1]
  rw[hr]
  rcases k3:(q.kind==3) with _ | _
  rotate_left
  ·simp only[go_sem,ae,h1,c1,k1,k2,k3]
  rcases k4:(q.kind==4) with _ | _
  rotate_left
  ·simp only[go_sem,ae,h1,c1,k1,k2,k3,k4]
  rcases k5:(q.kind==5) with _ | _
  rotate_left
  ·exact AMx
  exact AMx
 ·rcases k1:(q.kind==1) with _ | _
  rotate_left
  ·exact AGK
  rcases k2:(q.kind==2) with _ | _
  rotate_left
  ·exact ALg
  rcases k3:(q.kind==3) with _ | _
  rotate_left
  ·obtain⟨m,hm,hml⟩:=hin c1
   have hgm:(cs[q.col.toNat]?).getD 0=cs[m]:=by rw[hm]; simp[hml]
   have hr:Bz cs q=((cs[m]==1)&&((q.out.length:Int)==0)):=by simp only[Bz,h1,k1,k2,k3,c1,hgm]; rfl
   rw[hr]
   rcases c2:((q.out.length:Int)==0) with _ | _
   ·simp only[go_sem,ae,h1,c1,c2,k1,k2,k3,aK]
   ·simp only[go_sem,ae,h1,c1,c2,k1,k2,k3,hm,AA _ hml,hml,aN]
  have hr2:(q.kind==4)=true∨(q.kind==5)=true→Bz cs q=((q.out.length:Int)==0):=by
   intro h45
   rcases h45 with h45 | h45
   ·simp[Bz,h1,k1,k2,k3,h45,c1]
   ·simp[Bz,h1,k1,k2,k3,h45,c1]
  rcases k4:(q.kind==4) with _ | _
  rotate_left
  ·rw[hr2 (.inl k4)]
   simp only[go_sem,ae,h1,c1,k1,k2,k3,k4]
  rcases k5:(q.kind==5) with _ | _
  rotate_left
  ·rw[hr2 (.inr k5)]
   exact AMx
  have hr:Bz cs q=false:=by simp[Bz,h1,k1,k2,k3,k4,k5]
  rw[hr]
  exact AMx
end Go.Proofs.YtnoldekcdlaahaaGreat
