/- A part. -/
import Derived.Test.YtnoldekcdlaahaaGreatAa
set_option linter.unusedSimpArgs false
set_option linter.unusedVariables false
set_option maxHeartbeats 2000000
set_option maxRecDepth 10000
open Go.Proofs.Tryz
namespace Go.Proofs.YtnoldekcdlaahaaGreat
open Go.Vm
def AI8 (z:DVal×DVal):List Cl:=z.1.c++z.2.c
@[go_sem] theorem AI9 (z:DVal×DVal):AI8 z=z.1.c++z.2.c:=rfl
def D9 (p:DPred):Bool:=(p.col==0)&&((p.op==0)&&((p.v.ty==0)&&((p.v.n==0)&&(p.v.s.toList==ByteArray.empty.toList))))
def JB (cs:List Int) (p:DPred):Bool:=Aa p.col 0 ((cs.length:Int)-1)&&(Aa p.op 1 6&&(BK p.v&&(p.v.ty==(cs[p.col.toNat]?).getD 0)))
def E_ (cs:List Int) (p:DPred):Bool:=
 if(p.kind==1)=true then D9 p&&((p.l.length:Int)==0) else
 if(p.kind==2)=true then JB cs p&&((p.l.length:Int)==0) else
 if(p.kind==3)=true then D9 p&&Aa p.l.length 1 4 else
 if(p.kind==4)=true then D9 p&&Aa p.l.length 1 4 else
 if(p.kind==5)=true then D9 p&&((p.l.length:Int)==1) else false
def JA (cs:List Int):Nat→DPred→Bool
 | 0,_=>false
 | d+1,p=>(p.l.all fun q=>JA cs d q)&&E_ cs p
def CO:Nat→DPred→Nat
 | 0,_=>0
 | d+1,p=>1+(p.l.map fun q=>CO d q).sum
theorem jq {cs:List Int} {p:DPred} (h:E_ cs p=true):p.l.length≤4:=by
 unfold E_ at h
 by_cases hl:p.l.length≤4
 ·exact hl
 have e1:((p.l.length:Int)==0)=false:=by simp; intro h0; simp[h0] at hl
 have e2:Aa p.l.length 1 4=false:=AQB
 have e3:((p.l.length:Int)==1)=false:=AOj
 rw[e1,e2,e3] at h
 repeat' split at h
 all_goals simp at h
theorem MO {cs:List Int}:∀ (d:Nat) (p:DPred),JA cs d p=true→3*CO d p+1≤4 ^ d
 | 0,p,h=>by simp[JA] at h
 | d+1,p,h=>by
  rw[JA,ay] at h
  have hl:=jq h.2
  have hs:∀ l:List DPred,(l.all fun q=>JA cs d q)=true→3*(l.map fun q=>CO d q).sum+l.length≤l.length*4 ^ d:=by
   intro l
   induction l with
   | nil=>intro _; simp
   | cons x l ih =>
    intro hx
    rw[bC,ay] at hx
    have h1:=MO d x hx.1
    have h2:=ih hx.2
    simp only[YG,List.sum_cons,df,jH,Nat.one_mul]
    omega
  have h1:=hs p.l h.1
  have h2:p.l.length*(4 ^ d-1)≤4*(4 ^ d-1):=aaw _ hl
  have h3:0<4 ^ d:=Nat.pow_pos AOh
  rw[Nat.mul_sub,Nat.mul_sub] at h2
  rw[CO,Nat.pow_succ]
  omega
theorem ADB (d:Nat) (p:DPred):1≤CO (d+1) p:=by rw[CO]; omega
theorem LU (d:Nat) (l:List DPred) {k:Nat} (h:k<l.length):((l.drop k).map fun q=>CO d q).sum=CO d l[k]+((l.drop (k+1)).map fun q=>CO d q).sum:=by
 rw[aG h]; rfl
theorem LV (cs:List Int) (d:Nat) (l:List DPred) {k:Nat} (h:k<l.length):((l.drop k).all fun q=>JA cs d q)=(JA cs d l[k]&&(l.drop (k+1)).all fun q=>JA cs d q):=by
 rw[aG h]; rfl
theorem Qo (cs:List Int):∀ (d:Nat) (p:DPred),d≤4→A_ p→JA cs d p=true→Ctr prog 389 [.agg p.c] [.val (.c (.v (.int .i64 (CO d p))))]
 | 0,p,_,_,h=>by simp[JA] at h
 | d+1,p,hd,hf,h=>by
  have hcb:=MO _ p h
  have hpw:4 ^ (d+1)≤4 ^ 4:=aax AOh hd
  rw[JA,ay] at h
  rw[CO] at hcb ⊢
  rw[BP] at hf
  have hlen:=hf.2.1
  refine CM call389 func389 ntmps389 results389 fun hw=>?_
  simp only[go_sem,ae]
  refine AB4 1 (A:=Nat×Nat) (fun x=>[(3,.c (.v (.int .i64 (x.2)))),(4,.c (.v (.int .i64 (x.1))))]) (fun _=>[⟨67,7,[[.v (.int .i64 p.kind),.v (.int .i64 p.col),.v (.int .i64 p.op),.v (.int .i64 p.v.ty),.v (.int .i64 p.v.n),.v (.string p.v.s),.sl (p.l.map DPred.c)]],true,true⟩]) (fun x=>x.1≤p.l.length∧x.2+((p.l.drop x.1).map fun q=>CO d q).sum=1+(p.l.map fun q=>CO d q).sum) (fun x=>p.l.length-x.1) (0,1) ⟨⟨rfl,rfl⟩,rfl,az _,rfl⟩ ?_
  rintro⟨k,n⟩ ⟨hk,hb⟩
  dsimp only at hk hb
  simp only[go_sem,ae]
  refine AA0 (fun h2=>?_) (fun h2=>?_)
  ·have hk':k<p.l.length:=by simpa using h2
   have hok:JA cs d p.l[k]=true:=aP.1 h.1 _ (ax hk')
   rw[LU d p.l hk'] at hb
   have hw1:IntKind.i64.wrap ((n:Int)+(CO d p.l[k]:Int))=((n+CO d p.l[k]:Nat):Int):=AOm
   simp only[go_sem,ae,AA _ hk',hk']
   try refine AAm ?_
   try simp only[go_sem,ae,AA _ hk',hk']
   first | refine AB5 _ (by simpa only[go_sem] using Qo cs d p.l[k] AOh (hf.2.2 _ (ax hk')) hok) ?_ | refine AAT _ (by simpa only[go_sem] using Qo cs d p.l[k] AOh (hf.2.2 _ (ax hk')) hok) fun _=>?_
   simp only[go_sem,ae,hw1,wrap_i64 (n:=(k:Int)+1) AOh AOh]
   exact⟨(k+1,n+CO d p.l[k]),⟨rfl,rfl⟩,rfl,⟨AOh,AOl⟩,AOl⟩
  ·have hk':k=p.l.length:=by simp at h2; omega
   subst hk'
   rw[aV] at hb
   have:n=1+(p.l.map fun q=>CO d q).sum:=APO
   subst this
   exact AIk
theorem UE (cs:List Int) (hc:cs.length≤1048576):∀ (d:Nat) (e:Int) (p:DPred),e+d=5→d≤4→A_ p→Ctr prog 388 [.c (.sl (cs.map intC)),.agg p.c,.c (.v (.int .i64 (e)))] [.val (.c (.v (.bool (JA cs d p))))]
 | 0,e,p,he,_,_=>by
  refine CM call388 func388 ntmps388 results388 fun hw=>?_
  have h1:decide (e>4)=true:=AOj
  simp only[go_sem,ae,h1,JA]
 | d+1,e,p,he,hd,hf=>by
  rw[BP] at hf
  have hlen:=hf.2.1
  rw[JA]
  refine CM call388 func388 ntmps388 results388 fun hw=>?_
  have h1:decide (e>4)=false:=AOj
  simp only[go_sem,ae,h1]
  refine AB4 1 (A:=Nat) (fun k=>[(7,.c (.v (.int .i64 (k))))]) (fun _=>[⟨67,7,[[.v (.int .i64 p.kind),.v (.int .i64 p.col),.v (.int .i64 p.op),.v (.int .i64 p.v.ty),.v (.int .i64 p.v.n),.v (.string p.v.s),.sl (p.l.map DPred.c)]],true,true⟩]) (fun k=>k≤p.l.length∧((p.l.drop k).all fun q=>JA cs d q)=(p.l.all fun q=>JA cs d q)) (fun k=>p.l.length-k) 0 ⟨⟨rfl,rfl⟩,rfl,az _,rfl⟩ ?_
  rintro k ⟨hk,hb⟩
  simp only[go_sem,ae]
  refine AA0 (fun h2=>?_) (fun h2=>?_)
  ·have hk':k<p.l.length:=by simpa using h2
   rw[LV cs d p.l hk'] at hb
   simp only[go_sem,ae,AA _ hk',hk',wrap_i64 (n:=e+1) AOh AOh]
   try refine AAm ?_
   try simp only[go_sem,ae,AA _ hk',hk',wrap_i64 (n:=e+1) AOh AOh]
   first | refine AB5 _ (by simpa only[go_sem] using UE cs hc d (e+1) p.l[k] AOh AOh (hf.2.2 _ (ax hk'))) ?_ | refine AAT _ (by simpa only[go_sem] using UE cs hc d (e+1) p.l[k] AOh AOh (hf.2.2 _ (ax hk'))) fun _=>?_
   rcases hv:JA cs d p.l[k] with _ | _
   ·rw[hv,ai] at hb
    simp only[go_sem,hv]
    rw[← hb,ai]
   ·rw[hv,aj] at hb
    simp only[go_sem,hv,wrap_i64 (n:=(k:Int)+1) AOh AOh]
    exact⟨k+1,⟨rfl,rfl⟩,rfl,⟨AOh,hb⟩,AOh⟩
  ·have hk':k=p.l.length:=by simp at h2; omega
   rw[hk',aV,bU] at hb
   rw[← hb,aj]
   clear hb
   have hin:Aa p.col 0 ((cs.length:Int)-1)=true→∃ m:Nat,p.col=m∧m<cs.length:=by
    intro hh
    simp[Aa] at hh
    exact⟨p.col.toNat,AOh,AOh⟩
   have hwl:IntKind.i64.wrap ((cs.length:Int)-1)=(cs.length:Int)-1:=wrap_i64 AOh AOh
   rcases k2:(p.kind==2) with _ | _
   ·rcases k1:(p.kind==1) with _ | _
    ·rcases k3:(p.kind==3) with _ | _
     ·rcases k4:(p.kind==4) with _ | _
      ·rcases k5:(p.kind==5) with _ | _
       ·have hsh:E_ cs p=false:=by simp[E_,k1,k2,k3,k4,k5]
        rw[hsh]
        rcases hA:(p.col==0) with _ | _
        ·simp only[go_sem,ae,hA,k1,k2,k3,k4,k5]
        rcases hB:(p.op==0) with _ | _
        ·simp only[go_sem,ae,hA,hB,k1,k2,k3,k4,k5]
        simp only[go_sem,ae,hA,hB,k1,k2,k3,k4,k5,EP,IG]
       ·have hsh:E_ cs p=(D9 p&&((p.l.length:Int)==1)):=by simp[E_,k1,k2,k3,k4,k5]
        rw[hsh]
        rcases hA:(p.col==0) with _ | _
        ·simp only[go_sem,ae,hA,k1,k2,k3,k4,k5,D9,ai]
        rcases hB:(p.op==0) with _ | _
        ·simp only[go_sem,ae,hA,hB,k1,k2,k3,k4,k5,D9,ai,aH]
        rcases hE:((p.v.ty==0)&&((p.v.n==0)&&(p.v.s.toList==ByteArray.empty.toList))) with _ | _
        all_goals simp only[go_sem,ae,hA,hB,hE,k1,k2,k3,k4,k5,EP,IG,D9,aj,ai]
      ·have hsh:E_ cs p=(D9 p&&Aa p.l.length 1 4):=by simp[E_,k1,k2,k3,k4]
       rw[hsh]
       rcases hA:(p.col==0) with _ | _
       ·simp only[go_sem,ae,hA,k1,k2,k3,k4,D9,ai]
       rcases hB:(p.op==0) with _ | _
       ·simp only[go_sem,ae,hA,hB,k1,k2,k3,k4,D9,ai,aH]
       rcases hE:((p.v.ty==0)&&((p.v.n==0)&&(p.v.s.toList==ByteArray.empty.toList))) with _ | _
       ·simp only[go_sem,ae,hA,hB,hE,k1,k2,k3,k4,EP,IG,D9,aj,ai]
       ·simp only[go_sem,ae,hA,hB,hE,k1,k2,k3,k4,EP,IG,D9,aj,ai]
        refine AAT _ (AP p.l.length 1 4) fun _=>?_
        simp only[go_sem,ae,hA,hB,hE,k1,k2,k3,k4,EP,IG,D9,aj,ai]
     ·have hsh:E_ cs p=(D9 p&&Aa p.l.length 1 4):=by simp[E_,k1,k2,k3]
      rw[hsh]
      rcases hA:(p.col==0) with _ | _
      ·simp only[go_sem,ae,hA,k1,k2,k3,D9,ai]
      rcases hB:(p.op==0) with _ | _
      ·simp only[go_sem,ae,hA,hB,k1,k2,k3,D9,ai,aH]
      rcases hE:((p.v.ty==0)&&((p.v.n==0)&&(p.v.s.toList==ByteArray.empty.toList))) with _ | _
      ·simp only[go_sem,ae,hA,hB,hE,k1,k2,k3,EP,IG,D9,aj,ai]
      ·simp only[go_sem,ae,hA,hB,hE,k1,k2,k3,EP,IG,D9,aj,ai]
       refine AAT _ (AP p.l.length 1 4) fun _=>?_
       simp only[go_sem,ae,hA,hB,hE,k1,k2,k3,EP,IG,D9,aj,ai]
    ·have hsh:E_ cs p=(D9 p&&((p.l.length:Int)==0)):=by simp[E_,k1]
     rw[hsh]
     rcases hA:(p.col==0) with _ | _
     ·simp only[go_sem,ae,hA,k1,D9,ai]
     rcases hB:(p.op==0) with _ | _
     ·simp only[go_sem,ae,hA,hB,k1,D9,ai,aH]
     rcases hE:((p.v.ty==0)&&((p.v.n==0)&&(p.v.s.toList==ByteArray.empty.toList))) with _ | _
     all_goals simp only[go_sem,ae,hA,hB,hE,k1,EP,IG,D9,aj,ai]
   ·have k1:(p.kind==1)=false:=by simp at k2 ⊢; omega
    have hsh:E_ cs p=(JB cs p&&((p.l.length:Int)==0)):=by simp[E_,k1,k2]
    rw[hsh]
    rcases hA:(p.col==0) with _ | _
    ·simp only[go_sem,ae,hA,k1,k2,hwl,EP,IG]
     refine AAm ?_
     simp only[go_sem,ae,hA,k1,k2,hwl]
     exact AFq
    rcases hB:(p.op==0) with _ | _
    ·simp only[go_sem,ae,hA,hB,k1,k2,hwl,EP,IG]
     refine AAm ?_
     simp only[go_sem,ae,hA,hB,k1,k2,hwl]
     exact AFq
    simp only[go_sem,ae,hA,hB,k1,k2,hwl,EP,IG]
    refine AAm ?_
    simp only[go_sem,ae,hA,hB,k1,k2,hwl]
    exact AFq
def Uo (p:DPred):List Cl:=[.v (.int .i64 p.kind),.v (.int .i64 p.col),.v (.int .i64 p.op),.v (.int .i64 p.v.ty),.v (.int .i64 p.v.n),.v (.string p.v.s),.sl (p.l.map DPred.c)]
@[go_sem] theorem AG_ (p:DPred):Uo p = [.v (.int .i64 p.kind),.v (.int .i64 p.col),.v (.int .i64 p.op),.v (.int .i64 p.v.ty),.v (.int .i64 p.v.n),.v (.string p.v.s),.sl (p.l.map DPred.c)]:=rfl
def Ur (c:Int) (p:DPred):List Cl:=[.v (.int .i64 p.kind),.v (.int .i64 c),.v (.int .i64 p.op),.v (.int .i64 p.v.ty),.v (.int .i64 p.v.n),.v (.string p.v.s),.sl (p.l.map DPred.c)]
@[go_sem] theorem AGT (c:Int) (p:DPred):Ur c p = [.v (.int .i64 p.kind),.v (.int .i64 c),.v (.int .i64 p.op),.v (.int .i64 p.v.ty),.v (.int .i64 p.v.n),.v (.string p.v.s),.sl (p.l.map DPred.c)]:=rfl
def D5 (cs:List Int) (d:Nat) (p:DPred):Int:=if JA cs d p=true then(CO d p:Int) else -1
theorem AAP {cs:List Int} {d:Nat} {p:DPred} (h:E_ cs p=false):D5 cs (d+1) p = -1:=by simp[D5,JA,h]
theorem ABe (cs:List Int) (hc:cs.length≤1048576) (d:Nat) (p:DPred) (hd:d+1≤4) (hlen:p.l.length≤1048576) (hx:∀ x∈p.l,Ctr prog 397 [.c (.sl (cs.map intC)),.agg x.c,.c (.v (.int .i64 (d)))] [.val (.c (.v (.int .i64 (D5 cs d x))))]):Ctr prog 397 [.c (.sl (cs.map intC)),.agg p.c,.c (.v (.int .i64 ((d+1:Nat))))] [.val (.c (.v (.int .i64 (D5 cs (d+1) p))))]:=by
 refine CM call397 func397 ntmps397 results397 fun hw=>?_
 have h1:decide (((d+1:Nat):Int)<1)=false:=AOj
 have hdw:IntKind.i64.wrap (((d+1:Nat):Int)-1)=(d:Int):=AOm
 have hin:Aa p.col 0 ((cs.length:Int)-1)=true→∃ m:Nat,p.col=m∧m<cs.length:=by
  intro hh
  simp[Aa] at hh
  exact⟨p.col.toNat,AOh,AOh⟩
 have hwl:IntKind.i64.wrap ((cs.length:Int)-1)=(cs.length:Int)-1:=wrap_i64 AOh AOh
 rcases hl4:decide ((p.l.length:Int)>4) with _ | _
 rotate_left
 ·have hno:E_ cs p=false:=by
   rcases h:E_ cs p with _ | _
   ·rfl
   ·have:=jq h; simp at hl4; omega
  rw[AAP hno]
  simp only[go_sem,ae,h1,hl4]
 rcases hs:E_ cs p with _ | _
 ·rw[AAP hs]
  rcases k1:(p.kind==1) with _ | _
  rotate_left
  ·have hs1:(D9 p&&((p.l.length:Int)==0))=false:=by simpa [E_,k1] using hs
   rcases hA:(p.col==0) with _ | _
   ·simp only[go_sem,ae,h1,hl4,hA,k1]
   rcases hB:(p.op==0) with _ | _
   ·simp only[go_sem,ae,h1,hl4,hA,hB,k1]
   rcases hE:((p.v.ty==0)&&((p.v.n==0)&&(p.v.s.toList==ByteArray.empty.toList))) with _ | _
   ·simp only[go_sem,ae,h1,hl4,hA,hB,hE,k1,EP,IG]
   ·have hbt:D9 p=true:=by simp only[D9,hA,hB,aj]; exact hE
    have hl0:((p.l.length:Int)==0)=false:=APn
    simp only[go_sem,ae,h1,hl4,hA,hB,hE,k1,EP,IG,hl0]
  rcases k2:(p.kind==2) with _ | _
  rotate_left
  ·have hs1:(JB cs p&&((p.l.length:Int)==0))=false:=by simpa [E_,k1,k2] using hs
   rcases hA:(p.col==0) with _ | _
   ·simp only[go_sem,ae,h1,hl4,hwl,hA,k1,k2,EP,IG]
    refine AAm ?_
    simp only[go_sem,ae,h1,hl4,hwl,hA,k1,k2]
    exact AGY
   rcases hB:(p.op==0) with _ | _
   ·simp only[go_sem,ae,h1,hl4,hwl,hA,hB,k1,k2,EP,IG]
    refine AAm ?_
    simp only[go_sem,ae,h1,hl4,hwl,hA,hB,k1,k2]
    exact AGY
   simp only[go_sem,ae,h1,hl4,hwl,hA,hB,k1,k2,EP,IG]
   refine AAm ?_
   simp only[go_sem,ae,h1,hl4,hwl,hA,hB,k1,k2]
   exact AGY
  rcases k3:(p.kind==3) with _ | _
  rotate_left
  ·have hs1:(D9 p&&Aa p.l.length 1 4)=false:=by simpa [E_,k1,k2,k3] using hs
   rcases hA:(p.col==0) with _ | _
   ·simp only[go_sem,ae,h1,hl4,hA,k1,k2,k3]
   rcases hB:(p.op==0) with _ | _
   ·simp only[go_sem,ae,h1,hl4,hA,hB,k1,k2,k3]
   rcases hE:((p.v.ty==0)&&((p.v.n==0)&&(p.v.s.toList==ByteArray.empty.toList))) with _ | _
   ·simp only[go_sem,ae,h1,hl4,hA,hB,hE,k1,k2,k3,EP,IG]
   ·have hbt:D9 p=true:=by simp only[D9,hA,hB,aj]; exact hE
    have hl0:Aa p.l.length 1 4=false:=APn
    have hl1:decide ((p.l.length:Int)≥1)=false:=by simp[Aa] at hl0 hl4 ⊢; omega
    simp only[go_sem,ae,h1,hl4,hA,hB,hE,k1,k2,k3,EP,IG,hl1]
  rcases k4:(p.kind==4) with _ | _
  rotate_left
  ·have hs1:(D9 p&&Aa p.l.length 1 4)=false:=by simpa [E_,k1,k2,k3,k4] using hs
   rcases hA:(p.col==0) with _ | _
   ·simp only[go_sem,ae,h1,hl4,hA,k1,k2,k3,k4]
   rcases hB:(p.op==0) with _ | _
   ·simp only[go_sem,ae,h1,hl4,hA,hB,k1,k2,k3,k4]
   rcases hE:((p.v.ty==0)&&((p.v.n==0)&&(p.v.s.toList==ByteArray.empty.toList))) with _ | _
   ·simp only[go_sem,ae,h1,hl4,hA,hB,hE,k1,k2,k3,k4,EP,IG]
   ·have hbt:D9 p=true:=by simp only[D9,hA,hB,aj]; exact hE
    have hl0:Aa p.l.length 1 4=false:=APn
    have hl1:decide ((p.l.length:Int)≥1)=false:=by simp[Aa] at hl0 hl4 ⊢; omega
    simp only[go_sem,ae,h1,hl4,hA,hB,hE,k1,k2,k3,k4,EP,IG,hl1]
  rcases k5:(p.kind==5) with _ | _
  rotate_left
  ·have hs1:(D9 p&&((p.l.length:Int)==1))=false:=by simpa [E_,k1,k2,k3,k4,k5] using hs
   rcases hA:(p.col==0) with _ | _
   ·simp only[go_sem,ae,h1,hl4,hA,k1,k2,k3,k4,k5]
   rcases hB:(p.op==0) with _ | _
   ·simp only[go_sem,ae,h1,hl4,hA,hB,k1,k2,k3,k4,k5]
   rcases hE:((p.v.ty==0)&&((p.v.n==0)&&(p.v.s.toList==ByteArray.empty.toList))) with _ | _
   ·simp only[go_sem,ae,h1,hl4,hA,hB,hE,k1,k2,k3,k4,k5,EP,IG]
   ·have hbt:D9 p=true:=by simp only[D9,hA,hB,aj]; exact hE
    have hl0:((p.l.length:Int)==1)=false:=APn
    simp only[go_sem,ae,h1,hl4,hA,hB,hE,k1,k2,k3,k4,k5,EP,IG,hl0]
  rcases hA:(p.col==0) with _ | _
  ·simp only[go_sem,ae,h1,hl4,hA,k1,k2,k3,k4,k5]
  rcases hB:(p.op==0) with _ | _
  ·simp only[go_sem,ae,h1,hl4,hA,hB,k1,k2,k3,k4,k5]
  simp only[go_sem,ae,h1,hl4,hA,hB,k1,k2,k3,k4,k5,EP,IG]
 ·have hbare:D9 p=true→(p.col==0)=true∧(p.op==0)=true∧((p.v.ty==0)&&((p.v.n==0)&&(p.v.s.toList==ByteArray.empty.toList)))=true:=by
   intro hh
   simp only[D9,ay] at hh
   simp only[ay]
   exact hh
  have hs0:=hs
  unfold E_ at hs0
  rcases k1:(p.kind==1) with _ | _
  rotate_left
  ·have hs1:(D9 p&&((p.l.length:Int)==0))=true:=by simpa [k1] using hs0
   rw[ay] at hs1
   obtain⟨hA,hB,hE⟩:=hbare hs1.1
   have hl0:=hs1.2
   simp only[go_sem,ae,h1,hl4,k1,hA,hB,hE,hl0,EP,IG]
   refine AB4 1 (A:=Nat×Nat) (fun x=>[(9,.c (.v (.int .i64 (x.2)))),(105,.c (.v (.int .i64 (x.1))))]) (fun _=>[⟨67,7,[Uo p],true,true⟩]) (fun x=>x.1≤p.l.length∧((p.l.drop x.1).all fun q=>JA cs d q)=(p.l.all fun q=>JA cs d q)∧x.2+((p.l.drop x.1).map fun q=>CO d q).sum=1+(p.l.map fun q=>CO d q).sum∧x.2≤1+100*x.1) (fun x=>p.l.length-x.1) (0,1) ⟨⟨rfl,rfl⟩,rfl,az _,rfl,rfl,AOi⟩ ?_
   exact AEx
  rcases k2:(p.kind==2) with _ | _
  rotate_left
  ·have hs1:(JB cs p&&((p.l.length:Int)==0))=true:=by simpa [k1,k2] using hs0
   rw[ay] at hs1
   have hl0:=hs1.2
   have hs2:=hs1.1
   simp only[JB,ay] at hs2
   obtain⟨c1,c4,c2,c3⟩:=hs2
   obtain⟨m,hm,hml⟩:=hin c1
   have hgm:(cs[p.col.toNat]?).getD 0=cs[m]:=by rw[hm]; simp[hml]
   rw[hgm] at c3
   have c1':=c1
   rw[hm] at c1'
   have fin:∀ P:Prop,P→P:=fun _ h=>h
   rcases hA:(p.col==0) with _ | _
   ·simp only[go_sem,ae,h1,hl4,hwl,hA,k1,k2,EP,IG]
    refine AAm ?_
    simp only[go_sem,ae,h1,hl4,hwl,hA,k1,k2]
    refine AB5 _ (AL p.col 0 _) ?_
    simp only[go_sem,ae,h1,hl4,hwl,k1,k2,c1]
    refine AB5 _ (AL p.op 1 6) ?_
    simp only[go_sem,ae,h1,hl4,hwl,k1,k2,c1,c4]
    refine CY (Dt p.v) ?_
    simp only[go_sem,ae,h1,hl4,hwl,k1,k2,c1,c2,c3,c4,hm,AA _ hml,hml,hl0]
    refine AB4 1 (A:=Nat×Nat) (fun x=>[(9,.c (.v (.int .i64 (x.2)))),(105,.c (.v (.int .i64 (x.1))))]) (fun _=>[⟨67,7,[Ur m p],true,true⟩]) (fun x=>x.1≤p.l.length∧((p.l.drop x.1).all fun q=>JA cs d q)=(p.l.all fun q=>JA cs d q)∧x.2+((p.l.drop x.1).map fun q=>CO d q).sum=1+(p.l.map fun q=>CO d q).sum∧x.2≤1+100*x.1) (fun x=>p.l.length-x.1) (0,1) ⟨⟨rfl,rfl⟩,rfl,az _,rfl,rfl,AOi⟩ ?_
    exact AEx
   rcases hB:(p.op==0) with _ | _
   ·simp only[go_sem,ae,h1,hl4,hwl,hA,hB,k1,k2,EP,IG]
    refine AAm ?_
    simp only[go_sem,ae,h1,hl4,hwl,hA,hB,k1,k2]
    refine AB5 _ (AL p.col 0 _) ?_
    simp only[go_sem,ae,h1,hl4,hwl,k1,k2,c1]
    refine AB5 _ (AL p.op 1 6) ?_
    simp only[go_sem,ae,h1,hl4,hwl,k1,k2,c1,c4]
    refine CY (Dt p.v) ?_
    simp only[go_sem,ae,h1,hl4,hwl,k1,k2,c1,c2,c3,c4,hm,AA _ hml,hml,hl0]
    refine AB4 1 (A:=Nat×Nat) (fun x=>[(9,.c (.v (.int .i64 (x.2)))),(105,.c (.v (.int .i64 (x.1))))]) (fun _=>[⟨67,7,[Ur m p],true,true⟩]) (fun x=>x.1≤p.l.length∧((p.l.drop x.1).all fun q=>JA cs d q)=(p.l.all fun q=>JA cs d q)∧x.2+((p.l.drop x.1).map fun q=>CO d q).sum=1+(p.l.map fun q=>CO d q).sum∧x.2≤1+100*x.1) (fun x=>p.l.length-x.1) (0,1) ⟨⟨rfl,rfl⟩,rfl,az _,rfl,rfl,AOi⟩ ?_
    exact AEx
   simp only[go_sem,ae,h1,hl4,hwl,hA,hB,k1,k2,EP,IG]
   refine AAm ?_
   simp only[go_sem,ae,h1,hl4,hwl,hA,hB,k1,k2]
   refine AB5 _ (AL p.col 0 _) ?_
   simp only[go_sem,ae,h1,hl4,hwl,k1,k2,c1]
   refine AB5 _ (AL p.op 1 6) ?_
   simp only[go_sem,ae,h1,hl4,hwl,k1,k2,c1,c4]
   refine CY (Dt p.v) ?_
   simp only[go_sem,ae,h1,hl4,hwl,k1,k2,c1,c2,c3,c4,hm,AA _ hml,hml,hl0]
   refine AB4 1 (A:=Nat×Nat) (fun x=>[(9,.c (.v (.int .i64 (x.2)))),(105,.c (.v (.int .i64 (x.1))))]) (fun _=>[⟨67,7,[Ur m p],true,true⟩]) (fun x=>x.1≤p.l.length∧((p.l.drop x.1).all fun q=>JA cs d q)=(p.l.all fun q=>JA cs d q)∧x.2+((p.l.drop x.1).map fun q=>CO d q).sum=1+(p.l.map fun q=>CO d q).sum∧x.2≤1+100*x.1) (fun x=>p.l.length-x.1) (0,1) ⟨⟨rfl,rfl⟩,rfl,az _,rfl,rfl,AOi⟩ ?_
   exact AEx
  rcases k3:(p.kind==3) with _ | _
  rotate_left
  ·have hs1:(D9 p&&Aa p.l.length 1 4)=true:=by simpa [k1,k2,k3] using hs0
   rw[ay] at hs1
   obtain⟨hA,hB,hE⟩:=hbare hs1.1
   have hl0:=hs1.2
   have hl1:decide ((p.l.length:Int)≥1)=true:=by simp[Aa] at hl0 ⊢; omega
   simp only[go_sem,ae,h1,hl4,k1,k2,k3,hA,hB,hE,hl1,EP,IG]
   refine AB4 1 (A:=Nat×Nat) (fun x=>[(9,.c (.v (.int .i64 (x.2)))),(105,.c (.v (.int .i64 (x.1))))]) (fun _=>[⟨67,7,[Uo p],true,true⟩]) (fun x=>x.1≤p.l.length∧((p.l.drop x.1).all fun q=>JA cs d q)=(p.l.all fun q=>JA cs d q)∧x.2+((p.l.drop x.1).map fun q=>CO d q).sum=1+(p.l.map fun q=>CO d q).sum∧x.2≤1+100*x.1) (fun x=>p.l.length-x.1) (0,1) ⟨⟨rfl,rfl⟩,rfl,az _,rfl,rfl,AOi⟩ ?_
   exact AEx
  rcases k4:(p.kind==4) with _ | _
  rotate_left
  ·have hs1:(D9 p&&Aa p.l.length 1 4)=true:=by simpa [k1,k2,k3,k4] using hs0
   rw[ay] at hs1
   obtain⟨hA,hB,hE⟩:=hbare hs1.1
   have hl0:=hs1.2
   have hl1:decide ((p.l.length:Int)≥1)=true:=by simp[Aa] at hl0 ⊢; omega
   simp only[go_sem,ae,h1,hl4,k1,k2,k3,k4,hA,hB,hE,hl1,EP,IG]
   refine AB4 1 (A:=Nat×Nat) (fun x=>[(9,.c (.v (.int .i64 (x.2)))),(105,.c (.v (.int .i64 (x.1))))]) (fun _=>[⟨67,7,[Uo p],true,true⟩]) (fun x=>x.1≤p.l.length∧((p.l.drop x.1).all fun q=>JA cs d q)=(p.l.all fun q=>JA cs d q)∧x.2+((p.l.drop x.1).map fun q=>CO d q).sum=1+(p.l.map fun q=>CO d q).sum∧x.2≤1+100*x.1) (fun x=>p.l.length-x.1) (0,1) ⟨⟨rfl,rfl⟩,rfl,az _,rfl,rfl,AOi⟩ ?_
   exact AEx
  rcases k5:(p.kind==5) with _ | _
  rotate_left
  ·have hs1:(D9 p&&((p.l.length:Int)==1))=true:=by simpa [k1,k2,k3,k4,k5] using hs0
   rw[ay] at hs1
   obtain⟨hA,hB,hE⟩:=hbare hs1.1
   have hl0:=hs1.2
   simp only[go_sem,ae,h1,hl4,k1,k2,k3,k4,k5,hA,hB,hE,hl0,EP,IG]
   refine AB4 1 (A:=Nat×Nat) (fun x=>[(9,.c (.v (.int .i64 (x.2)))),(105,.c (.v (.int .i64 (x.1))))]) (fun _=>[⟨67,7,[Uo p],true,true⟩]) (fun x=>x.1≤p.l.length∧((p.l.drop x.1).all fun q=>JA cs d q)=(p.l.all fun q=>JA cs d q)∧x.2+((p.l.drop x.1).map fun q=>CO d q).sum=1+(p.l.map fun q=>CO d q).sum∧x.2≤1+100*x.1) (fun x=>p.l.length-x.1) (0,1) ⟨⟨rfl,rfl⟩,rfl,az _,rfl,rfl,AOi⟩ ?_
   exact AEx
  simp[k1,k2,k3,k4,k5] at hs0
theorem Xr (cs:List Int) (hc:cs.length≤1048576):∀ (d:Nat) (p:DPred),d≤4→A_ p→Ctr prog 397 [.c (.sl (cs.map intC)),.agg p.c,.c (.v (.int .i64 (d)))] [.val (.c (.v (.int .i64 (D5 cs d p))))]
 | 0,p,_,_=>by
  refine CM call397 func397 ntmps397 results397 fun hw=>?_
  have e1:D5 cs 0 p = -1:=by simp[D5,JA]
  have h1:decide (((0:Nat):Int)<1)=true:=AOq
  rw[e1]
  simp only[go_sem,ae,h1]
 | d+1,p,hd,hf=>by
  rw[BP] at hf
  exact ABe cs hc d p hd hf.2.1 fun x hx=>Xr cs hc d x AOh (hf.2.2 x hx)
end Go.Proofs.YtnoldekcdlaahaaGreat
