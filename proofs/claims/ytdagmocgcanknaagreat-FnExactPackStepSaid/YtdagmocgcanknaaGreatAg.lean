/- A part. -/
import Derived.Test.YtdagmocgcanknaaGreatZx
set_option linter.unusedSimpArgs false
set_option linter.unusedVariables false
set_option maxHeartbeats 2000000
set_option maxRecDepth 10000
open Go.Proofs.Tryz
namespace Go.Proofs.YtdagmocgcanknaaGreat
open Go.Vm
def AIg (z:DVal×DVal):List Cl:=z.1.c++z.2.c
@[go_sem] theorem AIh (z:DVal×DVal):AIg z=z.1.c++z.2.c:=rfl
def EK (p:DPred):Bool:=(p.col==0)&&((p.op==0)&&((p.v.ty==0)&&((p.v.n==0)&&(p.v.s.toList==ByteArray.empty.toList))))
def JV (cs:List Int) (p:DPred):Bool:=Ae p.col 0 ((cs.length:Int)-1)&&(Ae p.op 1 6&&(BX p.v&&(p.v.ty==(cs[p.col.toNat]?).getD 0)))
def FO (cs:List Int) (p:DPred):Bool:=
 if(p.kind==1)=true then EK p&&((p.l.length:Int)==0) else
 if(p.kind==2)=true then JV cs p&&((p.l.length:Int)==0) else
 if(p.kind==3)=true then EK p&&Ae p.l.length 1 4 else
 if(p.kind==4)=true then EK p&&Ae p.l.length 1 4 else
 if(p.kind==5)=true then EK p&&((p.l.length:Int)==1) else false
def JU (cs:List Int):Nat->DPred->Bool
 | 0,_=>false
 | d+1,p=>(p.l.all fun q=>JU cs d q)&&FO cs p
def Cm:Nat->DPred->Nat
 | 0,_=>0
 | d+1,p=>1+(p.l.map fun q=>Cm d q).sum
theorem jS {cs:List Int} {p:DPred} (h:FO cs p=true):p.l.length<=4:=by
 unfold FO at h;by_cases hl:p.l.length<=4
 .exact hl
 have e1:((p.l.length:Int)==0)=false:=by simp; intro h0; simp[h0] at hl
 have e2:Ae p.l.length 1 4=false:=AQQ;have e3:((p.l.length:Int)==1)=false:=AOn;rw[e1,e2,e3] at h;repeat' split at h
 all_goals simp at h
theorem ND {cs:List Int}:∀ (d:Nat) (p:DPred),JU cs d p=true->3*Cm d p+1<=4 ^ d
 | 0,p,h=>by simp[JU] at h
 | d+1,p,h=>by
  rw[JU,ar] at h;have hl:=jS h.2
  have hs:∀ l:List DPred,(l.all fun q=>JU cs d q)=true->3*(l.map fun q=>Cm d q).sum+l.length<=l.length*4 ^ d:=by
   intro l;induction l with
   | nil=>intro _; simp
   | cons x l ih =>
    intro hx
    rw[aI,ar] at hx
    have h1:=ND d x hx.1
    have h2:=ih hx.2
    simp only[ao,List.sum_cons,ag,dE,Nat.one_mul]
    omega
  have h1:=hs p.l h.1;have h2:p.l.length*(4 ^ d-1)<=4*(4 ^ d-1):=aaF _ hl;have h3:0<4 ^ d:=Nat.pow_pos AOl;rw[Nat.mul_sub,Nat.mul_sub] at h2;rw[Cm,Nat.pow_succ];omega
theorem ACl (d:Nat) (p:DPred):1<=Cm (d+1) p:=by rw[Cm]; omega
theorem Lt (d:Nat) (l:List DPred) {k:Nat} (h:k<l.length):((l.drop k).map fun q=>Cm d q).sum=Cm d l[k]+((l.drop (k+1)).map fun q=>Cm d q).sum:=by rw[aB h]; rfl
theorem Lu (cs:List Int) (d:Nat) (l:List DPred) {k:Nat} (h:k<l.length):((l.drop k).all fun q=>JU cs d q)=(JU cs d l[k]&&(l.drop (k+1)).all fun q=>JU cs d q):=by rw[aB h]; rfl
theorem Qz (cs:List Int):∀ (d:Nat) (p:DPred),d<=4->BF p->JU cs d p=true->Ctr prog 314 [.agg p.c] [.val (.c (.v (.int .i64 (Cm d p))))]
 | 0,p,_,_,h=>by simp[JU] at h
 | d+1,p,hd,hf,h=>by
  have hcb:=ND _ p h;have hpw:4 ^ (d+1)<=4 ^ 4:=aaz AOl hd;rw[JU,ar] at h;rw[Cm] at hcb ⊢;rw[Bc] at hf;have hlen:=hf.2.1;refine CM call314 func314 ntmps314 results314 fun hw=>?_;simp only[go_sem,aa];refine AAe 1 (A:=Nat×Nat) (fun x=>[(3,.c (.v (.int .i64 (x.2)))),(4,.c (.v (.int .i64 (x.1))))]) (fun _=>[⟨115,7,[[.v (.int .i64 p.kind),.v (.int .i64 p.col),.v (.int .i64 p.op),.v (.int .i64 p.v.ty),.v (.int .i64 p.v.n),.v (.string p.v.s),.sl (p.l.map DPred.c)]],true,true⟩]) (fun x=>x.1<=p.l.length/\x.2+((p.l.drop x.1).map fun q=>Cm d q).sum=1+(p.l.map fun q=>Cm d q).sum) (fun x=>p.l.length-x.1) (0,1) ⟨⟨rfl,rfl⟩,rfl,aq _,rfl⟩ ?_;rintro⟨k,n⟩ ⟨hk,hb⟩;dsimp only at hk hb;simp only[go_sem,aa];refine AAQ (fun h2=>?_) (fun h2=>?_)
  .have hk':k<p.l.length:=by simpa using h2
   have hok:JU cs d p.l[k]=true:=aC.1 h.1 _ (an hk');rw[Lt d p.l hk'] at hb;have hw1:IntKind.i64.wrap ((n:Int)+(Cm d p.l[k]:Int))=((n+Cm d p.l[k]:Nat):Int):=AOq;simp only[go_sem,aa,AA _ hk',hk'];try refine AAP ?_
   try simp only[go_sem,aa,AA _ hk',hk']
   first | refine AAt _ (by simpa only[go_sem] using Qz cs d p.l[k] AOl (hf.2.2 _ (an hk')) hok) ?_ | refine AAO _ (by simpa only[go_sem] using Qz cs d p.l[k] AOl (hf.2.2 _ (an hk')) hok) fun _=>?_
   simp only[go_sem,aa,hw1,wrap_i64 (n:=(k:Int)+1) AOl AOl];exact⟨(k+1,n+Cm d p.l[k]),⟨rfl,rfl⟩,rfl,⟨AOl,AOp⟩,AOp⟩
  .have hk':k=p.l.length:=by simp at h2; omega
   subst hk';rw[aK] at hb;have:n=1+(p.l.map fun q=>Cm d q).sum:=APa;subst this;exact AJC
theorem UU (cs:List Int) (hc:cs.length<=1048576):∀ (d:Nat) (e:Int) (p:DPred),e+d=5->d<=4->BF p->Ctr prog 313 [.c (.sl (cs.map intC)),.agg p.c,.c (.v (.int .i64 (e)))] [.val (.c (.v (.bool (JU cs d p))))]
 | 0,e,p,he,_,_=>by refine CM call313 func313 ntmps313 results313 fun hw=>?_;have h1:decide (e>4)=true:=AOn;simp only[go_sem,aa,h1,JU]
 | d+1,e,p,he,hd,hf=>by
  rw[Bc] at hf;have hlen:=hf.2.1;rw[JU];refine CM call313 func313 ntmps313 results313 fun hw=>?_;have h1:decide (e>4)=false:=AOn;simp only[go_sem,aa,h1];refine AAe 1 (A:=Nat) (fun k=>[(7,.c (.v (.int .i64 (k))))]) (fun _=>[⟨115,7,[[.v (.int .i64 p.kind),.v (.int .i64 p.col),.v (.int .i64 p.op),.v (.int .i64 p.v.ty),.v (.int .i64 p.v.n),.v (.string p.v.s),.sl (p.l.map DPred.c)]],true,true⟩]) (fun k=>k<=p.l.length/\((p.l.drop k).all fun q=>JU cs d q)=(p.l.all fun q=>JU cs d q)) (fun k=>p.l.length-k) 0 ⟨⟨rfl,rfl⟩,rfl,aq _,rfl⟩ ?_;rintro k ⟨hk,hb⟩;simp only[go_sem,aa];refine AAQ (fun h2=>?_) (fun h2=>?_)
  .have hk':k<p.l.length:=by simpa using h2
   rw[Lu cs d p.l hk'] at hb;simp only[go_sem,aa,AA _ hk',hk',wrap_i64 (n:=e+1) AOl AOl];try refine AAP ?_
   try simp only[go_sem,aa,AA _ hk',hk',wrap_i64 (n:=e+1) AOl AOl]
   first | refine AAt _ (by simpa only[go_sem] using UU cs hc d (e+1) p.l[k] AOl AOl (hf.2.2 _ (an hk'))) ?_ | refine AAO _ (by simpa only[go_sem] using UU cs hc d (e+1) p.l[k] AOl AOl (hf.2.2 _ (an hk'))) fun _=>?_
   rcases hv:JU cs d p.l[k] with _ | _
   .rw[hv,ac] at hb;simp only[go_sem,hv];rw[<- hb,ac]
   .rw[hv,ah] at hb;simp only[go_sem,hv,wrap_i64 (n:=(k:Int)+1) AOl AOl];exact⟨k+1,⟨rfl,rfl⟩,rfl,⟨AOl,hb⟩,AOl⟩
  .have hk':k=p.l.length:=by simp at h2; omega
   rw[hk',aK,aM] at hb;rw[<- hb,ah];clear hb;have hin:Ae p.col 0 ((cs.length:Int)-1)=true->∃ m:Nat,p.col=m/\m<cs.length:=by intro hh;simp[Ae] at hh;exact⟨p.col.toNat,AOl,AOl⟩
   have hwl:IntKind.i64.wrap ((cs.length:Int)-1)=(cs.length:Int)-1:=wrap_i64 AOl AOl;rcases k2:(p.kind==2) with _ | _
   .rcases k1:(p.kind==1) with _ | _
    .rcases k3:(p.kind==3) with _ | _
     .rcases k4:(p.kind==4) with _ | _
      .rcases k5:(p.kind==5) with _ | _
       .have hsh:FO cs p=false:=by simp[FO,k1,k2,k3,k4,k5]
        rw[hsh];rcases hA:(p.col==0) with _ | _
        .simp only[go_sem,aa,hA,k1,k2,k3,k4,k5]
        rcases hB:(p.op==0) with _ | _
        .simp only[go_sem,aa,hA,hB,k1,k2,k3,k4,k5]
        simp only[go_sem,aa,hA,hB,k1,k2,k3,k4,k5,EW,IZ]
       .have hsh:FO cs p=(EK p&&((p.l.length:Int)==1)):=by simp[FO,k1,k2,k3,k4,k5]
        rw[hsh];rcases hA:(p.col==0) with _ | _
        .simp only[go_sem,aa,hA,k1,k2,k3,k4,k5,EK,ac]
        rcases hB:(p.op==0) with _ | _
        .simp only[go_sem,aa,hA,hB,k1,k2,k3,k4,k5,EK,ac,ay]
        rcases hE:((p.v.ty==0)&&((p.v.n==0)&&(p.v.s.toList==ByteArray.empty.toList))) with _ | _;all_goals simp only[go_sem,aa,hA,hB,hE,k1,k2,k3,k4,k5,EW,IZ,EK,ah,ac]
      .have hsh:FO cs p=(EK p&&Ae p.l.length 1 4):=by simp[FO,k1,k2,k3,k4]
       rw[hsh];rcases hA:(p.col==0) with _ | _
       .simp only[go_sem,aa,hA,k1,k2,k3,k4,EK,ac]
       rcases hB:(p.op==0) with _ | _
       .simp only[go_sem,aa,hA,hB,k1,k2,k3,k4,EK,ac,ay]
       rcases hE:((p.v.ty==0)&&((p.v.n==0)&&(p.v.s.toList==ByteArray.empty.toList))) with _ | _
       .simp only[go_sem,aa,hA,hB,hE,k1,k2,k3,k4,EW,IZ,EK,ah,ac]
       .simp only[go_sem,aa,hA,hB,hE,k1,k2,k3,k4,EW,IZ,EK,ah,ac];refine AAO _ (AP p.l.length 1 4) fun _=>?_;simp only[go_sem,aa,hA,hB,hE,k1,k2,k3,k4,EW,IZ,EK,ah,ac]
     .have hsh:FO cs p=(EK p&&Ae p.l.length 1 4):=by simp[FO,k1,k2,k3]
      rw[hsh];rcases hA:(p.col==0) with _ | _
      .simp only[go_sem,aa,hA,k1,k2,k3,EK,ac]
      rcases hB:(p.op==0) with _ | _
      .simp only[go_sem,aa,hA,hB,k1,k2,k3,EK,ac,ay]
      rcases hE:((p.v.ty==0)&&((p.v.n==0)&&(p.v.s.toList==ByteArray.empty.toList))) with _ | _
      .simp only[go_sem,aa,hA,hB,hE,k1,k2,k3,EW,IZ,EK,ah,ac]
      .simp only[go_sem,aa,hA,hB,hE,k1,k2,k3,EW,IZ,EK,ah,ac];refine AAO _ (AP p.l.length 1 4) fun _=>?_;simp only[go_sem,aa,hA,hB,hE,k1,k2,k3,EW,IZ,EK,ah,ac]
    .have hsh:FO cs p=(EK p&&((p.l.length:Int)==0)):=by simp[FO,k1]
     rw[hsh];rcases hA:(p.col==0) with _ | _
     .simp only[go_sem,aa,hA,k1,EK,ac]
     rcases hB:(p.op==0) with _ | _
     .simp only[go_sem,aa,hA,hB,k1,EK,ac,ay]
     rcases hE:((p.v.ty==0)&&((p.v.n==0)&&(p.v.s.toList==ByteArray.empty.toList))) with _ | _;all_goals simp only[go_sem,aa,hA,hB,hE,k1,EW,IZ,EK,ah,ac]
   .have k1:(p.kind==1)=false:=by simp at k2 ⊢; omega
    have hsh:FO cs p=(JV cs p&&((p.l.length:Int)==0)):=by simp[FO,k1,k2]
    rw[hsh];rcases hA:(p.col==0) with _ | _
    .simp only[go_sem,aa,hA,k1,k2,hwl,EW,IZ];refine AAP ?_;simp only[go_sem,aa,hA,k1,k2,hwl];exact AGD
    rcases hB:(p.op==0) with _ | _
    .simp only[go_sem,aa,hA,hB,k1,k2,hwl,EW,IZ];refine AAP ?_;simp only[go_sem,aa,hA,hB,k1,k2,hwl];exact AGD
    simp only[go_sem,aa,hA,hB,k1,k2,hwl,EW,IZ];refine AAP ?_;simp only[go_sem,aa,hA,hB,k1,k2,hwl];exact AGD
def U4 (p:DPred):List Cl:=[.v (.int .i64 p.kind),.v (.int .i64 p.col),.v (.int .i64 p.op),.v (.int .i64 p.v.ty),.v (.int .i64 p.v.n),.v (.string p.v.s),.sl (p.l.map DPred.c)]
@[go_sem] theorem AGn (p:DPred):U4 p = [.v (.int .i64 p.kind),.v (.int .i64 p.col),.v (.int .i64 p.op),.v (.int .i64 p.v.ty),.v (.int .i64 p.v.n),.v (.string p.v.s),.sl (p.l.map DPred.c)]:=rfl
def U5 (c:Int) (p:DPred):List Cl:=[.v (.int .i64 p.kind),.v (.int .i64 c),.v (.int .i64 p.op),.v (.int .i64 p.v.ty),.v (.int .i64 p.v.n),.v (.string p.v.s),.sl (p.l.map DPred.c)]
@[go_sem] theorem AGA (c:Int) (p:DPred):U5 c p = [.v (.int .i64 p.kind),.v (.int .i64 c),.v (.int .i64 p.op),.v (.int .i64 p.v.ty),.v (.int .i64 p.v.n),.v (.string p.v.s),.sl (p.l.map DPred.c)]:=rfl
def ED (cs:List Int) (d:Nat) (p:DPred):Int:=if JU cs d p=true then(Cm d p:Int) else -1
theorem zZ {cs:List Int} {d:Nat} {p:DPred} (h:FO cs p=false):ED cs (d+1) p = -1:=by simp[ED,JU,h]
theorem ABA (cs:List Int) (hc:cs.length<=1048576) (d:Nat) (p:DPred) (hd:d+1<=4) (hlen:p.l.length<=1048576) (hx:∀ x∈p.l,Ctr prog 326 [.c (.sl (cs.map intC)),.agg x.c,.c (.v (.int .i64 (d)))] [.val (.c (.v (.int .i64 (ED cs d x))))]):Ctr prog 326 [.c (.sl (cs.map intC)),.agg p.c,.c (.v (.int .i64 ((d+1:Nat))))] [.val (.c (.v (.int .i64 (ED cs (d+1) p))))]:=by
 refine CM call326 func326 ntmps326 results326 fun hw=>?_;have h1:decide (((d+1:Nat):Int)<1)=false:=AOn;have hdw:IntKind.i64.wrap (((d+1:Nat):Int)-1)=(d:Int):=AOq;have hin:Ae p.col 0 ((cs.length:Int)-1)=true->∃ m:Nat,p.col=m/\m<cs.length:=by intro hh;simp[Ae] at hh;exact⟨p.col.toNat,AOl,AOl⟩
 have hwl:IntKind.i64.wrap ((cs.length:Int)-1)=(cs.length:Int)-1:=wrap_i64 AOl AOl;rcases hl4:decide ((p.l.length:Int)>4) with _ | _;rotate_left
 .have hno:FO cs p=false:=by
   rcases h:FO cs p with _ | _
   .rfl
   .have:=jS h; simp at hl4; omega
  rw[zZ hno];simp only[go_sem,aa,h1,hl4]
 rcases hs:FO cs p with _ | _
 .rw[zZ hs];rcases k1:(p.kind==1) with _ | _;rotate_left
  .have hs1:(EK p&&((p.l.length:Int)==0))=false:=by simpa [FO,k1] using hs
   rcases hA:(p.col==0) with _ | _
   .simp only[go_sem,aa,h1,hl4,hA,k1]
   rcases hB:(p.op==0) with _ | _
   .simp only[go_sem,aa,h1,hl4,hA,hB,k1]
   rcases hE:((p.v.ty==0)&&((p.v.n==0)&&(p.v.s.toList==ByteArray.empty.toList))) with _ | _
   .simp only[go_sem,aa,h1,hl4,hA,hB,hE,k1,EW,IZ]
   .have hbt:EK p=true:=by simp only[EK,hA,hB,ah]; exact hE
    have hl0:((p.l.length:Int)==0)=false:=AP4;simp only[go_sem,aa,h1,hl4,hA,hB,hE,k1,EW,IZ,hl0]
  rcases k2:(p.kind==2) with _ | _;rotate_left
  .have hs1:(JV cs p&&((p.l.length:Int)==0))=false:=by simpa [FO,k1,k2] using hs
   rcases hA:(p.col==0) with _ | _
   .simp only[go_sem,aa,h1,hl4,hwl,hA,k1,k2,EW,IZ];refine AAP ?_;simp only[go_sem,aa,h1,hl4,hwl,hA,k1,k2];exact AGE
   rcases hB:(p.op==0) with _ | _
   .simp only[go_sem,aa,h1,hl4,hwl,hA,hB,k1,k2,EW,IZ];refine AAP ?_;simp only[go_sem,aa,h1,hl4,hwl,hA,hB,k1,k2];exact AGE
   simp only[go_sem,aa,h1,hl4,hwl,hA,hB,k1,k2,EW,IZ];refine AAP ?_;simp only[go_sem,aa,h1,hl4,hwl,hA,hB,k1,k2];exact AGE
  rcases k3:(p.kind==3) with _ | _;rotate_left
  .have hs1:(EK p&&Ae p.l.length 1 4)=false:=by simpa [FO,k1,k2,k3] using hs
   rcases hA:(p.col==0) with _ | _
   .simp only[go_sem,aa,h1,hl4,hA,k1,k2,k3]
   rcases hB:(p.op==0) with _ | _
   .simp only[go_sem,aa,h1,hl4,hA,hB,k1,k2,k3]
   rcases hE:((p.v.ty==0)&&((p.v.n==0)&&(p.v.s.toList==ByteArray.empty.toList))) with _ | _
   .simp only[go_sem,aa,h1,hl4,hA,hB,hE,k1,k2,k3,EW,IZ]
   .have hbt:EK p=true:=by simp only[EK,hA,hB,ah]; exact hE
    have hl0:Ae p.l.length 1 4=false:=AP4;have hl1:decide ((p.l.length:Int)>=1)=false:=by simp[Ae] at hl0 hl4 ⊢; omega
    simp only[go_sem,aa,h1,hl4,hA,hB,hE,k1,k2,k3,EW,IZ,hl1]
  rcases k4:(p.kind==4) with _ | _;rotate_left
  .have hs1:(EK p&&Ae p.l.length 1 4)=false:=by simpa [FO,k1,k2,k3,k4] using hs
   rcases hA:(p.col==0) with _ | _
   .simp only[go_sem,aa,h1,hl4,hA,k1,k2,k3,k4]
   rcases hB:(p.op==0) with _ | _
   .simp only[go_sem,aa,h1,hl4,hA,hB,k1,k2,k3,k4]
   rcases hE:((p.v.ty==0)&&((p.v.n==0)&&(p.v.s.toList==ByteArray.empty.toList))) with _ | _
   .simp only[go_sem,aa,h1,hl4,hA,hB,hE,k1,k2,k3,k4,EW,IZ]
   .have hbt:EK p=true:=by simp only[EK,hA,hB,ah]; exact hE
    have hl0:Ae p.l.length 1 4=false:=AP4;have hl1:decide ((p.l.length:Int)>=1)=false:=by simp[Ae] at hl0 hl4 ⊢; omega
    simp only[go_sem,aa,h1,hl4,hA,hB,hE,k1,k2,k3,k4,EW,IZ,hl1]
  rcases k5:(p.kind==5) with _ | _;rotate_left
  .have hs1:(EK p&&((p.l.length:Int)==1))=false:=by simpa [FO,k1,k2,k3,k4,k5] using hs
   rcases hA:(p.col==0) with _ | _
   .simp only[go_sem,aa,h1,hl4,hA,k1,k2,k3,k4,k5]
   rcases hB:(p.op==0) with _ | _
   .simp only[go_sem,aa,h1,hl4,hA,hB,k1,k2,k3,k4,k5]
   rcases hE:((p.v.ty==0)&&((p.v.n==0)&&(p.v.s.toList==ByteArray.empty.toList))) with _ | _
   .simp only[go_sem,aa,h1,hl4,hA,hB,hE,k1,k2,k3,k4,k5,EW,IZ]
   .have hbt:EK p=true:=by simp only[EK,hA,hB,ah]; exact hE
    have hl0:((p.l.length:Int)==1)=false:=AP4;simp only[go_sem,aa,h1,hl4,hA,hB,hE,k1,k2,k3,k4,k5,EW,IZ,hl0]
  rcases hA:(p.col==0) with _ | _
  .simp only[go_sem,aa,h1,hl4,hA,k1,k2,k3,k4,k5]
  rcases hB:(p.op==0) with _ | _
  .simp only[go_sem,aa,h1,hl4,hA,hB,k1,k2,k3,k4,k5]
  simp only[go_sem,aa,h1,hl4,hA,hB,k1,k2,k3,k4,k5,EW,IZ]
 .have hbare:EK p=true->(p.col==0)=true/\(p.op==0)=true/\((p.v.ty==0)&&((p.v.n==0)&&(p.v.s.toList==ByteArray.empty.toList)))=true:=by intro hh;simp only[EK,ar] at hh;simp only[ar];exact hh
  have hs0:=hs;unfold FO at hs0;rcases k1:(p.kind==1) with _ | _;rotate_left
  .have hs1:(EK p&&((p.l.length:Int)==0))=true:=by simpa [k1] using hs0
   rw[ar] at hs1;obtain⟨hA,hB,hE⟩:=hbare hs1.1;have hl0:=hs1.2;simp only[go_sem,aa,h1,hl4,k1,hA,hB,hE,hl0,EW,IZ];refine AAe 1 (A:=Nat×Nat) (fun x=>[(9,.c (.v (.int .i64 (x.2)))),(105,.c (.v (.int .i64 (x.1))))]) (fun _=>[⟨115,7,[U4 p],true,true⟩]) (fun x=>x.1<=p.l.length/\((p.l.drop x.1).all fun q=>JU cs d q)=(p.l.all fun q=>JU cs d q)/\x.2+((p.l.drop x.1).map fun q=>Cm d q).sum=1+(p.l.map fun q=>Cm d q).sum/\x.2<=1+100*x.1) (fun x=>p.l.length-x.1) (0,1) ⟨⟨rfl,rfl⟩,rfl,aq _,rfl,rfl,AOm⟩ ?_;exact AEZ
  rcases k2:(p.kind==2) with _ | _;rotate_left
  .have hs1:(JV cs p&&((p.l.length:Int)==0))=true:=by simpa [k1,k2] using hs0
   rw[ar] at hs1;have hl0:=hs1.2;have hs2:=hs1.1;simp only[JV,ar] at hs2;obtain⟨c1,c4,c2,c3⟩:=hs2;obtain⟨m,hm,hml⟩:=hin c1;have hgm:(cs[p.col.toNat]?).getD 0=cs[m]:=by rw[hm]; simp[hml]
   rw[hgm] at c3;have c1':=c1;rw[hm] at c1';have fin:∀ P:Prop,P->P:=fun _ h=>h;rcases hA:(p.col==0) with _ | _
   .simp only[go_sem,aa,h1,hl4,hwl,hA,k1,k2,EW,IZ];refine AAP ?_;simp only[go_sem,aa,h1,hl4,hwl,hA,k1,k2];refine AAt _ (AL p.col 0 _) ?_;simp only[go_sem,aa,h1,hl4,hwl,k1,k2,c1];refine AAt _ (AL p.op 1 6) ?_;simp only[go_sem,aa,h1,hl4,hwl,k1,k2,c1,c4];refine CY (D7 p.v) ?_;simp only[go_sem,aa,h1,hl4,hwl,k1,k2,c1,c2,c3,c4,hm,AA _ hml,hml,hl0];refine AAe 1 (A:=Nat×Nat) (fun x=>[(9,.c (.v (.int .i64 (x.2)))),(105,.c (.v (.int .i64 (x.1))))]) (fun _=>[⟨115,7,[U5 m p],true,true⟩]) (fun x=>x.1<=p.l.length/\((p.l.drop x.1).all fun q=>JU cs d q)=(p.l.all fun q=>JU cs d q)/\x.2+((p.l.drop x.1).map fun q=>Cm d q).sum=1+(p.l.map fun q=>Cm d q).sum/\x.2<=1+100*x.1) (fun x=>p.l.length-x.1) (0,1) ⟨⟨rfl,rfl⟩,rfl,aq _,rfl,rfl,AOm⟩ ?_;exact AEZ
   rcases hB:(p.op==0) with _ | _
   .simp only[go_sem,aa,h1,hl4,hwl,hA,hB,k1,k2,EW,IZ];refine AAP ?_;simp only[go_sem,aa,h1,hl4,hwl,hA,hB,k1,k2];refine AAt _ (AL p.col 0 _) ?_;simp only[go_sem,aa,h1,hl4,hwl,k1,k2,c1];refine AAt _ (AL p.op 1 6) ?_;simp only[go_sem,aa,h1,hl4,hwl,k1,k2,c1,c4];refine CY (D7 p.v) ?_;simp only[go_sem,aa,h1,hl4,hwl,k1,k2,c1,c2,c3,c4,hm,AA _ hml,hml,hl0];refine AAe 1 (A:=Nat×Nat) (fun x=>[(9,.c (.v (.int .i64 (x.2)))),(105,.c (.v (.int .i64 (x.1))))]) (fun _=>[⟨115,7,[U5 m p],true,true⟩]) (fun x=>x.1<=p.l.length/\((p.l.drop x.1).all fun q=>JU cs d q)=(p.l.all fun q=>JU cs d q)/\x.2+((p.l.drop x.1).map fun q=>Cm d q).sum=1+(p.l.map fun q=>Cm d q).sum/\x.2<=1+100*x.1) (fun x=>p.l.length-x.1) (0,1) ⟨⟨rfl,rfl⟩,rfl,aq _,rfl,rfl,AOm⟩ ?_;exact AEZ
   simp only[go_sem,aa,h1,hl4,hwl,hA,hB,k1,k2,EW,IZ];refine AAP ?_;simp only[go_sem,aa,h1,hl4,hwl,hA,hB,k1,k2];refine AAt _ (AL p.col 0 _) ?_;simp only[go_sem,aa,h1,hl4,hwl,k1,k2,c1];refine AAt _ (AL p.op 1 6) ?_;simp only[go_sem,aa,h1,hl4,hwl,k1,k2,c1,c4];refine CY (D7 p.v) ?_;simp only[go_sem,aa,h1,hl4,hwl,k1,k2,c1,c2,c3,c4,hm,AA _ hml,hml,hl0];refine AAe 1 (A:=Nat×Nat) (fun x=>[(9,.c (.v (.int .i64 (x.2)))),(105,.c (.v (.int .i64 (x.1))))]) (fun _=>[⟨115,7,[U5 m p],true,true⟩]) (fun x=>x.1<=p.l.length/\((p.l.drop x.1).all fun q=>JU cs d q)=(p.l.all fun q=>JU cs d q)/\x.2+((p.l.drop x.1).map fun q=>Cm d q).sum=1+(p.l.map fun q=>Cm d q).sum/\x.2<=1+100*x.1) (fun x=>p.l.length-x.1) (0,1) ⟨⟨rfl,rfl⟩,rfl,aq _,rfl,rfl,AOm⟩ ?_;exact AEZ
  rcases k3:(p.kind==3) with _ | _;rotate_left
  .have hs1:(EK p&&Ae p.l.length 1 4)=true:=by simpa [k1,k2,k3] using hs0
   rw[ar] at hs1;obtain⟨hA,hB,hE⟩:=hbare hs1.1;have hl0:=hs1.2;have hl1:decide ((p.l.length:Int)>=1)=true:=by simp[Ae] at hl0 ⊢; omega
   simp only[go_sem,aa,h1,hl4,k1,k2,k3,hA,hB,hE,hl1,EW,IZ];refine AAe 1 (A:=Nat×Nat) (fun x=>[(9,.c (.v (.int .i64 (x.2)))),(105,.c (.v (.int .i64 (x.1))))]) (fun _=>[⟨115,7,[U4 p],true,true⟩]) (fun x=>x.1<=p.l.length/\((p.l.drop x.1).all fun q=>JU cs d q)=(p.l.all fun q=>JU cs d q)/\x.2+((p.l.drop x.1).map fun q=>Cm d q).sum=1+(p.l.map fun q=>Cm d q).sum/\x.2<=1+100*x.1) (fun x=>p.l.length-x.1) (0,1) ⟨⟨rfl,rfl⟩,rfl,aq _,rfl,rfl,AOm⟩ ?_;exact AEZ
  rcases k4:(p.kind==4) with _ | _;rotate_left
  .have hs1:(EK p&&Ae p.l.length 1 4)=true:=by simpa [k1,k2,k3,k4] using hs0
   rw[ar] at hs1;obtain⟨hA,hB,hE⟩:=hbare hs1.1;have hl0:=hs1.2;have hl1:decide ((p.l.length:Int)>=1)=true:=by simp[Ae] at hl0 ⊢; omega
   simp only[go_sem,aa,h1,hl4,k1,k2,k3,k4,hA,hB,hE,hl1,EW,IZ];refine AAe 1 (A:=Nat×Nat) (fun x=>[(9,.c (.v (.int .i64 (x.2)))),(105,.c (.v (.int .i64 (x.1))))]) (fun _=>[⟨115,7,[U4 p],true,true⟩]) (fun x=>x.1<=p.l.length/\((p.l.drop x.1).all fun q=>JU cs d q)=(p.l.all fun q=>JU cs d q)/\x.2+((p.l.drop x.1).map fun q=>Cm d q).sum=1+(p.l.map fun q=>Cm d q).sum/\x.2<=1+100*x.1) (fun x=>p.l.length-x.1) (0,1) ⟨⟨rfl,rfl⟩,rfl,aq _,rfl,rfl,AOm⟩ ?_;exact AEZ
  rcases k5:(p.kind==5) with _ | _;rotate_left
  .have hs1:(EK p&&((p.l.length:Int)==1))=true:=by simpa [k1,k2,k3,k4,k5] using hs0
   rw[ar] at hs1;obtain⟨hA,hB,hE⟩:=hbare hs1.1;have hl0:=hs1.2;simp only[go_sem,aa,h1,hl4,k1,k2,k3,k4,k5,hA,hB,hE,hl0,EW,IZ];refine AAe 1 (A:=Nat×Nat) (fun x=>[(9,.c (.v (.int .i64 (x.2)))),(105,.c (.v (.int .i64 (x.1))))]) (fun _=>[⟨115,7,[U4 p],true,true⟩]) (fun x=>x.1<=p.l.length/\((p.l.drop x.1).all fun q=>JU cs d q)=(p.l.all fun q=>JU cs d q)/\x.2+((p.l.drop x.1).map fun q=>Cm d q).sum=1+(p.l.map fun q=>Cm d q).sum/\x.2<=1+100*x.1) (fun x=>p.l.length-x.1) (0,1) ⟨⟨rfl,rfl⟩,rfl,aq _,rfl,rfl,AOm⟩ ?_;exact AEZ
  simp[k1,k2,k3,k4,k5] at hs0
theorem YA (cs:List Int) (hc:cs.length<=1048576):∀ (d:Nat) (p:DPred),d<=4->BF p->Ctr prog 326 [.c (.sl (cs.map intC)),.agg p.c,.c (.v (.int .i64 (d)))] [.val (.c (.v (.int .i64 (ED cs d p))))]
 | 0,p,_,_=>by
  refine CM call326 func326 ntmps326 results326 fun hw=>?_;have e1:ED cs 0 p = -1:=by simp[ED,JU]
  have h1:decide (((0:Nat):Int)<1)=true:=AOu;rw[e1];simp only[go_sem,aa,h1]
 | d+1,p,hd,hf=>by rw[Bc] at hf;exact ABA cs hc d p hd hf.2.1 fun x hx=>YA cs hc d x AOl (hf.2.2 x hx)
def NY (cs:List Int) (p:DPred):Bool:=FX cs&&(JU cs 4 p&&decide ((Cm 4 p:Int)<=8))
theorem lY (cs:List Int) (p:DPred) (hc:cs.length<=1048576) (hp:BF p):Ctr prog 280 [.c (.sl (cs.map intC)),.agg p.c] [.val (.c (.v (.bool (NY cs p))))]:=by
 refine CM call280 func280 ntmps280 results280 fun hw=>?_;simp only[go_sem,aa];refine AAO _ (QI cs) fun _=>?_;rcases h1:FX cs with _ | _
 .simp only[go_sem,NY,h1,ac]
 simp only[go_sem,h1];refine CW (UU cs hc 4 1 p AOu AOu hp) fun _=>?_;rcases h2:JU cs 4 p with _ | _
 .simp only[go_sem,NY,h1,h2,ac,ay]
 simp only[go_sem,h1,h2];refine CW (Qz cs 4 p AOu hp h2) fun _=>?_;simp only[go_sem,NY,h1,h2,ah]
theorem lZ (cs:List Int) (p:DPred) (hc:cs.length<=1048576) (hp:BF p):Ctr prog 296 [.c (.sl (cs.map intC)),.agg p.c] [.val (.c (.v (.bool (NY cs p))))]:=by
 refine CM call296 func296 ntmps296 results296 fun hw=>?_;simp only[go_sem,aa];refine AAO _ (QJ cs) fun _=>?_;rcases h1:FX cs with _ | _
 .simp only[go_sem,NY,h1,ac]
 simp only[go_sem,h1];refine AAO _ (by have:=YA cs hc 4 p AOu hp; rw[show ((4:Nat):Int)=4 from rfl] at this; simpa only[go_sem] using this) fun _=>?_;simp only[go_sem,h1];refine AAO _ (AL _ _ _) fun _=>?_
 have:Ae (ED cs 4 p) 1 8=NY cs p:=by
  unfold NY ED;rw[h1];rcases h2:JU cs 4 p with _ | _
  .rfl
  .have:1<=Cm 4 p:=ACl 3 p;simp[Ae];omega
 simp only[go_sem,this]
def AEe (q:DQuery):List Cl:=[.v (.int .i64 q.kind),.v (.int .i64 q.p.kind),.v (.int .i64 q.p.col),.v (.int .i64 q.p.op),.v (.int .i64 q.p.v.ty),.v (.int .i64 q.p.v.n),.v (.string q.p.v.s),.sl (q.p.l.map DPred.c),.v (.int .i64 q.col),.sl (q.out.map intC)]
@[go_sem] theorem AJ1 (q:DQuery):AEe q = [.v (.int .i64 q.kind),.v (.int .i64 q.p.kind),.v (.int .i64 q.p.col),.v (.int .i64 q.p.op),.v (.int .i64 q.p.v.ty),.v (.int .i64 q.p.v.n),.v (.string q.p.v.s),.sl (q.p.l.map DPred.c),.v (.int .i64 q.col),.sl (q.out.map intC)]:=rfl
def MZ (cs:List Int) (l:List Int):Bool:=l.all fun k=>Ae k 0 ((cs.length:Int)-1)
def CE (cs:List Int) (q:DQuery):Bool:=
 NY cs q.p&&(if(q.kind==1)=true then MZ cs q.out&&((q.col==0)&&Ae q.out.length 1 3) else
  if(q.kind==2)=true then(q.col==0)&&((q.out.length:Int)==0) else
  if(q.kind==3)=true then Ae q.col 0 ((cs.length:Int)-1)&&(((cs[q.col.toNat]?).getD 0==1)&&((q.out.length:Int)==0)) else
  if(q.kind==4)=true then Ae q.col 0 ((cs.length:Int)-1)&&((q.out.length:Int)==0) else
  if(q.kind==5)=true then Ae q.col 0 ((cs.length:Int)-1)&&((q.out.length:Int)==0) else false)
theorem UV (cs:List Int) (l:List Int) {k:Nat} (h:k<l.length):MZ cs (l.drop k)=(Ae l[k] 0 ((cs.length:Int)-1)&&MZ cs (l.drop (k+1))):=by unfold MZ;grind [aB]
theorem Tz (cs:List Int) (q:DQuery) (hc:cs.length<=1048576) (hq:En q):Ctr prog 233 [.c (.sl (cs.map intC)),.agg q.c] [.val (.c (.v (.bool (CE cs q))))]:=by
 rw[GY] at hq;have hol:=hq.2;have hwl:IntKind.i64.wrap ((cs.length:Int)-1)=(cs.length:Int)-1:=wrap_i64 AOl AOl;have hin:Ae q.col 0 ((cs.length:Int)-1)=true->∃ m:Nat,q.col=m/\m<cs.length:=by intro hh;simp[Ae] at hh;exact⟨q.col.toNat,AOl,AOl⟩
 refine CM call233 func233 ntmps233 results233 fun hw=>?_;simp only[go_sem,aa];refine CW (lY cs q.p hc hq.1) fun _=>?_;rcases h1:NY cs q.p with _ | _
 .simp only[go_sem,CE,h1,ac]
 rcases k1:(q.kind==1) with _ | _;rotate_left
 .have hr:CE cs q=(MZ cs q.out&&((q.col==0)&&Ae q.out.length 1 3)):=by simp[CE,h1,k1]
  rw[hr];simp only[go_sem,aa,h1,k1];refine AAe 1 (A:=Nat) (fun k=>[(5,.c (.v (.int .i64 (k))))]) (fun _=>[⟨117,10,[AEe q],true,true⟩]) (fun k=>k<=q.out.length/\MZ cs (q.out.drop k)=MZ cs q.out) (fun k=>q.out.length-k) 0 ⟨⟨rfl,rfl⟩,rfl,aq _,rfl⟩ ?_;rintro k ⟨hk,hb⟩;refine AOe (fun h=>?_) fun h=>?_
  .have hk':k<q.out.length:=by simpa using h
   rw[UV cs q.out hk'] at hb;simp only[go_sem,aa,AA _ hk',hk',hwl];refine AAO _ (AP q.out[k] 0 _) fun _=>?_;rcases hv:Ae q.out[k] 0 ((cs.length:Int)-1) with _ | _
   .rw[hv,ac] at hb;simp only[go_sem,aa,hv,<- hb,ac]
   .rw[hv,ah] at hb;simp only[go_sem,aa,hv,wrap_i64 (n:=(k:Int)+1) AOl AOl];exact⟨k+1,⟨rfl,rfl⟩,rfl,⟨AOl,hb⟩,AOl⟩
  .have hk':k=q.out.length:=by simp at h; omega
   rw[hk',aK] at hb;have hb':MZ cs q.out=true:=by rw[<- hb]; rfl
   rw[hb',ah];rcases hA:(q.col==0) with _ | _
   .simp only[go_sem,aa,hA,ac]
   .simp only[go_sem,aa,hA,ah];refine AAO _ (AP q.out.length 1 3) fun _=>?_;simp only[go_sem,aa,hA,ah]
 rcases k2:(q.kind==2) with _ | _;rotate_left
 .have hr:CE cs q=((q.col==0)&&((q.out.length:Int)==0)):=by simp[CE,h1,k1,k2]
  rw[hr];rcases hA:(q.col==0) with _ | _
  .simp only[go_sem,aa,h1,k1,k2,hA,ac]
  .simp only[go_sem,aa,h1,k1,k2,hA,ah]
 rcases k3:(q.kind==3) with _ | _;rotate_left
 .have hr:CE cs q=(Ae q.col 0 ((cs.length:Int)-1)&&(((cs[q.col.toNat]?).getD 0==1)&&((q.out.length:Int)==0))):=by simp[CE,h1,k1,k2,k3]
  rw[hr];simp only[go_sem,aa,h1,k1,k2,k3,hwl];refine AAO _ (AP q.col 0 _) fun _=>?_;rcases c1:Ae q.col 0 ((cs.length:Int)-1) with _ | _
  .simp only[go_sem,aa,c1,ac]
  obtain⟨m,hm,hml⟩:=hin c1;have hgm:(cs[q.col.toNat]?).getD 0=cs[m]:=by rw[hm]; simp[hml]
  rw[hgm];rcases c2:(cs[m]==1) with _ | _
  .simp only[go_sem,aa,c1,c2,hm,AA _ hml,hml,ah,ac]
  .simp only[go_sem,aa,c1,c2,hm,AA _ hml,hml,ah]
 rcases k4:(q.kind==4) with _ | _;rotate_left
 .have hr:CE cs q=(Ae q.col 0 ((cs.length:Int)-1)&&((q.out.length:Int)==0)):=by simp[CE,h1,k1,k2,k3,k4]
  rw[hr];simp only[go_sem,aa,h1,k1,k2,k3,k4,hwl];exact AMl
 rcases k5:(q.kind==5) with _ | _;rotate_left
 .have hr:CE cs q=(Ae q.col 0 ((cs.length:Int)-1)&&((q.out.length:Int)==0)):=by simp[CE,h1,k1,k2,k3,k4,k5]
  rw[hr];simp only[go_sem,aa,h1,k1,k2,k3,k4,k5,hwl];exact AMl
 have hr:CE cs q=false:=by simp[CE,h1,k1,k2,k3,k4,k5]
 rw[hr];simp only[go_sem,aa,h1,k1,k2,k3,k4,k5]
theorem T_ (cs:List Int) (q:DQuery) (hc:cs.length<=1048576) (hq:En q):Ctr prog 256 [.c (.sl (cs.map intC)),.agg q.c] [.val (.c (.v (.bool (CE cs q))))]:=by
 rw[GY] at hq;have hol:=hq.2;have hwl:IntKind.i64.wrap ((cs.length:Int)-1)=(cs.length:Int)-1:=wrap_i64 AOl AOl;have hin:Ae q.col 0 ((cs.length:Int)-1)=true->∃ m:Nat,q.col=m/\m<cs.length:=by intro hh;simp[Ae] at hh;exact⟨q.col.toNat,AOl,AOl⟩
 refine CM call256 func256 ntmps256 results256 fun hw=>?_;simp only[go_sem,aa];refine CW (lZ cs q.p hc hq.1) fun _=>?_;rcases h1:NY cs q.p with _ | _
 .simp only[go_sem,CE,h1,ac]
 simp only[go_sem,aa,h1,hwl];refine AAO _ (AL q.col 0 _) fun _=>?_;rcases c1:Ae q.col 0 ((cs.length:Int)-1) with _ | _
 .rcases k1:(q.kind==1) with _ | _;rotate_left
  .exact AG7
  rcases k2:(q.kind==2) with _ | _;rotate_left
  .exact ALj
  have hr:CE cs q=false:=by simp[CE,h1,k1,k2,c1]
  rw[hr];rcases k3:(q.kind==3) with _ | _;rotate_left
  .simp only[go_sem,aa,h1,c1,k1,k2,k3]
  rcases k4:(q.kind==4) with _ | _;rotate_left
  .simp only[go_sem,aa,h1,c1,k1,k2,k3,k4]
  rcases k5:(q.kind==5) with _ | _;rotate_left
  .exact ANA
  exact ANA
 .rcases k1:(q.kind==1) with _ | _;rotate_left
  .exact AG7
  rcases k2:(q.kind==2) with _ | _;rotate_left
  .exact ALj
  rcases k3:(q.kind==3) with _ | _;rotate_left
  .obtain⟨m,hm,hml⟩:=hin c1;have hgm:(cs[q.col.toNat]?).getD 0=cs[m]:=by rw[hm]; simp[hml]
   have hr:CE cs q=((cs[m]==1)&&((q.out.length:Int)==0)):=by simp only[CE,h1,k1,k2,k3,c1,hgm]; rfl
   rw[hr];rcases c2:((q.out.length:Int)==0) with _ | _
   .simp only[go_sem,aa,h1,c1,c2,k1,k2,k3,ay]
   .simp only[go_sem,aa,h1,c1,c2,k1,k2,k3,hm,AA _ hml,hml,aw]
  have hr2:(q.kind==4)=true\/(q.kind==5)=true->CE cs q=((q.out.length:Int)==0):=by
   intro h45;rcases h45 with h45 | h45
   .simp[CE,h1,k1,k2,k3,h45,c1]
   .simp[CE,h1,k1,k2,k3,h45,c1]
  rcases k4:(q.kind==4) with _ | _;rotate_left
  .rw[hr2 (.inl k4)];simp only[go_sem,aa,h1,c1,k1,k2,k3,k4]
  rcases k5:(q.kind==5) with _ | _;rotate_left
  .rw[hr2 (.inr k5)];exact ANA
  have hr:CE cs q=false:=by simp[CE,h1,k1,k2,k3,k4,k5]
  rw[hr];exact ANA
