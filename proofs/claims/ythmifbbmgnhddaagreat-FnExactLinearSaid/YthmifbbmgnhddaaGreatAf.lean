/- A part. -/
import Derived.Test.YthmifbbmgnhddaaGreatDk
import Derived.Test.YthmifbbmgnhddaaGreatIa
set_option linter.unusedSimpArgs false
set_option linter.unusedVariables false
set_option maxHeartbeats 2000000
set_option maxRecDepth 10000
open Go.Proofs.Tryz
namespace Go.Proofs.YthmifbbmgnhddaaGreat
open Go.Vm
def zeroV:DVal:=⟨0,0,ByteArray.empty⟩
def Px (z:DVal×DVal) (v:DVal):DVal×DVal:=(if Dj v z.1=true then v else z.1,if Dj z.2 v=true then v else z.2)
def VF:List DVal→DVal×DVal
 | []=>(zeroV,zeroV)
 | v::vs=>vs.foldl Px (v,v)
def Yv (z:DVal×DVal):List Cl:=z.1.c++z.2.c
@[go_sem] theorem ALa (z:DVal×DVal):Yv z=z.1.c++z.2.c:=rfl
theorem ADT (v:DVal):Dj v v=false:=by
 have hb:∀ l:List UInt8,Op.bytesLess l l=false:=by
  intro l
  induction l with
  | nil=>rfl
  | cons x l ih=>simp[Op.bytesLess,ih]
 simp[Dj,hb]
theorem VG (v:DVal):Px (v,v) v=(v,v):=by simp[Px,ADT]
theorem vK {l:List DVal} (h:0<l.length):l.foldl Px (l[0],l[0])=VF l:=by
 cases l with
 | nil=>simp at h
 | cons v vs=>simp[VF,VG]
theorem VH {l:List DVal} {k:Nat} (h:k<l.length) (z:DVal×DVal):(l.drop k).foldl Px z=(l.drop (k+1)).foldl Px (Px z l[k]):=by
 rw[aA h,aby]
theorem eX (l:List DVal) (ha:l.length≤1099511627776):Ctr prog 397 [.c (.sl (l.map DVal.c))] [.val (.agg (Yv (VF l)))]:=by
 refine CM call397 func397 ntmps397 results397 fun hw=>?_
 simp only[go_sem,ae]
 refine AAT 2 (A:=Nat×(DVal×DVal)) (fun x=>[(4,.c (.v (.int .i64 (x.1))))]) (fun x=>[⟨320,6,[Yv (zeroV,zeroV)],true,true⟩,⟨320,6,[Yv x.2],true,true⟩]) (fun x=>x.1≤l.length∧if x.1=0 then x.2=(zeroV,zeroV) else(l.drop x.1).foldl Px x.2=VF l) (fun x=>l.length-x.1) (0,(zeroV,zeroV)) ⟨⟨rfl,rfl⟩,rfl,au _,rfl⟩ ?_
 rintro⟨k,z⟩ ⟨hk,hf⟩
 dsimp only at hk hf
 refine AQy (fun h=>?_) fun h=>?_
 ·have hk':k<l.length:=by simpa using h
  rcases hz:((k:Int)==0) with _ | _
  ·have hk0:k≠0:=by simp at hz; omega
   rw[bu hk0,VH hk'] at hf
   simp only[go_sem,ae,AA _ hk',hk',hz]
   refine AAO ?_
   simp only[go_sem,ae,AA _ hk',hk',hz]
   refine CY (Gz l[k] z.1) ?_
   rcases h1:Dj l[k] z.1 with _ | _
   all_goals
    simp only[go_sem,ae,AA _ hk',hk',hz,h1]
    refine AAO ?_
    simp only[go_sem,ae,AA _ hk',hk',hz,h1]
    refine CY (Gz z.2 l[k]) ?_
    rcases h2:Dj z.2 l[k] with _ | _
    all_goals
     simp only[go_sem,ae,AA _ hk',hk',hz,h1,h2,wrap_i64 (n:=(k:Int)+1) AQ2 AQ2]
     refine⟨(k+1,Px z l[k]),⟨rfl,rfl⟩, ?_,⟨AQ2,AQ6⟩,AQ4⟩
     simp only[Px,h1,h2,go_sem,reduceIte,ay]
     rfl
  ·have hk0:k=0:=by simp at hz; omega
   subst hk0
   simp only[go_sem,ae,AA _ hk',hk',hz]
   try refine AAO ?_
   try simp only[go_sem,ae,AA _ hk',hk',hz]
   try refine AAO ?_
   try simp only[go_sem,ae,AA _ hk',hk',hz]
   exact⟨(1,(l[0],l[0])),⟨rfl,rfl⟩,rfl,⟨AQ2,by rw[bu AQ2]; rw[← vK hk',← VG l[0],← VH hk',VG]; rfl⟩,AQ2⟩
 ·have hk':k=l.length:=by simp at h; omega
  have hz:z=VF l:=by
   split at hf
   ·have:l = []:=by apply bY; omega
    subst this; exact hf
   ·grind
  subst hz
  exact AIu
theorem eY (l:List DVal) (ha:l.length≤1099511627776):Ctr prog 373 [.c (.sl (l.map DVal.c))] [.val (.agg (Yv (VF l)))]:=by
 refine CM call373 func373 ntmps373 results373 fun hw=>?_
 refine AQy (fun h=>?_) fun h=>?_
 ·have hk':l = []:=by simpa using h
  subst hk'
  simp only[go_sem,ae]
  try simp[VF,Yv,DVal.c_eq,zeroV]
 ·have h0:0<l.length:=by simp at h; exact aaQ.2 h
  simp only[go_sem,ae,AA _ h0,h0]
  refine AAR ?_
  have h00:((0:Int)==0)=true:=rfl
  simp only[go_sem,ae,AA _ h0,h0]
  refine AAT 2 (A:=Nat×(DVal×DVal)) (fun x=>[(19,.c (.v (.int .i64 (x.1))))]) (fun x=>[⟨320,6,[Yv (zeroV,zeroV)],true,true⟩,⟨320,6,[Yv x.2],true,true⟩]) (fun x=>x.1≤l.length∧(l.drop x.1).foldl Px x.2=VF l) (fun x=>l.length-x.1) (0,(l[0],l[0])) ⟨⟨rfl,rfl⟩,rfl,au _,vK h0⟩ ?_
  rintro⟨k,z⟩ ⟨hk,hf⟩
  dsimp only at hk hf
  simp (maxSteps:=1000000) only[go_sem,ae]
  refine AAP (fun h=>?_) (fun h=>?_)
  ·have hk':k<l.length:=by simpa using h
   rw[VH hk'] at hf
   simp (maxSteps:=1000000) only[go_sem,ae,AA _ hk',hk']
   refine CW (Ie l[k] z.1) fun _=>?_
   rcases h1:Dj l[k] z.1 with _ | _
   all_goals
    simp (maxSteps:=1000000) only[go_sem,ae,AA _ hk',hk',h1]
    refine CW (Ie z.2 l[k]) fun _=>?_
    rcases h2:Dj z.2 l[k] with _ | _
    all_goals
     simp (maxSteps:=1000000) only[go_sem,ae,AA _ hk',hk',h1,h2,wrap_i64 (n:=(k:Int)+1) AQ2 AQ2]
     refine⟨(k+1,Px z l[k]),⟨rfl,rfl⟩, ?_,⟨AQ2,hf⟩,AQ2⟩
     simp only[Px,h1,h2,go_sem,reduceIte,ay]
     rfl
  ·have hk':k=l.length:=by simp at h; omega
   have hz:z=VF l:=by
    subst hk'
    simpa using hf
   subst hz
   simp (maxSteps:=1000000) only[go_sem]
def EC (p:DPred):Bool:=(p.col==0)&&((p.op==0)&&((p.v.ty==0)&&((p.v.n==0)&&(p.v.s.toList==ByteArray.empty.toList))))
def Ja (cs:List Int) (p:DPred):Bool:=Ad p.col 0 ((cs.length:Int)-1)&&(Ad p.op 1 6&&(BO p.v&&(p.v.ty==(cs[p.col.toNat]?).getD 0)))
def FP (cs:List Int) (p:DPred):Bool:=
 if(p.kind==1)=true then EC p&&((p.l.length:Int)==0) else
 if(p.kind==2)=true then Ja cs p&&((p.l.length:Int)==0) else
 if(p.kind==3)=true then EC p&&Ad p.l.length 1 4 else
 if(p.kind==4)=true then EC p&&Ad p.l.length 1 4 else
 if(p.kind==5)=true then EC p&&((p.l.length:Int)==1) else false
def JZ (cs:List Int):Nat→DPred→Bool
 | 0,_=>false
 | d+1,p=>(p.l.all fun q=>JZ cs d q)&&FP cs p
def CJ:Nat→DPred→Nat
 | 0,_=>0
 | d+1,p=>1+(p.l.map fun q=>CJ d q).sum
theorem mY {cs:List Int} {p:DPred} (h:FP cs p=true):p.l.length≤4:=by
 unfold FP at h
 by_cases hl:p.l.length≤4
 ·exact hl
 have e1:((p.l.length:Int)==0)=false:=by simp; intro h0; simp[h0] at hl
 have e2:Ad p.l.length 1 4=false:=by simp[Ad]; omega
 have e3:((p.l.length:Int)==1)=false:=AQ5
 rw[e1,e2,e3] at h
 repeat' split at h
 all_goals simp at h
theorem Na {cs:List Int}:∀ (d:Nat) (p:DPred),JZ cs d p=true→3*CJ d p+1≤4 ^ d
 | 0,p,h=>by simp[JZ] at h
 | d+1,p,h=>by
  rw[JZ,az] at h
  have hl:=mY h.2
  have hs:∀ l:List DPred,(l.all fun q=>JZ cs d q)=true→3*(l.map fun q=>CJ d q).sum+l.length≤l.length*4 ^ d:=by
   intro l
   induction l with
   | nil=>intro _; simp
   | cons x l ih =>
    intro hx
    rw[aW,az] at hx
    have h1:=Na d x hx.1
    have h2:=ih hx.2
    simp only[TA,List.sum_cons,bz,sD,Nat.one_mul]
    omega
  have h1:=hs p.l h.1
  have h2:p.l.length*(4 ^ d-1)≤4*(4 ^ d-1):=aaG _ hl
  have h3:0<4 ^ d:=Nat.pow_pos AQ2
  rw[Nat.mul_sub,Nat.mul_sub] at h2
  rw[CJ,Nat.pow_succ]
  omega
theorem AFA (d:Nat) (p:DPred):1≤CJ (d+1) p:=by rw[CJ]; omega
theorem MC (d:Nat) (l:List DPred) {k:Nat} (h:k<l.length):((l.drop k).map fun q=>CJ d q).sum=CJ d l[k]+((l.drop (k+1)).map fun q=>CJ d q).sum:=by
 rw[aA h]; rfl
theorem MF (cs:List Int) (d:Nat) (l:List DPred) {k:Nat} (h:k<l.length):((l.drop k).all fun q=>JZ cs d q)=(JZ cs d l[k]&&(l.drop (k+1)).all fun q=>JZ cs d q):=by
 rw[aA h]; rfl
theorem R_ (cs:List Int):∀ (d:Nat) (p:DPred),d≤4→Ap p→JZ cs d p=true→Ctr prog 330 [.agg p.c] [.val (.c (.v (.int .i64 (CJ d p))))]
 | 0,p,_,_,h=>by simp[JZ] at h
 | d+1,p,hd,hf,h=>by
  have hcb:=Na _ p h
  have hpw:4 ^ (d+1)≤4 ^ 4:=aaH AQ2 hd
  rw[JZ,az] at h
  rw[CJ] at hcb ⊢
  rw[BG] at hf
  have hlen:=hf.2.1
  refine CM call330 func330 ntmps330 results330 fun hw=>?_
  simp only[go_sem,ae]
  refine AAT 1 (A:=Nat×Nat) (fun x=>[(3,.c (.v (.int .i64 (x.2)))),(4,.c (.v (.int .i64 (x.1))))]) (fun _=>[⟨69,7,[[.v (.int .i64 p.kind),.v (.int .i64 p.col),.v (.int .i64 p.op),.v (.int .i64 p.v.ty),.v (.int .i64 p.v.n),.v (.string p.v.s),.sl (p.l.map DPred.c)]],true,true⟩]) (fun x=>x.1≤p.l.length∧x.2+((p.l.drop x.1).map fun q=>CJ d q).sum=1+(p.l.map fun q=>CJ d q).sum) (fun x=>p.l.length-x.1) (0,1) ⟨⟨rfl,rfl⟩,rfl,au _,rfl⟩ ?_
  rintro⟨k,n⟩ ⟨hk,hb⟩
  dsimp only at hk hb
  simp only[go_sem,ae]
  refine AAP (fun h2=>?_) (fun h2=>?_)
  ·have hk':k<p.l.length:=by simpa using h2
   have hok:JZ cs d p.l[k]=true:=aS.1 h.1 _ (aj hk')
   rw[MC d p.l hk'] at hb
   have hw1:IntKind.i64.wrap ((n:Int)+(CJ d p.l[k]:Int))=((n+CJ d p.l[k]:Nat):Int):=AQ7
   simp only[go_sem,ae,AA _ hk',hk']
   try refine AAO ?_
   try simp only[go_sem,ae,AA _ hk',hk']
   first | refine AAS _ (by simpa only[go_sem] using R_ cs d p.l[k] AQ2 (hf.2.2 _ (aj hk')) hok) ?_ | refine AAN _ (by simpa only[go_sem] using R_ cs d p.l[k] AQ2 (hf.2.2 _ (aj hk')) hok) fun _=>?_
   simp only[go_sem,ae,hw1,wrap_i64 (n:=(k:Int)+1) AQ2 AQ2]
   exact⟨(k+1,n+CJ d p.l[k]),⟨rfl,rfl⟩,rfl,⟨AQ2,AQ4⟩,AQ4⟩
  ·have hk':k=p.l.length:=by simp at h2; omega
   subst hk'
   rw[aJ] at hb
   have:n=1+(p.l.map fun q=>CJ d q).sum:=ARZ
   subst this
   exact AIu
theorem VI (cs:List Int) (hc:cs.length≤1048576):∀ (d:Nat) (e:Int) (p:DPred),e+d=5→d≤4→Ap p→Ctr prog 329 [.c (.sl (cs.map intC)),.agg p.c,.c (.v (.int .i64 (e)))] [.val (.c (.v (.bool (JZ cs d p))))]
 | 0,e,p,he,_,_=>by
  refine CM call329 func329 ntmps329 results329 fun hw=>?_
  have h1:decide (e>4)=true:=AQ5
  simp only[go_sem,ae,h1,JZ]
 | d+1,e,p,he,hd,hf=>by
  rw[BG] at hf
  have hlen:=hf.2.1
  rw[JZ]
  refine CM call329 func329 ntmps329 results329 fun hw=>?_
  have h1:decide (e>4)=false:=AQ5
  simp only[go_sem,ae,h1]
  refine AAT 1 (A:=Nat) (fun k=>[(7,.c (.v (.int .i64 (k))))]) (fun _=>[⟨69,7,[[.v (.int .i64 p.kind),.v (.int .i64 p.col),.v (.int .i64 p.op),.v (.int .i64 p.v.ty),.v (.int .i64 p.v.n),.v (.string p.v.s),.sl (p.l.map DPred.c)]],true,true⟩]) (fun k=>k≤p.l.length∧((p.l.drop k).all fun q=>JZ cs d q)=(p.l.all fun q=>JZ cs d q)) (fun k=>p.l.length-k) 0 ⟨⟨rfl,rfl⟩,rfl,au _,rfl⟩ ?_
  rintro k ⟨hk,hb⟩
  simp only[go_sem,ae]
  refine AAP (fun h2=>?_) (fun h2=>?_)
  ·have hk':k<p.l.length:=by simpa using h2
   rw[MF cs d p.l hk'] at hb
   simp only[go_sem,ae,AA _ hk',hk',wrap_i64 (n:=e+1) AQ2 AQ2]
   try refine AAO ?_
   try simp only[go_sem,ae,AA _ hk',hk',wrap_i64 (n:=e+1) AQ2 AQ2]
   first | refine AAS _ (by simpa only[go_sem] using VI cs hc d (e+1) p.l[k] AQ2 AQ2 (hf.2.2 _ (aj hk'))) ?_ | refine AAN _ (by simpa only[go_sem] using VI cs hc d (e+1) p.l[k] AQ2 AQ2 (hf.2.2 _ (aj hk'))) fun _=>?_
   rcases hv:JZ cs d p.l[k] with _ | _
   ·rw[hv,ag] at hb
    simp only[go_sem,hv]
    rw[← hb,ag]
   ·rw[hv,ah] at hb
    simp only[go_sem,hv,wrap_i64 (n:=(k:Int)+1) AQ2 AQ2]
    exact⟨k+1,⟨rfl,rfl⟩,rfl,⟨AQ2,hb⟩,AQ2⟩
  ·have hk':k=p.l.length:=by simp at h2; omega
   rw[hk',aJ,bn] at hb
   rw[← hb,ah]
   clear hb
   have hin:Ad p.col 0 ((cs.length:Int)-1)=true→∃ m:Nat,p.col=m∧m<cs.length:=by
    intro hh
    simp[Ad] at hh
    exact⟨p.col.toNat,AQ2,AQ2⟩
   have hwl:IntKind.i64.wrap ((cs.length:Int)-1)=(cs.length:Int)-1:=wrap_i64 AQ2 AQ2
   rcases k2:(p.kind==2) with _ | _
   ·rcases k1:(p.kind==1) with _ | _
    ·rcases k3:(p.kind==3) with _ | _
     ·rcases k4:(p.kind==4) with _ | _
      ·rcases k5:(p.kind==5) with _ | _
       ·have hsh:FP cs p=false:=by simp[FP,k1,k2,k3,k4,k5]
        rw[hsh]
        rcases hA:(p.col==0) with _ | _
        ·simp only[go_sem,ae,hA,k1,k2,k3,k4,k5]
        rcases hB:(p.op==0) with _ | _
        ·simp only[go_sem,ae,hA,hB,k1,k2,k3,k4,k5]
        simp only[go_sem,ae,hA,hB,k1,k2,k3,k4,k5,Dx,G9]
       ·have hsh:FP cs p=(EC p&&((p.l.length:Int)==1)):=by simp[FP,k1,k2,k3,k4,k5]
        rw[hsh]
        rcases hA:(p.col==0) with _ | _
        ·simp only[go_sem,ae,hA,k1,k2,k3,k4,k5,EC,ag]
        rcases hB:(p.op==0) with _ | _
        ·simp only[go_sem,ae,hA,hB,k1,k2,k3,k4,k5,EC,ag,aK]
        rcases hE:((p.v.ty==0)&&((p.v.n==0)&&(p.v.s.toList==ByteArray.empty.toList))) with _ | _
        all_goals simp only[go_sem,ae,hA,hB,hE,k1,k2,k3,k4,k5,Dx,G9,EC,ah,ag]
      ·have hsh:FP cs p=(EC p&&Ad p.l.length 1 4):=by simp[FP,k1,k2,k3,k4]
       rw[hsh]
       rcases hA:(p.col==0) with _ | _
       ·simp only[go_sem,ae,hA,k1,k2,k3,k4,EC,ag]
       rcases hB:(p.op==0) with _ | _
       ·simp only[go_sem,ae,hA,hB,k1,k2,k3,k4,EC,ag,aK]
       rcases hE:((p.v.ty==0)&&((p.v.n==0)&&(p.v.s.toList==ByteArray.empty.toList))) with _ | _
       ·simp only[go_sem,ae,hA,hB,hE,k1,k2,k3,k4,Dx,G9,EC,ah,ag]
       ·simp only[go_sem,ae,hA,hB,hE,k1,k2,k3,k4,Dx,G9,EC,ah,ag]
        refine AAN _ (AQ p.l.length 1 4) fun _=>?_
        simp only[go_sem,ae,hA,hB,hE,k1,k2,k3,k4,Dx,G9,EC,ah,ag]
     ·have hsh:FP cs p=(EC p&&Ad p.l.length 1 4):=by simp[FP,k1,k2,k3]
      rw[hsh]
      rcases hA:(p.col==0) with _ | _
      ·simp only[go_sem,ae,hA,k1,k2,k3,EC,ag]
      rcases hB:(p.op==0) with _ | _
      ·simp only[go_sem,ae,hA,hB,k1,k2,k3,EC,ag,aK]
      rcases hE:((p.v.ty==0)&&((p.v.n==0)&&(p.v.s.toList==ByteArray.empty.toList))) with _ | _
      ·simp only[go_sem,ae,hA,hB,hE,k1,k2,k3,Dx,G9,EC,ah,ag]
      ·simp only[go_sem,ae,hA,hB,hE,k1,k2,k3,Dx,G9,EC,ah,ag]
       refine AAN _ (AQ p.l.length 1 4) fun _=>?_
       simp only[go_sem,ae,hA,hB,hE,k1,k2,k3,Dx,G9,EC,ah,ag]
    ·have hsh:FP cs p=(EC p&&((p.l.length:Int)==0)):=by simp[FP,k1]
     rw[hsh]
     rcases hA:(p.col==0) with _ | _
     ·simp only[go_sem,ae,hA,k1,EC,ag]
     rcases hB:(p.op==0) with _ | _
     ·simp only[go_sem,ae,hA,hB,k1,EC,ag,aK]
     rcases hE:((p.v.ty==0)&&((p.v.n==0)&&(p.v.s.toList==ByteArray.empty.toList))) with _ | _
     all_goals simp only[go_sem,ae,hA,hB,hE,k1,Dx,G9,EC,ah,ag]
   ·have k1:(p.kind==1)=false:=by simp at k2 ⊢; omega
    have hsh:FP cs p=(Ja cs p&&((p.l.length:Int)==0)):=by simp[FP,k1,k2]
    rw[hsh]
    rcases hA:(p.col==0) with _ | _
    ·simp only[go_sem,ae,hA,k1,k2,hwl,Dx,G9]
     refine AAO ?_
     simp only[go_sem,ae,hA,k1,k2,hwl]
     exact AFy
    rcases hB:(p.op==0) with _ | _
    ·simp only[go_sem,ae,hA,hB,k1,k2,hwl,Dx,G9]
     refine AAO ?_
     simp only[go_sem,ae,hA,hB,k1,k2,hwl]
     exact AFy
    simp only[go_sem,ae,hA,hB,k1,k2,hwl,Dx,G9]
    refine AAO ?_
    simp only[go_sem,ae,hA,hB,k1,k2,hwl]
    exact AFy
def V3 (p:DPred):List Cl:=[.v (.int .i64 p.kind),.v (.int .i64 p.col),.v (.int .i64 p.op),.v (.int .i64 p.v.ty),.v (.int .i64 p.v.n),.v (.string p.v.s),.sl (p.l.map DPred.c)]
@[go_sem] theorem AJT (p:DPred):V3 p = [.v (.int .i64 p.kind),.v (.int .i64 p.col),.v (.int .i64 p.op),.v (.int .i64 p.v.ty),.v (.int .i64 p.v.n),.v (.string p.v.s),.sl (p.l.map DPred.c)]:=rfl
def V4 (c:Int) (p:DPred):List Cl:=[.v (.int .i64 p.kind),.v (.int .i64 c),.v (.int .i64 p.op),.v (.int .i64 p.v.ty),.v (.int .i64 p.v.n),.v (.string p.v.s),.sl (p.l.map DPred.c)]
@[go_sem] theorem AIl (c:Int) (p:DPred):V4 c p = [.v (.int .i64 p.kind),.v (.int .i64 c),.v (.int .i64 p.op),.v (.int .i64 p.v.ty),.v (.int .i64 p.v.n),.v (.string p.v.s),.sl (p.l.map DPred.c)]:=rfl
def Dz (cs:List Int) (d:Nat) (p:DPred):Int:=if JZ cs d p=true then(CJ d p:Int) else -1
theorem ACD {cs:List Int} {d:Nat} {p:DPred} (h:FP cs p=false):Dz cs (d+1) p = -1:=by simp[Dz,JZ,h]
theorem ADU (cs:List Int) (hc:cs.length≤1048576) (d:Nat) (p:DPred) (hd:d+1≤4) (hlen:p.l.length≤1048576) (hx:∀ x∈p.l,Ctr prog 331 [.c (.sl (cs.map intC)),.agg x.c,.c (.v (.int .i64 (d)))] [.val (.c (.v (.int .i64 (Dz cs d x))))]):Ctr prog 331 [.c (.sl (cs.map intC)),.agg p.c,.c (.v (.int .i64 ((d+1:Nat))))] [.val (.c (.v (.int .i64 (Dz cs (d+1) p))))]:=by
 refine CM call331 func331 ntmps331 results331 fun hw=>?_
 have h1:decide (((d+1:Nat):Int)<1)=false:=AQ5
 have hdw:IntKind.i64.wrap (((d+1:Nat):Int)-1)=(d:Int):=AQ7
 have hin:Ad p.col 0 ((cs.length:Int)-1)=true→∃ m:Nat,p.col=m∧m<cs.length:=by
  intro hh
  simp[Ad] at hh
  exact⟨p.col.toNat,AQ2,AQ2⟩
 have hwl:IntKind.i64.wrap ((cs.length:Int)-1)=(cs.length:Int)-1:=wrap_i64 AQ2 AQ2
 rcases hl4:decide ((p.l.length:Int)>4) with _ | _
 rotate_left
 ·have hno:FP cs p=false:=by
   rcases h:FP cs p with _ | _
   ·rfl
   ·have:=mY h; simp at hl4; omega
  rw[ACD hno]
  simp only[go_sem,ae,h1,hl4]
 rcases hs:FP cs p with _ | _
 ·rw[ACD hs]
  rcases k1:(p.kind==1) with _ | _
  rotate_left
  ·have hs1:(EC p&&((p.l.length:Int)==0))=false:=by simpa [FP,k1] using hs
   rcases hA:(p.col==0) with _ | _
   ·simp only[go_sem,ae,h1,hl4,hA,k1]
   rcases hB:(p.op==0) with _ | _
   ·simp only[go_sem,ae,h1,hl4,hA,hB,k1]
   rcases hE:((p.v.ty==0)&&((p.v.n==0)&&(p.v.s.toList==ByteArray.empty.toList))) with _ | _
   ·simp only[go_sem,ae,h1,hl4,hA,hB,hE,k1,Dx,G9]
   ·have hbt:EC p=true:=by simp only[EC,hA,hB,ah]; exact hE
    have hl0:((p.l.length:Int)==0)=false:=AR9
    simp only[go_sem,ae,h1,hl4,hA,hB,hE,k1,Dx,G9,hl0]
  rcases k2:(p.kind==2) with _ | _
  rotate_left
  ·have hs1:(Ja cs p&&((p.l.length:Int)==0))=false:=by simpa [FP,k1,k2] using hs
   rcases hA:(p.col==0) with _ | _
   ·simp only[go_sem,ae,h1,hl4,hwl,hA,k1,k2,Dx,G9]
    refine AAO ?_
    simp only[go_sem,ae,h1,hl4,hwl,hA,k1,k2]
    exact AFz
   rcases hB:(p.op==0) with _ | _
   ·simp only[go_sem,ae,h1,hl4,hwl,hA,hB,k1,k2,Dx,G9]
    refine AAO ?_
    simp only[go_sem,ae,h1,hl4,hwl,hA,hB,k1,k2]
    exact AFz
   simp only[go_sem,ae,h1,hl4,hwl,hA,hB,k1,k2,Dx,G9]
   refine AAO ?_
   simp only[go_sem,ae,h1,hl4,hwl,hA,hB,k1,k2]
   exact AFz
  rcases k3:(p.kind==3) with _ | _
  rotate_left
  ·have hs1:(EC p&&Ad p.l.length 1 4)=false:=by simpa [FP,k1,k2,k3] using hs
   rcases hA:(p.col==0) with _ | _
   ·simp only[go_sem,ae,h1,hl4,hA,k1,k2,k3]
   rcases hB:(p.op==0) with _ | _
   ·simp only[go_sem,ae,h1,hl4,hA,hB,k1,k2,k3]
   rcases hE:((p.v.ty==0)&&((p.v.n==0)&&(p.v.s.toList==ByteArray.empty.toList))) with _ | _
   ·simp only[go_sem,ae,h1,hl4,hA,hB,hE,k1,k2,k3,Dx,G9]
   ·have hbt:EC p=true:=by simp only[EC,hA,hB,ah]; exact hE
    have hl0:Ad p.l.length 1 4=false:=AR9
    have hl1:decide ((p.l.length:Int)≥1)=false:=by simp[Ad] at hl0 hl4 ⊢; omega
    simp only[go_sem,ae,h1,hl4,hA,hB,hE,k1,k2,k3,Dx,G9,hl1]
  rcases k4:(p.kind==4) with _ | _
  rotate_left
  ·have hs1:(EC p&&Ad p.l.length 1 4)=false:=by simpa [FP,k1,k2,k3,k4] using hs
   rcases hA:(p.col==0) with _ | _
   ·simp only[go_sem,ae,h1,hl4,hA,k1,k2,k3,k4]
   rcases hB:(p.op==0) with _ | _
   ·simp only[go_sem,ae,h1,hl4,hA,hB,k1,k2,k3,k4]
   rcases hE:((p.v.ty==0)&&((p.v.n==0)&&(p.v.s.toList==ByteArray.empty.toList))) with _ | _
   ·simp only[go_sem,ae,h1,hl4,hA,hB,hE,k1,k2,k3,k4,Dx,G9]
   ·have hbt:EC p=true:=by simp only[EC,hA,hB,ah]; exact hE
    have hl0:Ad p.l.length 1 4=false:=AR9
    have hl1:decide ((p.l.length:Int)≥1)=false:=by simp[Ad] at hl0 hl4 ⊢; omega
    simp only[go_sem,ae,h1,hl4,hA,hB,hE,k1,k2,k3,k4,Dx,G9,hl1]
  rcases k5:(p.kind==5) with _ | _
  rotate_left
  ·have hs1:(EC p&&((p.l.length:Int)==1))=false:=by simpa [FP,k1,k2,k3,k4,k5] using hs
   rcases hA:(p.col==0) with _ | _
   ·simp only[go_sem,ae,h1,hl4,hA,k1,k2,k3,k4,k5]
   rcases hB:(p.op==0) with _ | _
   ·simp only[go_sem,ae,h1,hl4,hA,hB,k1,k2,k3,k4,k5]
   rcases hE:((p.v.ty==0)&&((p.v.n==0)&&(p.v.s.toList==ByteArray.empty.toList))) with _ | _
   ·simp only[go_sem,ae,h1,hl4,hA,hB,hE,k1,k2,k3,k4,k5,Dx,G9]
   ·have hbt:EC p=true:=by simp only[EC,hA,hB,ah]; exact hE
    have hl0:((p.l.length:Int)==1)=false:=AR9
    simp only[go_sem,ae,h1,hl4,hA,hB,hE,k1,k2,k3,k4,k5,Dx,G9,hl0]
  rcases hA:(p.col==0) with _ | _
  ·simp only[go_sem,ae,h1,hl4,hA,k1,k2,k3,k4,k5]
  rcases hB:(p.op==0) with _ | _
  ·simp only[go_sem,ae,h1,hl4,hA,hB,k1,k2,k3,k4,k5]
  simp only[go_sem,ae,h1,hl4,hA,hB,k1,k2,k3,k4,k5,Dx,G9]
 ·have hbare:EC p=true→(p.col==0)=true∧(p.op==0)=true∧((p.v.ty==0)&&((p.v.n==0)&&(p.v.s.toList==ByteArray.empty.toList)))=true:=by
   intro hh
   simp only[EC,az] at hh
   simp only[az]
   exact hh
  have hs0:=hs
  unfold FP at hs0
  rcases k1:(p.kind==1) with _ | _
  rotate_left
  ·have hs1:(EC p&&((p.l.length:Int)==0))=true:=by simpa [k1] using hs0
   rw[az] at hs1
   obtain⟨hA,hB,hE⟩:=hbare hs1.1
   have hl0:=hs1.2
   simp only[go_sem,ae,h1,hl4,k1,hA,hB,hE,hl0,Dx,G9]
   refine AAT 1 (A:=Nat×Nat) (fun x=>[(9,.c (.v (.int .i64 (x.2)))),(105,.c (.v (.int .i64 (x.1))))]) (fun _=>[⟨69,7,[V3 p],true,true⟩]) (fun x=>x.1≤p.l.length∧((p.l.drop x.1).all fun q=>JZ cs d q)=(p.l.all fun q=>JZ cs d q)∧x.2+((p.l.drop x.1).map fun q=>CJ d q).sum=1+(p.l.map fun q=>CJ d q).sum∧x.2≤1+100*x.1) (fun x=>p.l.length-x.1) (0,1) ⟨⟨rfl,rfl⟩,rfl,au _,rfl,rfl,AQ3⟩ ?_
   exact AE5
  rcases k2:(p.kind==2) with _ | _
  rotate_left
  ·have hs1:(Ja cs p&&((p.l.length:Int)==0))=true:=by simpa [k1,k2] using hs0
   rw[az] at hs1
   have hl0:=hs1.2
   have hs2:=hs1.1
   simp only[Ja,az] at hs2
   obtain⟨c1,c4,c2,c3⟩:=hs2
   obtain⟨m,hm,hml⟩:=hin c1
   have hgm:(cs[p.col.toNat]?).getD 0=cs[m]:=by rw[hm]; simp[hml]
   rw[hgm] at c3
   have c1':=c1
   rw[hm] at c1'
   have fin:∀ P:Prop,P→P:=fun _ h=>h
   rcases hA:(p.col==0) with _ | _
   ·simp only[go_sem,ae,h1,hl4,hwl,hA,k1,k2,Dx,G9]
    refine AAO ?_
    simp only[go_sem,ae,h1,hl4,hwl,hA,k1,k2]
    refine AAS _ (AL p.col 0 _) ?_
    simp only[go_sem,ae,h1,hl4,hwl,k1,k2,c1]
    refine AAS _ (AL p.op 1 6) ?_
    simp only[go_sem,ae,h1,hl4,hwl,k1,k2,c1,c4]
    refine CY (Dv p.v) ?_
    simp only[go_sem,ae,h1,hl4,hwl,k1,k2,c1,c2,c3,c4,hm,AA _ hml,hml,hl0]
    refine AAT 1 (A:=Nat×Nat) (fun x=>[(9,.c (.v (.int .i64 (x.2)))),(105,.c (.v (.int .i64 (x.1))))]) (fun _=>[⟨69,7,[V4 m p],true,true⟩]) (fun x=>x.1≤p.l.length∧((p.l.drop x.1).all fun q=>JZ cs d q)=(p.l.all fun q=>JZ cs d q)∧x.2+((p.l.drop x.1).map fun q=>CJ d q).sum=1+(p.l.map fun q=>CJ d q).sum∧x.2≤1+100*x.1) (fun x=>p.l.length-x.1) (0,1) ⟨⟨rfl,rfl⟩,rfl,au _,rfl,rfl,AQ3⟩ ?_
    exact AE5
   rcases hB:(p.op==0) with _ | _
   ·simp only[go_sem,ae,h1,hl4,hwl,hA,hB,k1,k2,Dx,G9]
    refine AAO ?_
    simp only[go_sem,ae,h1,hl4,hwl,hA,hB,k1,k2]
    refine AAS _ (AL p.col 0 _) ?_
    simp only[go_sem,ae,h1,hl4,hwl,k1,k2,c1]
    refine AAS _ (AL p.op 1 6) ?_
    simp only[go_sem,ae,h1,hl4,hwl,k1,k2,c1,c4]
    refine CY (Dv p.v) ?_
    simp only[go_sem,ae,h1,hl4,hwl,k1,k2,c1,c2,c3,c4,hm,AA _ hml,hml,hl0]
    refine AAT 1 (A:=Nat×Nat) (fun x=>[(9,.c (.v (.int .i64 (x.2)))),(105,.c (.v (.int .i64 (x.1))))]) (fun _=>[⟨69,7,[V4 m p],true,true⟩]) (fun x=>x.1≤p.l.length∧((p.l.drop x.1).all fun q=>JZ cs d q)=(p.l.all fun q=>JZ cs d q)∧x.2+((p.l.drop x.1).map fun q=>CJ d q).sum=1+(p.l.map fun q=>CJ d q).sum∧x.2≤1+100*x.1) (fun x=>p.l.length-x.1) (0,1) ⟨⟨rfl,rfl⟩,rfl,au _,rfl,rfl,AQ3⟩ ?_
    exact AE5
   simp only[go_sem,ae,h1,hl4,hwl,hA,hB,k1,k2,Dx,G9]
   refine AAO ?_
   simp only[go_sem,ae,h1,hl4,hwl,hA,hB,k1,k2]
   refine AAS _ (AL p.col 0 _) ?_
   simp only[go_sem,ae,h1,hl4,hwl,k1,k2,c1]
   refine AAS _ (AL p.op 1 6) ?_
   simp only[go_sem,ae,h1,hl4,hwl,k1,k2,c1,c4]
   refine CY (Dv p.v) ?_
   simp only[go_sem,ae,h1,hl4,hwl,k1,k2,c1,c2,c3,c4,hm,AA _ hml,hml,hl0]
   refine AAT 1 (A:=Nat×Nat) (fun x=>[(9,.c (.v (.int .i64 (x.2)))),(105,.c (.v (.int .i64 (x.1))))]) (fun _=>[⟨69,7,[V4 m p],true,true⟩]) (fun x=>x.1≤p.l.length∧((p.l.drop x.1).all fun q=>JZ cs d q)=(p.l.all fun q=>JZ cs d q)∧x.2+((p.l.drop x.1).map fun q=>CJ d q).sum=1+(p.l.map fun q=>CJ d q).sum∧x.2≤1+100*x.1) (fun x=>p.l.length-x.1) (0,1) ⟨⟨rfl,rfl⟩,rfl,au _,rfl,rfl,AQ3⟩ ?_
   exact AE5
  rcases k3:(p.kind==3) with _ | _
  rotate_left
  ·have hs1:(EC p&&Ad p.l.length 1 4)=true:=by simpa [k1,k2,k3] using hs0
   rw[az] at hs1
   obtain⟨hA,hB,hE⟩:=hbare hs1.1
   have hl0:=hs1.2
   have hl1:decide ((p.l.length:Int)≥1)=true:=by simp[Ad] at hl0 ⊢; omega
   simp only[go_sem,ae,h1,hl4,k1,k2,k3,hA,hB,hE,hl1,Dx,G9]
   refine AAT 1 (A:=Nat×Nat) (fun x=>[(9,.c (.v (.int .i64 (x.2)))),(105,.c (.v (.int .i64 (x.1))))]) (fun _=>[⟨69,7,[V3 p],true,true⟩]) (fun x=>x.1≤p.l.length∧((p.l.drop x.1).all fun q=>JZ cs d q)=(p.l.all fun q=>JZ cs d q)∧x.2+((p.l.drop x.1).map fun q=>CJ d q).sum=1+(p.l.map fun q=>CJ d q).sum∧x.2≤1+100*x.1) (fun x=>p.l.length-x.1) (0,1) ⟨⟨rfl,rfl⟩,rfl,au _,rfl,rfl,AQ3⟩ ?_
   exact AE5
  rcases k4:(p.kind==4) with _ | _
  rotate_left
  ·have hs1:(EC p&&Ad p.l.length 1 4)=true:=by simpa [k1,k2,k3,k4] using hs0
   rw[az] at hs1
   obtain⟨hA,hB,hE⟩:=hbare hs1.1
   have hl0:=hs1.2
   have hl1:decide ((p.l.length:Int)≥1)=true:=by simp[Ad] at hl0 ⊢; omega
   simp only[go_sem,ae,h1,hl4,k1,k2,k3,k4,hA,hB,hE,hl1,Dx,G9]
   refine AAT 1 (A:=Nat×Nat) (fun x=>[(9,.c (.v (.int .i64 (x.2)))),(105,.c (.v (.int .i64 (x.1))))]) (fun _=>[⟨69,7,[V3 p],true,true⟩]) (fun x=>x.1≤p.l.length∧((p.l.drop x.1).all fun q=>JZ cs d q)=(p.l.all fun q=>JZ cs d q)∧x.2+((p.l.drop x.1).map fun q=>CJ d q).sum=1+(p.l.map fun q=>CJ d q).sum∧x.2≤1+100*x.1) (fun x=>p.l.length-x.1) (0,1) ⟨⟨rfl,rfl⟩,rfl,au _,rfl,rfl,AQ3⟩ ?_
   exact AE5
  rcases k5:(p.kind==5) with _ | _
  rotate_left
  ·have hs1:(EC p&&((p.l.length:Int)==1))=true:=by simpa [k1,k2,k3,k4,k5] using hs0
   rw[az] at hs1
   obtain⟨hA,hB,hE⟩:=hbare hs1.1
   have hl0:=hs1.2
   simp only[go_sem,ae,h1,hl4,k1,k2,k3,k4,k5,hA,hB,hE,hl0,Dx,G9]
   refine AAT 1 (A:=Nat×Nat) (fun x=>[(9,.c (.v (.int .i64 (x.2)))),(105,.c (.v (.int .i64 (x.1))))]) (fun _=>[⟨69,7,[V3 p],true,true⟩]) (fun x=>x.1≤p.l.length∧((p.l.drop x.1).all fun q=>JZ cs d q)=(p.l.all fun q=>JZ cs d q)∧x.2+((p.l.drop x.1).map fun q=>CJ d q).sum=1+(p.l.map fun q=>CJ d q).sum∧x.2≤1+100*x.1) (fun x=>p.l.length-x.1) (0,1) ⟨⟨rfl,rfl⟩,rfl,au _,rfl,rfl,AQ3⟩ ?_
   exact AE5
  simp[k1,k2,k3,k4,k5] at hs0
theorem Yw (cs:List Int) (hc:cs.length≤1048576):∀ (d:Nat) (p:DPred),d≤4→Ap p→Ctr prog 331 [.c (.sl (cs.map intC)),.agg p.c,.c (.v (.int .i64 (d)))] [.val (.c (.v (.int .i64 (Dz cs d p))))]
 | 0,p,_,_=>by
  refine CM call331 func331 ntmps331 results331 fun hw=>?_
  have e1:Dz cs 0 p = -1:=by simp[Dz,JZ]
  have h1:decide (((0:Nat):Int)<1)=true:=ARJ
  rw[e1]
  simp only[go_sem,ae,h1]
 | d+1,p,hd,hf=>by
  rw[BG] at hf
  exact ADU cs hc d p hd hf.2.1 fun x hx=>Yw cs hc d x AQ2 (hf.2.2 x hx)
end Go.Proofs.YthmifbbmgnhddaaGreat
