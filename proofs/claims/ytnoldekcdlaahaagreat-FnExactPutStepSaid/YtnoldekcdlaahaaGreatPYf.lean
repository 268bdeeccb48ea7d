/- A part. -/
import Derived.Test.YtnoldekcdlaahaaGreatPYe
set_option linter.unusedSimpArgs false
set_option linter.unusedVariables false
set_option maxHeartbeats 2000000
set_option maxRecDepth 10000
open Go.Proofs.Tryz
namespace Go.Proofs.YtnoldekcdlaahaaGreat
open Go.Vm
theorem Sm {l:List DVal} (h0:0<l.length) {i:Nat} (hi:i<l.length) (h:¬ (BQ l[i]=true∧l[i].ty=l[0].ty)):typeOf l=0:=by
 cases l with
 | nil=>simp at h0
 | cons v r =>
  show (if(v::r).length≤64∧_ then v.ty else 0)=0
  rw[bz]
  rintro⟨_,q⟩
  exact h (q _ (ax hi))
theorem FI (l:List Int):Gq (l.map byteC)=true:=AY byteC.pure
theorem CX (l:List Int):Gq (l.map intC)=true:=AY XE
theorem Pq (l:List DVal):Gq (l.map DVal.c)=true:=AY DVal.pure
theorem yZ (s:ByteArray):Ny s=(vI s).map byteC:=by simp only[Ny,vI,List.map_map]; rfl
attribute [go_sem] bi bJ bu aI aW ae yZ aH Nat.zero_lt_succ bf
theorem RD (a b:List Int):a.map byteC++b.map byteC=(a++b).map byteC:=WU.symm
theorem DF (l:List DVal) (hl:l.length≤1048576):Ctr prog 395 [.c (.sl (l.map DVal.c))] [.val (.c (.v (.int .i64 (typeOf l))))]:=by
 refine CM call395 func395 ntmps395 results395 fun hw=>?_
 simp only[go_sem,ae]
 refine AAM _ (AL _ _ _) fun _=>?_
 rcases h1:Ad (l.length:Int) 1 64 with _ | _
 ·exact ALm
 have hlen:1≤l.length∧l.length≤64:=AO4
 have h0:0<l.length:=AOQ
 simp only[go_sem,h1,ae]
 refine ABK 0 (A:=Nat) (fun x=>[(11,.c (.v (.int .i64 (x))))]) (fun _=>[]) (fun x=>x≤l.length∧∀ m (h:m<l.length),m<x→BQ l[m]=true∧l[m].ty=l[0].ty) (fun x=>l.length-x) 0 ⟨⟨rfl,rfl⟩,rfl,aA _,fun m h h2=>AOQ⟩ ?_
 rintro i ⟨hi,hb⟩
 refine AOK (fun h=>?_) fun h=>?_
 ·have hi':i<l.length:=by simp at h; omega
  simp only[go_sem,ae,AA _ hi',AA _ h0,aH]
  refine AAm ?_
  simp only[go_sem,ae,AA _ hi',AA _ h0,aH]
  refine CY (Dz l[i]) ?_
  exact AIz
 ·exact ALl
theorem Ez (l:List DVal) (hl:l.length≤1048576):Ctr prog 386 [.c (.sl (l.map DVal.c))] [.val (.c (.v (.int .i64 (typeOf l))))]:=by
 refine CM call386 func386 ntmps386 results386 fun hw=>?_
 simp only[go_sem,ae]
 refine AAM _ (AO _ _ _) fun _=>?_
 rcases h1:Ad (l.length:Int) 1 64 with _ | _
 ·exact ALm
 have hlen:1≤l.length∧l.length≤64:=AO4
 have h0:0<l.length:=AOQ
 simp only[go_sem,h1,ae]
 refine ABK 0 (A:=Nat) (fun x=>[(3,.c (.v (.int .i64 (x))))]) (fun _=>[]) (fun x=>x≤l.length∧∀ m (h:m<l.length),m<x→BQ l[m]=true∧l[m].ty=l[0].ty) (fun x=>l.length-x) 0 ⟨⟨rfl,rfl⟩,rfl,aA _,fun m h h2=>AOQ⟩ ?_
 rintro i ⟨hi,hb⟩
 refine AOK (fun h=>?_) fun h=>?_
 ·have hi':i<l.length:=by simp at h; omega
  simp only[go_sem,ae,AA _ hi',AA _ h0,aH]
  refine AAm ?_
  simp only[go_sem,ae,AA _ hi',AA _ h0,aH]
  refine CY (IX l[i]) ?_
  exact AIz
 ·exact ALl
def iq (v:DVal):List Int:=if BQ v=true then Vq v else []
theorem uq {v:DVal} (h:BQ v=true) (h2:v.ty=1):iq v=YZ v.n:=by
 have:ER v.n=true:=by
  simp only[BQ,bF h2,ay] at h
  exact h.1
 simp only[iq,YZ,h,this,bf,Vq,bF h2]
theorem uu {v:DVal} (h:BQ v=true) (h2:v.ty=2):iq v=(v.s.size:Int)::vI v.s∧v.s.size≤6:=by
 have h3:¬ v.ty=1:=AOQ
 have:v.s.size≤6:=by
  simp only[BQ,bz h3,ay,aZ] at h
  exact h.1.2
 exact⟨by simp only[iq,h,bf,Vq,bz h3],this⟩
theorem Pv (b:List Int) (v:DVal) (hl:b.length≤1048576):Ctr prog 433 [.c (.sl (b.map byteC)),.agg v.c] [.own 5 1 ((b++iq v).map byteC) true]:=by
 refine CM call433 func433 ntmps433 results433 fun hw=>?_
 have hl2:b.length≤2147483648:=AOQ
 simp only[go_sem,ae]
 refine AAM _ (Dz v) fun _=>?_
 rcases h1:BQ v with _ | _
 ·simp only[go_sem,h1,iq]
  refine AAM _ (GG b hl2) fun _=>?_
  simp only[go_sem,h1,CQ,bQ]
  try exact AII
 have hty:=fO h1
 rcases h2:v.ty==1 with _ | _
 rotate_left
 ·have h2':v.ty=1:=by simpa using h2
  simp only[go_sem,h1,h2]
  refine AAM _ (GX b v.n hl) fun _=>?_
  rw[uq h1 h2']
  simp only[go_sem,CQ]
  try exact AII
 have h2':v.ty=2:=AOh
 obtain⟨e1,e2⟩:=uu h1 h2'
 have w1:IntKind.u8.wrap (v.s.size:Int)=v.s.size:=wrap_u8 AOQ AOQ
 have g1:b.length+1≤2147483648:=AOQ
 have g2:b.length+1+v.s.size≤2147483648:=AOQ
 rw[e1]
 simp only[go_sem,h1,h2]
 refine ACQ 1 6 [0,1,2,3,4,5,6,7,8,9,10,11] [0,2,3,4,5,6,1,7,8,9,10,11] rfl (by kernel_rfl) (by kernel_rfl) ?_ ?_
 ·simp only[go_sem]
  refine ABH ?_
  simp only[go_sem]
  exact ANl
 ·simp only[go_sem]
  refine ABH ?_
  simp only[go_sem,w1]
  exact ANl
theorem Px (b:List Int) (v:DVal) (hl:b.length≤1048576):Ctr prog 425 [.c (.sl (b.map byteC)),.agg v.c] [.own 5 1 ((b++iq v).map byteC) true]:=by
 refine CM call425 func425 ntmps425 results425 fun hw=>?_
 have hl2:b.length≤2147483648:=AOQ
 simp only[go_sem,ae,F_,hl2,aH]
 refine AAM _ (IX v) fun _=>?_
 rcases h1:BQ v with _ | _
 ·simp only[go_sem,h1,iq,CQ,bQ]
  try exact AII
 have hty:=fO h1
 rcases h2:v.ty==1 with _ | _
 rotate_left
 ·have h2':v.ty=1:=by simpa using h2
  simp only[go_sem,h1,h2,FI]
  refine AAM _ (Ju b v.n hl) fun _=>?_
  rw[uq h1 h2']
  simp only[go_sem,CQ]
  try exact AII
 have h2':v.ty=2:=AOh
 obtain⟨e1,e2⟩:=uu h1 h2'
 have w1:IntKind.u8.wrap (v.s.size:Int)=v.s.size:=wrap_u8 AOQ AOQ
 have g1:b.length+1≤2147483648:=AOQ
 have g2:b.length+1+v.s.size≤2147483648:=AOQ
 rw[e1]
 simp only[go_sem,h1,h2]
 refine ABH ?_
 simp only[go_sem,w1,g1,g2]
 simp only[CQ,bT]
 try simp[OwnL,AB,byteC]
def QK:DVal:=⟨0,0,ByteArray.empty⟩
def eY:Option (DVal×Nat)→List Res
 | some (v,q)=>[.val (.agg v.c),.val (.c (.v (.int .i64 ((q:Int))))),.val (.c (.v (.bool (true))))]
 | none=>[.val (.agg QK.c),.val (.c (.v (.int .i64 (0)))),.val (.c (.v (.bool (false))))]
theorem NU:∀ l:List Int,Qi (l.map byteC)=some l
 | []=>rfl
 | c::l=>by
  show (match Qi (l.map byteC) with | some ns=>some (c::ns) | none=>none)=_
  rw[NU l]
theorem IU {k:IntKind} {n:Int} {m:Nat} (h:n=(m:Int)):KU (.c (.v (.int k n)))=some m:=by
 subst h
 show (if(0:Int)≤(m:Int) then some (m:Int).toNat else none)=_
 rw[bF AOQ,bW]
theorem BN (l:List Int):((l.map byteC).all fun r=>r.length==1)=true:=aJ.2 fun r hr=>by
 obtain⟨x,_,rfl⟩:=sD.1 hr
 rfl
theorem AGf (b:List Int) (p ty:Int) (h1:ty≠1) (h2:ty≠2):Fv b p ty=none:=by
 unfold Fv
 rw[bz h1,bz (fun h=>h2 h.1)]
theorem yc (b:List Int) (p:Int) (h:¬ (0≤p∧p<b.length)):Fv b p 2=none:=by
 unfold Fv
 rw[bz AOQ]
 split
 ·rename_i h2
  have:b[p.toNat]?=none:=by rw[abq]; omega
  rw[this]
 ·rfl
theorem AGg {b:List Int} {p:Nat} (h:p<b.length):Fv b (p:Int) 2=if p+1+b[p].toNat≤b.length then(if BQ ⟨2,0,strOfNums ((b.drop (p+1)).take b[p].toNat)⟩=true then some (⟨2,0,strOfNums ((b.drop (p+1)).take b[p].toNat)⟩,p+1+b[p].toNat) else none) else none:=by
 unfold Fv
 rw[bz AOQ,bF ⟨rfl,AOQ⟩]
 simp only[bW,au h]
theorem Vj (b:List Int) (p ty:Int) (hb:Ae b) (hl:b.length≤1048576):Ctr prog 419 [.c (.sl (b.map byteC)),.c (.v (.int .i64 (p))),.c (.v (.int .i64 (ty)))] (eY (Fv b p ty)):=by
 refine CM call419 func419 ntmps419 results419 fun hw=>?_
 rcases h1:ty==1 with _ | _
 ·have h1':ty≠1:=by simpa using h1
  simp only[go_sem,h1]
  rcases h2:ty==2 with _ | _
  ·have h2':ty≠2:=by simpa using h2
   rw[AGf b p ty h1' h2']
   simp only[go_sem,h2]
   refine AAM _ (Dz ⟨ty,0,ByteArray.empty⟩) fun _=>?_
   have hv:BQ ⟨ty,0,ByteArray.empty⟩=false:=by simp[BQ,h1',h2']
   simp only[go_sem,hv,eY,QK]
  ·have:ty=2:=by simpa using h2
   subst this
   simp only[go_sem,h2]
   rcases h3:decide (p≥0) with _ | _
   ·rw[yc b p APC]
    simp only[go_sem,h3]
    exact ALy
   have h3':0≤p:=AOm
   obtain⟨p,rfl⟩:=aQ h3'
   rcases h4:decide ((p:Int)<(b.length:Int)) with _ | _
   ·rw[yc b p (by simp at h4; omega)]
    simp only[go_sem,h3,h4]
    exact ALy
   have hp:p<b.length:=AO2
   have hc:isByte b[p]:=hb _ (ax hp)
   obtain⟨c,hc2⟩:=aQ hc.1
   have hc3:c<256:=by have:=hc.2; omega
   rw[AGg hp]
   simp only[go_sem,h3,h4,AA _ hp,hc2,bW,wrap_i64 (n:=(p:Int)+1) AOQ AOQ,wrap_i64 (n:=(p:Int)+1+(c:Int)) AOQ AOQ,wrap_i64 (n:=(c:Int)) AOQ AOQ]
   rcases h5:decide ((p:Int)+1+(c:Int)>(b.length:Int)) with _ | _
   ·have h6:p+1+c≤b.length:=by simp at h5; omega
    have q1:=IU (k:=.i64) (n:=(p:Int)+1) (m:=p+1) AOQ
    have q2:=IU (k:=.i64) (n:=(p:Int)+1+(c:Int)) (m:=p+1+c) AOQ
    have q5:p+1≤p+1+c:=AOQ
    have q6:p+1+c-(p+1)=c:=AOQ
    rw[bF h6]
    simp only[go_sem,h5,wrap_i64 (n:=(p:Int)+1) AOQ AOQ,q1,q2,q5,q6,h6,BN,← cZ,← cu,NU]
    refine AAM _ (Dz ⟨2,0,strOfNums ((b.drop (p+1)).take c)⟩) fun _=>?_
    exact AKd
   ·rw[bz (by simp at h5; omega)]
    simp only[go_sem,h5,eY,QK]
 ·have:ty=1:=by simpa using h1
  subst this
  simp only[go_sem,h1]
  have hg:=GV b p hb hl
  rcases h2:Bf b p with _ | ⟨n,q⟩<;>rw[h2] at hg<;>simp only[Ve] at hg
  ·refine AAM _ hg fun _=>?_
   simp only[go_sem,Fv,h2,eY,WB,QK]
  refine AAM _ hg fun _=>?_
  obtain⟨e1,e2,e3,e4,e5,e6⟩:=II hb h2
  have hv:=kM n ⟨e4,e5⟩
  simp only[go_sem]
  refine AAM _ (Dz ⟨1,n,ByteArray.empty⟩) fun _=>?_
  have e7:((q:Int)==0)=false:=AOS
  simp only[go_sem,hv,Fv,h2,eY,bY,e7]
theorem MR (b:List Int) (p ty:Int) (hb:Ae b) (hl:b.length≤1048576):Ctr prog 412 [.c (.sl (b.map byteC)),.c (.v (.int .i64 (p))),.c (.v (.int .i64 (ty)))] (eY (Fv b p ty)):=by
 refine CM call412 func412 ntmps412 results412 fun hw=>?_
 rcases h1:ty==1 with _ | _
 ·have h1':ty≠1:=by simpa using h1
  simp only[go_sem,h1]
  rcases h2:ty==2 with _ | _
  ·have h2':ty≠2:=by simpa using h2
   rw[AGf b p ty h1' h2']
   have h3:(ty != 2)=true:=by simpa using h2'
   simp only[go_sem,h3,eY,QK]
  ·have:ty=2:=by simpa using h2
   subst this
   have h3:((2:Int) != 2)=false:=AOR
   simp only[go_sem,h3]
   refine AAM _ (AO _ _ _) fun _=>?_
   simp only[go_sem,wrap_i64 (n:=(b.length:Int)-1) AOQ AOQ]
   rcases h4:Ad p 0 ((b.length:Int)-1) with _ | _
   ·rw[yc b p APN]
    simp only[go_sem,h4,eY,QK]
   have h4':0≤p∧p<b.length:=APN
   obtain⟨p,rfl⟩:=aQ h4'.1
   have hp:p<b.length:=AOQ
   have hc:isByte b[p]:=hb _ (ax hp)
   obtain⟨c,hc2⟩:=aQ hc.1
   have hc3:c<256:=by have:=hc.2; omega
   rw[AGg hp]
   simp only[go_sem,h4,AA _ hp,hc2,bW,wrap_i64 (n:=(p:Int)+1) AOQ AOQ,wrap_i64 (n:=(p:Int)+1+(c:Int)) AOQ AOQ,wrap_i64 (n:=(c:Int)) AOQ AOQ,wrap_i64 (n:=(b.length:Int)-(p:Int)) AOQ AOQ,wrap_i64 (n:=(b.length:Int)-(p:Int)-1) AOQ AOQ]
   rcases h5:decide ((c:Int)>(b.length:Int)-(p:Int)-1) with _ | _
   ·have h6:p+1+c≤b.length:=by simp at h5; omega
    have q1:=IU (k:=.i64) (n:=(p:Int)+1) (m:=p+1) AOQ
    have q2:=IU (k:=.i64) (n:=(p:Int)+1+(c:Int)) (m:=p+1+c) AOQ
    have q5:p+1≤p+1+c:=AOQ
    have q6:p+1+c-(p+1)=c:=AOQ
    rw[bF h6]
    simp only[go_sem,h5,wrap_i64 (n:=(p:Int)+1) AOQ AOQ,wrap_i64 (n:=(p:Int)+1+(c:Int)) AOQ AOQ,q1,q2,q5,q6,h6,BN,← cZ,← cu,NU]
    refine AAM _ (IX ⟨2,0,strOfNums ((b.drop (p+1)).take c)⟩) fun _=>?_
    exact AKd
   ·rw[bz (by simp at h5; omega)]
    simp only[go_sem,h5,eY,QK]
 ·have:ty=1:=by simpa using h1
  subst this
  simp only[go_sem,h1]
  have hg:=GU b p hb hl
  rcases h2:Bf b p with _ | ⟨n,q⟩<;>rw[h2] at hg<;>simp only[Ve] at hg
  ·refine AAM _ hg fun _=>?_
   simp only[go_sem,Fv,h2,eY,WB,QK]
  refine AAM _ hg fun _=>?_
  simp only[go_sem,Fv,h2,eY,bY]
end Go.Proofs.YtnoldekcdlaahaaGreat
