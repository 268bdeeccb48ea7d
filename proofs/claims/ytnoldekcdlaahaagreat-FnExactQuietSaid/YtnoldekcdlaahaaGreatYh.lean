/- A part. -/
import Derived.Test.YtnoldekcdlaahaaGreatYe
import Derived.Test.YtnoldekcdlaahaaGreatYt
set_option linter.unusedSimpArgs false
set_option linter.unusedVariables false
set_option maxHeartbeats 2000000
set_option maxRecDepth 10000
open Go.Proofs.Tryz
namespace Go.Proofs.YtnoldekcdlaahaaGreat
open Go.Vm
theorem TB {l:List DVal} (h0:0<l.length) {i:Nat} (hi:i<l.length) (h:¬ (BK l[i]=true∧l[i].ty=l[0].ty)):typeOf l=0:=by
 cases l with
 | nil=>simp at h0
 | cons v r =>
  show (if(v::r).length≤64∧_ then v.ty else 0)=0
  rw[aZ]
  rintro⟨_,q⟩
  exact h (q _ (ax hi))
theorem E5 (l:List Int):G5 (l.map byteC)=true:=AY byteC.pure
theorem CB (l:List Int):G5 (l.map intC)=true:=AY XZ
theorem QF (l:List DVal):G5 (l.map DVal.c)=true:=AY DVal.pure
theorem zn (s:ByteArray):OM s=(wY s).map byteC:=by simp only[OM,wY,List.map_map]; rfl
attribute [go_sem] bC bU bn df y7 ae zn aI Nat.zero_lt_succ aX
theorem RV (a b:List Int):a.map byteC++b.map byteC=(a++b).map byteC:=XC.symm
theorem DF (l:List DVal) (hl:l.length≤1048576):Ctr prog 395 [.c (.sl (l.map DVal.c))] [.val (.c (.v (.int .i64 (typeOf l))))]:=by
 refine CM call395 func395 ntmps395 results395 fun hw=>?_
 simp only[go_sem,ae]
 refine AAT _ (AL _ _ _) fun _=>?_
 rcases h1:Aa (l.length:Int) 1 64 with _ | _
 ·exact AMA
 have hlen:1≤l.length∧l.length≤64:=APH
 have h0:0<l.length:=AOh
 simp only[go_sem,h1,ae]
 refine AB4 0 (A:=Nat) (fun x=>[(11,.c (.v (.int .i64 (x))))]) (fun _=>[]) (fun x=>x≤l.length∧∀ m (h:m<l.length),m<x→BK l[m]=true∧l[m].ty=l[0].ty) (fun x=>l.length-x) 0 ⟨⟨rfl,rfl⟩,rfl,az _,fun m h h2=>AOh⟩ ?_
 rintro i ⟨hi,hb⟩
 refine AOc (fun h=>?_) fun h=>?_
 ·have hi':i<l.length:=by simp at h; omega
  simp only[go_sem,ae,AA _ hi',AA _ h0,aI]
  refine AAm ?_
  simp only[go_sem,ae,AA _ hi',AA _ h0,aI]
  refine CY (Dt l[i]) ?_
  exact AIi
 ·exact AL_
theorem En (l:List DVal) (hl:l.length≤1048576):Ctr prog 386 [.c (.sl (l.map DVal.c))] [.val (.c (.v (.int .i64 (typeOf l))))]:=by
 refine CM call386 func386 ntmps386 results386 fun hw=>?_
 simp only[go_sem,ae]
 refine AAT _ (AP _ _ _) fun _=>?_
 rcases h1:Aa (l.length:Int) 1 64 with _ | _
 ·exact AMA
 have hlen:1≤l.length∧l.length≤64:=APH
 have h0:0<l.length:=AOh
 simp only[go_sem,h1,ae]
 refine AB4 0 (A:=Nat) (fun x=>[(3,.c (.v (.int .i64 (x))))]) (fun _=>[]) (fun x=>x≤l.length∧∀ m (h:m<l.length),m<x→BK l[m]=true∧l[m].ty=l[0].ty) (fun x=>l.length-x) 0 ⟨⟨rfl,rfl⟩,rfl,az _,fun m h h2=>AOh⟩ ?_
 rintro i ⟨hi,hb⟩
 refine AOc (fun h=>?_) fun h=>?_
 ·have hi':i<l.length:=by simp at h; omega
  simp only[go_sem,ae,AA _ hi',AA _ h0,aI]
  refine AAm ?_
  simp only[go_sem,ae,AA _ hi',AA _ h0,aI]
  refine CY (IV l[i]) ?_
  exact AIi
 ·exact AL_
def jV (v:DVal):List Int:=if BK v=true then WC v else []
theorem wI {v:DVal} (h:BK v=true) (h2:v.ty=1):jV v=Y3 v.n:=by
 have:EL v.n=true:=by
  simp only[BK,bu h2,ay] at h
  exact h.1
 simp only[jV,Y3,h,this,aX,WC,bu h2]
theorem wJ {v:DVal} (h:BK v=true) (h2:v.ty=2):jV v=(v.s.size:Int)::wY v.s∧v.s.size≤6:=by
 have h3:¬ v.ty=1:=AOh
 have:v.s.size≤6:=by
  simp only[BK,aZ h3,ay,bf] at h
  exact h.1.2
 exact⟨by simp only[jV,h,aX,WC,aZ h3],this⟩
theorem QG (b:List Int) (v:DVal) (hl:b.length≤1048576):Ctr prog 433 [.c (.sl (b.map byteC)),.agg v.c] [.own 5 1 ((b++jV v).map byteC) true]:=by
 refine CM call433 func433 ntmps433 results433 fun hw=>?_
 have hl2:b.length≤2147483648:=AOh
 simp only[go_sem,ae]
 refine AAT _ (Dt v) fun _=>?_
 rcases h1:BK v with _ | _
 ·simp only[go_sem,h1,jV]
  refine AAT _ (F6 b hl2) fun _=>?_
  simp only[go_sem,h1,Bv,bI]
  try exact AIj
 have hty:=iF h1
 rcases h2:v.ty==1 with _ | _
 rotate_left
 ·have h2':v.ty=1:=by simpa using h2
  simp only[go_sem,h1,h2]
  refine AAT _ (GR b v.n hl) fun _=>?_
  rw[wI h1 h2']
  simp only[go_sem,Bv]
  try exact AIj
 have h2':v.ty=2:=AOw
 obtain⟨e1,e2⟩:=wJ h1 h2'
 have w1:IntKind.u8.wrap (v.s.size:Int)=v.s.size:=wrap_u8 AOh AOh
 have g1:b.length+1≤2147483648:=AOh
 have g2:b.length+1+v.s.size≤2147483648:=AOh
 rw[e1]
 simp only[go_sem,h1,h2]
 refine AC1 1 6 [0,1,2,3,4,5,6,7,8,9,10,11] [0,2,3,4,5,6,1,7,8,9,10,11] rfl (by kernel_rfl) (by kernel_rfl) ?_ ?_
 ·simp only[go_sem]
  refine ABU ?_
  simp only[go_sem]
  exact AN0
 ·simp only[go_sem]
  refine ABU ?_
  simp only[go_sem,w1]
  exact AN0
theorem QH (b:List Int) (v:DVal) (hl:b.length≤1048576):Ctr prog 425 [.c (.sl (b.map byteC)),.agg v.c] [.own 5 1 ((b++jV v).map byteC) true]:=by
 refine CM call425 func425 ntmps425 results425 fun hw=>?_
 have hl2:b.length≤2147483648:=AOh
 simp only[go_sem,ae,F5,hl2,aI]
 refine AAT _ (IV v) fun _=>?_
 rcases h1:BK v with _ | _
 ·simp only[go_sem,h1,jV,Bv,bI]
  try exact AIj
 have hty:=iF h1
 rcases h2:v.ty==1 with _ | _
 rotate_left
 ·have h2':v.ty=1:=by simpa using h2
  simp only[go_sem,h1,h2,E5]
  refine AAT _ (J5 b v.n hl) fun _=>?_
  rw[wI h1 h2']
  simp only[go_sem,Bv]
  try exact AIj
 have h2':v.ty=2:=AOw
 obtain⟨e1,e2⟩:=wJ h1 h2'
 have w1:IntKind.u8.wrap (v.s.size:Int)=v.s.size:=wrap_u8 AOh AOh
 have g1:b.length+1≤2147483648:=AOh
 have g2:b.length+1+v.s.size≤2147483648:=AOh
 rw[e1]
 simp only[go_sem,h1,h2]
 refine ABU ?_
 simp only[go_sem,w1,g1,g2]
 simp only[Bv,bM]
 try simp[OwnL,AB,byteC]
def Qg:DVal:=⟨0,0,ByteArray.empty⟩
def gV:Option (DVal×Nat)→List Res
 | some (v,q)=>[.val (.agg v.c),.val (.c (.v (.int .i64 ((q:Int))))),.val (.c (.v (.bool (true))))]
 | none=>[.val (.agg Qg.c),.val (.c (.v (.int .i64 (0)))),.val (.c (.v (.bool (false))))]
theorem Nl:∀ l:List Int,Q5 (l.map byteC)=some l
 | []=>rfl
 | c::l=>by
  show (match Q5 (l.map byteC) with | some ns=>some (c::ns) | none=>none)=_
  rw[Nl l]
theorem IP {k:IntKind} {n:Int} {m:Nat} (h:n=(m:Int)):Oo (.c (.v (.int k n)))=some m:=by
 subst h
 show (if(0:Int)≤(m:Int) then some (m:Int).toNat else none)=_
 rw[bu AOh,bH]
theorem BJ (l:List Int):((l.map byteC).all fun r=>r.length==1)=true:=aP.2 fun r hr=>by
 obtain⟨x,_,rfl⟩:=kN.1 hr
 rfl
theorem AG5 (b:List Int) (p ty:Int) (h1:ty≠1) (h2:ty≠2):Fe b p ty=none:=by
 unfold Fe
 rw[aZ h1,aZ (fun h=>h2 h.1)]
theorem zo (b:List Int) (p:Int) (h:¬ (0≤p∧p<b.length)):Fe b p 2=none:=by
 unfold Fe
 rw[aZ AOh]
 split
 ·rename_i h2
  have:b[p.toNat]?=none:=by rw[abn]; omega
  rw[this]
 ·rfl
theorem AG6 {b:List Int} {p:Nat} (h:p<b.length):Fe b (p:Int) 2=if p+1+b[p].toNat≤b.length then(if BK ⟨2,0,strOfNums ((b.drop (p+1)).take b[p].toNat)⟩=true then some (⟨2,0,strOfNums ((b.drop (p+1)).take b[p].toNat)⟩,p+1+b[p].toNat) else none) else none:=by
 unfold Fe
 rw[aZ AOh,bu ⟨rfl,AOh⟩]
 simp only[bH,au h]
theorem V3 (b:List Int) (p ty:Int) (hb:Ad b) (hl:b.length≤1048576):Ctr prog 419 [.c (.sl (b.map byteC)),.c (.v (.int .i64 (p))),.c (.v (.int .i64 (ty)))] (gV (Fe b p ty)):=by
 refine CM call419 func419 ntmps419 results419 fun hw=>?_
 rcases h1:ty==1 with _ | _
 ·have h1':ty≠1:=by simpa using h1
  simp only[go_sem,h1]
  rcases h2:ty==2 with _ | _
  ·have h2':ty≠2:=by simpa using h2
   rw[AG5 b p ty h1' h2']
   simp only[go_sem,h2]
   refine AAT _ (Dt ⟨ty,0,ByteArray.empty⟩) fun _=>?_
   have hv:BK ⟨ty,0,ByteArray.empty⟩=false:=by simp[BK,h1',h2']
   simp only[go_sem,hv,gV,Qg]
  ·have:ty=2:=by simpa using h2
   subst this
   simp only[go_sem,h2]
   rcases h3:decide (p≥0) with _ | _
   ·rw[zo b p APX]
    simp only[go_sem,h3]
    exact AMK
   have h3':0≤p:=AOx
   obtain⟨p,rfl⟩:=aO h3'
   rcases h4:decide ((p:Int)<(b.length:Int)) with _ | _
   ·rw[zo b p (by simp at h4; omega)]
    simp only[go_sem,h3,h4]
    exact AMK
   have hp:p<b.length:=APD
   have hc:isByte b[p]:=hb _ (ax hp)
   obtain⟨c,hc2⟩:=aO hc.1
   have hc3:c<256:=by have:=hc.2; omega
   rw[AG6 hp]
   simp only[go_sem,h3,h4,AA _ hp,hc2,bH,wrap_i64 (n:=(p:Int)+1) AOh AOh,wrap_i64 (n:=(p:Int)+1+(c:Int)) AOh AOh,wrap_i64 (n:=(c:Int)) AOh AOh]
   rcases h5:decide ((p:Int)+1+(c:Int)>(b.length:Int)) with _ | _
   ·have h6:p+1+c≤b.length:=by simp at h5; omega
    have q1:=IP (k:=.i64) (n:=(p:Int)+1) (m:=p+1) AOh
    have q2:=IP (k:=.i64) (n:=(p:Int)+1+(c:Int)) (m:=p+1+c) AOh
    have q5:p+1≤p+1+c:=AOh
    have q6:p+1+c-(p+1)=c:=AOh
    rw[bu h6]
    simp only[go_sem,h5,wrap_i64 (n:=(p:Int)+1) AOh AOh,q1,q2,q5,q6,h6,BJ,← bY,← bV,Nl]
    refine AAT _ (Dt ⟨2,0,strOfNums ((b.drop (p+1)).take c)⟩) fun _=>?_
    exact AKb
   ·rw[aZ (by simp at h5; omega)]
    simp only[go_sem,h5,gV,Qg]
 ·have:ty=1:=by simpa using h1
  subst this
  simp only[go_sem,h1]
  have hg:=GN b p hb hl
  rcases h2:BX b p with _ | ⟨n,q⟩<;>rw[h2] at hg<;>simp only[Vw] at hg
  ·refine AAT _ hg fun _=>?_
   simp only[go_sem,Fe,h2,gV,WY,Qg]
  refine AAT _ hg fun _=>?_
  obtain⟨e1,e2,e3,e4,e5,e6⟩:=IA hb h2
  have hv:=lW n ⟨e4,e5⟩
  simp only[go_sem]
  refine AAT _ (Dt ⟨1,n,ByteArray.empty⟩) fun _=>?_
  have e7:((q:Int)==0)=false:=AOj
  simp only[go_sem,hv,Fe,h2,gV,bW,e7]
theorem Md (b:List Int) (p ty:Int) (hb:Ad b) (hl:b.length≤1048576):Ctr prog 412 [.c (.sl (b.map byteC)),.c (.v (.int .i64 (p))),.c (.v (.int .i64 (ty)))] (gV (Fe b p ty)):=by
 refine CM call412 func412 ntmps412 results412 fun hw=>?_
 rcases h1:ty==1 with _ | _
 ·have h1':ty≠1:=by simpa using h1
  simp only[go_sem,h1]
  rcases h2:ty==2 with _ | _
  ·have h2':ty≠2:=by simpa using h2
   rw[AG5 b p ty h1' h2']
   have h3:(ty != 2)=true:=by simpa using h2'
   simp only[go_sem,h3,gV,Qg]
  ·have:ty=2:=by simpa using h2
   subst this
   have h3:((2:Int) != 2)=false:=AOi
   simp only[go_sem,h3]
   refine AAT _ (AP _ _ _) fun _=>?_
   simp only[go_sem,wrap_i64 (n:=(b.length:Int)-1) AOh AOh]
   rcases h4:Aa p 0 ((b.length:Int)-1) with _ | _
   ·rw[zo b p APd]
    simp only[go_sem,h4,gV,Qg]
   have h4':0≤p∧p<b.length:=APd
   obtain⟨p,rfl⟩:=aO h4'.1
   have hp:p<b.length:=AOh
   have hc:isByte b[p]:=hb _ (ax hp)
   obtain⟨c,hc2⟩:=aO hc.1
   have hc3:c<256:=by have:=hc.2; omega
   rw[AG6 hp]
   simp only[go_sem,h4,AA _ hp,hc2,bH,wrap_i64 (n:=(p:Int)+1) AOh AOh,wrap_i64 (n:=(p:Int)+1+(c:Int)) AOh AOh,wrap_i64 (n:=(c:Int)) AOh AOh,wrap_i64 (n:=(b.length:Int)-(p:Int)) AOh AOh,wrap_i64 (n:=(b.length:Int)-(p:Int)-1) AOh AOh]
   rcases h5:decide ((c:Int)>(b.length:Int)-(p:Int)-1) with _ | _
   ·have h6:p+1+c≤b.length:=by simp at h5; omega
    have q1:=IP (k:=.i64) (n:=(p:Int)+1) (m:=p+1) AOh
    have q2:=IP (k:=.i64) (n:=(p:Int)+1+(c:Int)) (m:=p+1+c) AOh
    have q5:p+1≤p+1+c:=AOh
    have q6:p+1+c-(p+1)=c:=AOh
    rw[bu h6]
    simp only[go_sem,h5,wrap_i64 (n:=(p:Int)+1) AOh AOh,wrap_i64 (n:=(p:Int)+1+(c:Int)) AOh AOh,q1,q2,q5,q6,h6,BJ,← bY,← bV,Nl]
    refine AAT _ (IV ⟨2,0,strOfNums ((b.drop (p+1)).take c)⟩) fun _=>?_
    exact AKb
   ·rw[aZ (by simp at h5; omega)]
    simp only[go_sem,h5,gV,Qg]
 ·have:ty=1:=by simpa using h1
  subst this
  simp only[go_sem,h1]
  have hg:=GM b p hb hl
  rcases h2:BX b p with _ | ⟨n,q⟩<;>rw[h2] at hg<;>simp only[Vw] at hg
  ·refine AAT _ hg fun _=>?_
   simp only[go_sem,Fe,h2,gV,WY,Qg]
  refine AAT _ hg fun _=>?_
  simp only[go_sem,Fe,h2,gV,bW]
theorem AIA:G5 []=true:=rfl
attribute [go_sem] AIA E5 QF CB Bv AQ DD AH8
theorem Np:∀ {b:List Int},kU (b.map byteC)→Ad b
 | [],_=>by simp[Ad]
 | c::b,h=>by
  simp only[YG,kU,O8,XH,uj] at h
  intro x hx
  rcases dh.1 hx with rfl | hx
  ·have:=h.1.1
   simp only[QZ,Lit.wf,ay,bf] at this
   simp[IntKind.min,IntKind.max,IntKind.bits,IntKind.signed] at this
   unfold isByte
   omega
  ·exact Np h.2 x hx
theorem ACa {a b:List Int} (ha:Ad a) (hb:Ad b):(strOfNums a=strOfNums b)↔a=b:=by
 constructor
 ·intro h
  rw[← qR ha,← qR hb,h]
 ·rintro rfl; rfl
theorem Df {l:List DVal} (h:typeOf l≠0):1≤l.length∧l.length≤64∧∀ v∈l,BK v=true∧v.ty=typeOf l:=by
 cases l with
 | nil=>exact absurd rfl h
 | cons v r =>
  have e:typeOf (v::r)=if(v::r).length≤64∧∀ x∈(v::r),BK x=true∧x.ty=v.ty then v.ty else 0:=rfl
  rw[e] at h ⊢
  split at h
  ·rename_i h1
   rw[bu h1]
   exact⟨AOi,h1.1,h1.2⟩
  ·exact absurd rfl h
theorem EI (n:Int):(FH n).length≤5:=ZQ 4 _
theorem V4 {v:DVal} (h:BK v=true):(WC v).length≤7:=by
 unfold WC
 split
 ·have:=EI v.n; omega
 ·rename_i h3
  have:v.s.size≤6:=by
   simp only[BK,aZ h3,ay,bf] at h
   exact h.1.2
  simp[AEk]; omega
theorem Kv:∀ {l:List DVal},(∀ v∈l,BK v=true)→(J9 l).length≤7*l.length
 | [],_=>by simp[J9]
 | v::l,h=>by
  have h1:=V4 (h v AOi)
  have h2:=Kv fun x hx=>h x (aa3 v hx)
  simp only[J9,YG,dm,bn,df] at h1 h2 ⊢
  omega
theorem TC {v:DVal} (h:BK v=true):jV v=WC v:=by simp only[jV,h,aX]
theorem J6 {n:Int} (h:EL n=true):Y3 n=FH n:=by simp only[Y3,h,aX]
theorem QI {l:List DVal} {i:Nat} (h:i<l.length):J9 (l.take (i+1))=J9 (l.take i)++WC l[i]:=by
 rw[aag h]
 simp only[J9,XC,aaF,YG,cu,dm,aaH,bI]
theorem zq {l:List Int} {i:Nat} (h:i<l.length):((l.take (i+1)).map FH).flatten=((l.take i).map FH).flatten++FH l[i]:=by
 rw[aag h]
 simp only[XC,aaF,YG,cu,dm,aaH,bI]
theorem Xb:∀ l:List Int,((l.map FH).flatten).length≤5*l.length
 | []=>AOi
 | n::l=>by
  have h1:=EI n
  have h2:=Xb l
  simp only[YG,dm,bn,df]
  omega
theorem jW (b:List Int) (l:List Int) (hl:l.length≤100000) (hb:b.length≤100000) (hn:∀ n∈l,EL n=true):Ctr prog 332 [.c (.sl (b.map byteC)),.c (.sl (l.map intC))] [.own 5 1 ((b++Qe l).map byteC) true]:=by
 refine CM call332 func332 ntmps332 results332 fun hw=>?_
 have h1:decide ((l.length:Int)>1000000000)=false:=AOj
 simp only[go_sem]
 refine AAT _ (F6 b AOh) fun _=>?_
 simp only[go_sem,h1]
 refine AB4 1 (A:=Nat) (fun x=>[(18,.c (.v (.int .i64 (x))))]) (fun _=>[⟨5,1,b.map byteC,true,true⟩]) (fun x=>x≤l.length) (fun x=>l.length-x) 0 ⟨⟨rfl,all1 (AU (Bv _))⟩,rfl,az _⟩ ?_
 rintro i hi
 refine AOb (fun h=>?_) fun h=>?_
 ·have hi':i<l.length:=by simp at h; omega
  have hok:=hn _ (ax hi')
  simp only[go_sem,AA _ hi']
  refine AAT _ (NL _) fun _=>?_
  simp only[go_sem,hok,wrap_i64 (n:=(i:Int)+1) AOh AOh]
  exact⟨i+1,⟨rfl,all1 (AU (Bv _))⟩,rfl,hi',AOh⟩
 ·simp only[go_sem]
  refine AAT _ (GR b _ AOh) fun _=>?_
  rw[J6 (by simp[EL,Aa]; omega)]
  simp only[go_sem]
  have hq:=EI (l.length:Int)
  refine AB6 [11,27,30] (A:=Nat) (fun x=>[(33,.c (.v (.int .i64 (x)))),(5,.c (.ref 0))]) (fun x=>[⟨5,1,(b++FH l.length++((l.take x).map FH).flatten).map byteC,true,true⟩]) (fun x=>x≤l.length) (fun x=>l.length-x) 0 (AB3 [(1,false)] ⟨rfl,rfl,E5 _,trivial⟩ AP2) (az _) ?_
  rintro i hi
  refine AOb (fun h=>?_) fun h=>?_
  ·have hi':i<l.length:=by simp at h; omega
   have hok:=hn _ (ax hi')
   have hq2:=Xb (l.take i)
   rw[bz] at hq2
   simp only[go_sem,AA _ hi',E5]
   refine AAT _ (GR _ _ APK) fun _=>?_
   rw[J6 hok]
   simp only[go_sem,wrap_i64 (n:=(i:Int)+1) AOh AOh]
   exact⟨i+1,AB3 [(1,false)] ⟨rfl,rfl,E5 _,trivial⟩ (by rw[zq hi']; simp; rfl),hi',AOh⟩
  ·have hi':i=l.length:=by simp at h; omega
   subst hi'
   simp only[go_sem,Bv,Qe,bD,bM]
   try exact AIj
theorem Nq (l:List DVal) (hl:l.length≤1048576):Ctr prog 402 [.c (.sl (l.map DVal.c))] [.own 5 1 ((Ef l).map byteC) true]:=by
 refine CM call402 func402 ntmps402 results402 fun hw=>?_
 simp only[go_sem]
 refine AAT _ (DF l hl) fun _=>?_
 rcases h1:typeOf l==0 with _ | _
 ·have h1':typeOf l≠0:=by simpa using h1
  obtain⟨q1,q2,q3⟩:=Df h1'
  simp only[go_sem,h1,Ef,h1']
  refine AB6 [6] (A:=Nat) (fun x=>[(13,.c (.v (.int .i64 (x)))),(3,.c (.ref 0))]) (fun x=>[⟨5,1,(J9 (l.take x)).map byteC,true,true⟩]) (fun x=>x≤l.length) (fun x=>l.length-x) 0 (AB3 [(0,false)] ⟨rfl,rfl,rfl,trivial⟩ rfl) (az _) ?_
  rintro i hi
  refine AOb (fun h=>?_) fun h=>?_
  ·have hi':i<l.length:=by simp at h; omega
   have hok:=(q3 _ (ax hi')).1
   have hq2:=Kv (l:=l.take i) fun v hv=>(q3 v (aar hv)).1
   rw[bz] at hq2
   simp only[go_sem,AA _ hi',E5]
   refine AAT _ (QG _ _ AOh) fun _=>?_
   rw[TC hok,← QI hi']
   exact AMu
  ·have hi':i=l.length:=by simp at h; omega
   subst hi'
   simp only[go_sem,Bv,bD,aC,aW]
   try exact AIj
 ·have h1':typeOf l=0:=by simpa using h1
  have e:Ef l = []:=bu h1'
  exact AJY
theorem RX (l:List DVal) (hl:l.length≤1048576):Ctr prog 398 [.c (.sl (l.map DVal.c))] [.own 5 1 ((Ef l).map byteC) true]:=by
 refine CM call398 func398 ntmps398 results398 fun hw=>?_
 simp only[go_sem]
 refine AAT _ (En l hl) fun _=>?_
 rcases h1:typeOf l==0 with _ | _
 ·have h1':typeOf l≠0:=by simpa using h1
  obtain⟨q1,q2,q3⟩:=Df h1'
  simp only[go_sem,h1,Ef,h1']
  refine AB6 [5] (A:=Nat) (fun x=>[(4,.c (.v (.int .i64 (x)))),(3,.c (.ref 0))]) (fun x=>[⟨5,1,(J9 (l.take x)).map byteC,true,true⟩]) (fun x=>x≤l.length) (fun x=>l.length-x) 0 (AB3 [(0,false)] ⟨rfl,rfl,rfl,trivial⟩ rfl) (az _) ?_
  rintro i hi
  refine AOb (fun h=>?_) fun h=>?_
  ·have hi':i<l.length:=by simp at h; omega
   have hok:=(q3 _ (ax hi')).1
   have hq2:=Kv (l:=l.take i) fun v hv=>(q3 v (aar hv)).1
   rw[bz] at hq2
   simp only[go_sem,AA _ hi',E5]
   refine AAT _ (QH _ _ AOh) fun _=>?_
   rw[TC hok,← QI hi']
   simp only[go_sem,wrap_i64 (n:=(i:Int)+1) AOh AOh]
   exact⟨i+1,AB3 [(1,false)] ⟨rfl,rfl,E5 _,trivial⟩ rfl,hi',AOh⟩
  ·have hi':i=l.length:=by simp at h; omega
   subst hi'
   simp only[go_sem,Bv,bD,aC,aW]
   try exact AIj
 ·have h1':typeOf l=0:=by simpa using h1
  have e:Ef l = []:=bu h1'
  exact AJY
def AEc:Option (List DVal×Nat)→List Res
 | some (l,q)=>[.own 64 3 (l.map DVal.c) true,.val (.c (.v (.int .i64 ((q:Int))))),.val (.c (.v (.bool (true))))]
 | none=>[.own 64 3 [] true,.val (.c (.v (.int .i64 (0)))),.val (.c (.v (.bool (false))))]
theorem GV (out:List DVal) (v:DVal):(out ++ [v]).map DVal.c=out.map DVal.c ++ [v.c]:=AOi
theorem Me (l:List DVal) (n:DVal):G5 (l.map DVal.c ++ [n.c])=true:=by rw[← GV]; exact QF _
theorem V5 (b:List Int) (p:Nat) (ty k:Int) (hb:Ad b) (hl:b.length≤1048576) (hk:k≤64):Ctr prog 418 [.c (.sl (b.map byteC)),.c (.v (.int .i64 ((p:Int)))),.c (.v (.int .i64 (ty))),.c (.v (.int .i64 (k)))] (AEc (Bz b ty k.toNat p)):=by
 refine CM call418 func418 ntmps418 results418 fun hw=>?_
 simp only[go_sem]
 refine AB6 [16] (A:=Nat×Nat×List DVal) (fun x=>[(12,.c (.v (.int .i64 (x.1)))),(11,.c (.ref 0)),(1,.c (.v (.int .i64 ((x.2.1:Int)))))]) (fun x=>[⟨64,3,x.2.2.map DVal.c,true,true⟩]) (fun x=>x.1≤k.toNat∧x.2.2.length=x.1∧(Bz b ty (k.toNat-x.1) x.2.1).map (fun y=>(x.2.2++y.1,y.2))=Bz b ty k.toNat p) (fun x=>k.toNat-x.1) (0,p,[]) (AB3 [(0,false)] ⟨rfl,rfl,rfl,trivial⟩ rfl) ⟨az _,rfl,AOi⟩ ?_
 rintro⟨i,q',l⟩ ⟨hi,hll,hb2⟩
 dsimp only at hi hll hb2
 refine AOb (fun h=>?_) fun h=>?_
 ·have hi':i<k.toNat:=by simp at h; omega
  rw[show k.toNat-i=(k.toNat-(i+1))+1 from AOh,Bz] at hb2
  have hg2:=V3 b q' ty hb hl
  simp only[go_sem]
  rcases h3:Fe b q' ty with _ | ⟨n,q2⟩<;>rw[h3] at hg2 hb2<;>simp only[gV] at hg2
  ·refine AAT _ hg2 fun _=>?_
   simp only[WY] at hb2
   rw[← hb2]
   simp only[go_sem,AEc]
   try simp[DI]
  ·exact AK_
 ·have hi':i=k.toNat:=by simp at h; omega
  subst hi'
  rw[jP,Bz] at hb2
  simp only[bW,bI] at hb2
  rw[← hb2]
  simp only[go_sem,AEc,DD]
  try exact AIj
def Dn:Option (List DVal)→List Res
 | some l=>[.val (.c (.sl (l.map DVal.c))),.val (.c (.v (.bool (true))))]
 | none=>[.val (.c (.sl [])),.val (.c (.v (.bool (false))))]
theorem ABJ {a b:List Int} (ha:Ad a) (hb:Ad b):((strOfNums a).toList==(strOfNums b).toList)=decide (a=b):=by
 rw[Bool.eq_iff_iff,ZE,bf,← ACa ha hb]
 exact⟨AAE,fun h=>by rw[h]⟩
theorem MF (a b:List Int):Ctr prog 359 [.c (.sl (a.map byteC)),.c (.sl (b.map byteC))] [.val (.c (.v (.bool (decide (a=b)))))]:=by
 refine CM call359 func359 ntmps359 results359 fun hw=>?_
 exact AOO
theorem Il (a b:List Int):Ctr prog 387 [.c (.sl (a.map byteC)),.c (.sl (b.map byteC))] [.val (.c (.v (.bool (decide (a=b)))))]:=by
 refine CM call387 func387 ntmps387 results387 fun hw=>?_
 exact AOO
theorem CJ (b:List Int) (k:Int) (l:List DVal) (e:List Int):Ctr prog 396 [.c (.sl (b.map byteC)),.c (.v (.int .i64 (k))),.c (.sl (l.map DVal.c)),.c (.sl (e.map byteC))] (Dn (again b k l e)):=by
 refine CM call396 func396 ntmps396 results396 fun hw=>?_
 simp only[go_sem]
 refine AAT _ (AL _ _ _) fun _=>?_
 rcases h1:Aa k 1 64 with _ | _
 ·have:again b k l e=none:=aZ APH
  simp only[go_sem,h1,this,Dn]
 have h1':1≤k∧k≤64:=APH
 simp only[go_sem,h1]
 rcases h2:(l.length:Int) != k with _ | _
 ·have h2':(l.length:Int)=k:=by simpa using h2
  simp only[go_sem,h2]
  refine AAT _ (MF b e) fun _=>?_
  rcases h3:decide (b=e) with _ | _
  ·have:again b k l e=none:=aZ (fun q=>by simp at h3; exact h3 q.2.2.2)
   simp only[go_sem,h3,this,Dn]
  ·have:again b k l e=some l:=bu ⟨h1'.1,h1'.2,h2',AOx⟩
   simp only[go_sem,h3,this,Dn]
 ·have:again b k l e=none:=aZ AOw
  simp only[go_sem,h2,this,Dn]
theorem gW (b:List Int) (ty k:Int) (hb:Ad b) (hl:b.length≤1048576):Ctr prog 382 [.c (.sl (b.map byteC)),.c (.v (.int .i64 (ty))),.c (.v (.int .i64 (k)))] (Dn (GY b ty k)):=by
 refine CM call382 func382 ntmps382 results382 fun hw=>?_
 simp only[go_sem]
 refine AAT _ (AP _ _ _) fun _=>?_
 rcases h2:Aa k 1 64 with _ | _
 ·have:GY b ty k=none:=aZ AOr
  simp only[go_sem,h2,this,Dn]
  try simp[DI]
 have h2':1≤k∧k≤64:=AOr
 have hall:GY b ty k=match Bz b ty k.toNat 0 with
  | none=>none
  | some (l,q)=>if q=b.length then some l else none:=bu h2'
 simp only[go_sem,h2]
 refine AB6 [14] (A:=Nat×Nat×List DVal) (fun x=>[(10,.c (.v (.int .i64 (x.1)))),(8,.c (.ref 0)),(9,.c (.v (.int .i64 ((x.2.1:Int)))))]) (fun x=>[⟨64,3,x.2.2.map DVal.c,true,true⟩]) (fun x=>x.1≤k.toNat∧x.2.2.length=x.1∧(Bz b ty (k.toNat-x.1) x.2.1).map (fun y=>(x.2.2++y.1,y.2))=Bz b ty k.toNat 0) (fun x=>k.toNat-x.1) (0,0,[]) (AB3 [(0,false)] ⟨rfl,rfl,rfl,trivial⟩ rfl) ⟨az _,rfl,AOi⟩ ?_
 rintro⟨i,q',l⟩ ⟨hi,hll,hb2⟩
 dsimp only at hi hll hb2
 refine AOb (fun h=>?_) fun h=>?_
 ·have hi':i<k.toNat:=by simp at h; omega
  rw[show k.toNat-i=(k.toNat-(i+1))+1 from AOh,Bz] at hb2
  have hg2:=Md b q' ty hb hl
  simp only[go_sem]
  rcases h3:Fe b q' ty with _ | ⟨n,q2⟩<;>rw[h3] at hg2 hb2<;>simp only[gV] at hg2
  ·refine AAT _ hg2 fun _=>?_
   simp only[WY] at hb2
   rw[hall,← hb2]
   simp only[go_sem,Dn]
   try simp[DI]
  ·exact AK_
 ·have hi':i=k.toNat:=by simp at h; omega
  subst hi'
  rw[jP,Bz] at hb2
  simp only[bW,bI] at hb2
  rw[hall,← hb2]
  rcases h4:((q':Int) != (b.length:Int)) with _ | _
  ·have h4':q'=b.length:=by simp at h4; omega
   simp only[go_sem,h4,bu h4',Dn]
   try exact AIj
  ·have h4':¬ q'=b.length:=by simp at h4; omega
   simp only[go_sem,h4,aZ h4',Dn]
   try simp[DI]
theorem gX (b:List Int) (ty k:Int) (hb:Ad b) (hl:b.length≤1048576):Ctr prog 391 [.c (.sl (b.map byteC)),.c (.v (.int .i64 (ty))),.c (.v (.int .i64 (k)))] (Dn (GY b ty k)):=by
 rw[← Ye hb]
 refine CM call391 func391 ntmps391 results391 fun hw=>?_
 simp only[go_sem]
 refine AAT _ (AL _ _ _) fun _=>?_
 rcases h2:Aa k 1 64 with _ | _
 ·have:PQ b ty k=none:=aZ AOr
  simp only[go_sem,h2,this,Dn]
  try simp[DI]
 have h2':1≤k∧k≤64:=AOr
 simp only[go_sem,h2]
 have hg:=V5 b 0 ty k hb hl h2'.2
 have hall:PQ b ty k=again b k (((Bz b ty k.toNat 0).map Prod.fst).getD []) (Ef (((Bz b ty k.toNat 0).map Prod.fst).getD [])):=bu h2'
 rw[hall]
 rcases h3:Bz b ty k.toNat 0 with _ | ⟨l,q⟩<;>rw[h3] at hg<;>simp only[AEc] at hg<;>simp only[WY,bW,xY,aI]
 ·refine AAT _ hg fun _=>?_
  simp only[go_sem]
  refine AAT _ (Nq [] AOi) fun _=>?_
  simp only[go_sem]
  refine AAT _ (CJ b k [] (Ef [])) fun _=>?_
  rcases h4:again b k [] (Ef []) with _ | l'<;>simp only[go_sem,Dn]
 ·refine AAT _ hg fun _=>?_
  simp only[go_sem]
  have hlen:=(JX hb _ _ _ _ (az _) h3).2.2.1
  refine AAT _ (Nq l AOh) fun _=>?_
  simp only[go_sem]
  refine AAT _ (CJ b k l (Ef l)) fun _=>?_
  rcases h4:again b k l (Ef l) with _ | l'<;>simp only[go_sem,Dn]
def FY (r:DVal×Int):List Cl:=[.v (.int .i64 r.1.ty),.v (.int .i64 r.1.n),.v (.string r.1.s),.v (.int .i64 r.2)]
theorem ACb (r:DVal×Int):DJ (FY r)=true:=rfl
theorem Kw (l:List (DVal×Int)):G5 (l.map FY)=true:=AY ACb
def N7:List (DVal×Int)→DVal→List (DVal×Int)
 | [],v=>[(v,1)]
 | [x],v=>if NM x.1 v=true then [(x.1,x.2+1)] else [x,(v,1)]
 | x::y::r,v=>x::N7 (y::r) v
theorem AGA (r:List (DVal×Int)) (v:DVal):N7 r v≠ []:=by
 cases r with
 | nil=>simp[N7]
 | cons x r =>
  cases r with
  | nil=>simp only[N7]; split<;>simp
  | cons y r=>simp[N7]
theorem AEd {l:List DVal} (h:runs l = []):l = []:=by
 cases l with
 | nil=>rfl
 | cons v l =>
  rw[runs] at h
  split at h
  ·cases h
  ·split at h<;>cases h
theorem TD (v:DVal) (l:List DVal):runs (v::l)=match runs l with
  | []=>[(v,1)]
  | (x,k)::r=>if NM v x=true then(x,k+1)::r else(v,1)::(x,k)::r:=by rw[runs]; rfl
theorem TE (v:DVal):∀ l:List DVal,runs (l ++ [v])=N7 (runs l) v
 | []=>rfl
 | a::l=>by
  have ih:=TE v l
  rw[aU,TD,TD,ih]
  cases hr:runs l with
  | nil =>
   have:=AEd hr
   subst this
   simp only[N7]
   by_cases h:NM a v=true
   ·have:=(LK a v).1 h
    subst this
    simp[h]
   ·simp[h]
  | cons y r =>
   obtain⟨x,k⟩:=y
   cases r with
   | nil =>
    simp only[N7]
    by_cases h:NM x v=true<;>by_cases h2:NM a x=true<;>simp[h,h2,N7]
   | cons z r =>
    rw[N7]
    dsimp only
    by_cases h2:NM a x=true
    ·rw[bu h2,bu h2,N7]
    ·rw[aZ h2,aZ h2,N7,N7]
theorem qA (v:DVal):∀ {rs:List (DVal×Int)} {n:Nat} (h:rs.length=n+1),N7 rs v=if NM (rs[n]' AOh).1 v=true then rs.set n ((rs[n]' AOh).1,(rs[n]' AOh).2+1) else rs ++ [(v,1)]
 | [],_,h=>AO_
 | [x],n,h=>by
  have:n=0:=by simpa using h.symm
  subst this
  simp only[N7,abw]
  rfl
 | x::y::r,n,h=>by
  obtain⟨m,rfl⟩:∃ m,n=m+1:=⟨n-1,AOs⟩
  rw[N7,qA v (rs:=y::r) (n:=m) AO7]
  simp only[abx,List.set_cons_succ,aU]
  split<;>rfl
theorem lM (v:DVal):∀ (rs:List (DVal×Int)),∃ q,(N7 rs v).getLast?=some (v,q)
 | []=>⟨1,rfl⟩
 | [x]=>by
  simp only[N7]
  split
  ·rename_i h
   exact⟨x.2+1,by rw[(LK _ _).1 h]; rfl⟩
  ·exact⟨1,rfl⟩
 | x::y::r=>by
  obtain⟨q,hq⟩:=lM v (y::r)
  refine⟨q, ?_⟩
  rw[N7,List.getLast?_cons,hq]; rfl
theorem Lm:∀ {l:List DVal} {r:DVal×Int},r∈runs l→r.1∈l∧1≤r.2∧r.2≤l.length
 | [],_,h=>APk
 | v::l,r,h=>by
  rw[TD] at h
  have ih:=fun r=>Lm (l:=l) (r:=r)
  cases hr:runs l with
  | nil =>
   simp only[hr,abj] at h
   subst h
   simp only[dh,df]
   exact⟨.inl trivial,AOh,AOh⟩
  | cons y q =>
   obtain⟨x,k⟩:=y
   rw[hr] at h ih
   dsimp only at h
   split at h
   ·rcases dh.1 h with rfl | h
    ·obtain⟨a1,a2,a3⟩:=ih (x,k) AOi
     simp only[dh,df] at *
     exact⟨.inr a1,AOh,AOh⟩
    ·obtain⟨a1,a2,a3⟩:=ih r (by simp[h])
     simp only[dh,df]
     exact⟨.inr a1,AOh,AOh⟩
   ·rcases dh.1 h with rfl | h
    ·simp only[dh,df]
     exact⟨.inl trivial,AOh,AOh⟩
    ·obtain⟨a1,a2,a3⟩:=ih r h
     simp only[dh,df]
     exact⟨.inr a1,AOh,AOh⟩
theorem PN:∀ l:List DVal,(runs l).length≤l.length
 | []=>aT _
 | v::l=>by
  have:=PN l
  rw[TD]
  split
  ·simp
  ·rename_i x k r h
   rw[h] at this
   simp only[df] at this ⊢
   split<;>simp<;>omega
theorem take_snoc {α:Type} {l:List α} {i:Nat} (h:i<l.length):l.take (i+1)=l.take i ++ [l[i]]:=aag h
theorem gY (rs:List (DVal×Int)) (v:DVal):(rs ++ [(v,1)]).map FY=rs.map FY ++ [[.v (.int .i64 v.ty),.v (.int .i64 v.n),.v (.string v.s),.v (.int .i64 1)]]:=by simp[FY]
theorem wK (rs:List (DVal×Int)) (v:DVal):G5 (rs.map FY ++ [[.v (.int .i64 v.ty),.v (.int .i64 v.n),.v (.string v.s),.v (.int .i64 1)]])=true:=by rw[← gY]; exact Kw _
theorem qB (rs:List (DVal×Int)) (n:Nat) (v:DVal) (k:Int):(rs.set n (v,k)).map FY=(rs.map FY).set n [.v (.int .i64 v.ty),.v (.int .i64 v.n),.v (.string v.s),.v (.int .i64 k)]:=by rw[TT]; rfl
theorem ABK (rs:List (DVal×Int)) (n:Nat) (v:DVal) (k:Int):G5 ((rs.map FY).set n [.v (.int .i64 v.ty),.v (.int .i64 v.n),.v (.string v.s),.v (.int .i64 k)])=true:=by rw[← qB]; exact Kw _
theorem lN {l:List DVal} {j:Nat} (hj:j<l.length):∃ (n:Nat) (h:(runs (l.take (j+1))).length=n+1),((runs (l.take (j+1)))[n]' AOh).1=l[j]:=by
 have hs:runs (l.take (j+1))=N7 (runs (l.take j)) l[j]:=by rw[take_snoc hj,TE]
 obtain⟨q,hq⟩:=lM l[j] (runs (l.take j))
 rw[← hs] at hq
 have hne:runs (l.take (j+1))≠ []:=by rw[hs]; exact AGA _ _
 have hlen:0<(runs (l.take (j+1))).length:=aa0.2 hne
 refine⟨(runs (l.take (j+1))).length-1,AOh, ?_⟩
 rw[List.getLast?_eq_getElem?,au AOh] at hq
 rw[uV hq]
theorem zt (l:List DVal) (hl:l.length≤1048576):Ctr prog 434 [.c (.sl (l.map DVal.c))] [.val (.c (.sl ((runs l).map FY)))]:=by
 refine CM call434 func434 ntmps434 results434 fun hw=>?_
 simp only[go_sem]
 refine AB6 [6] (A:=Nat) (fun x=>[(9,.c (.v (.int .i64 (x)))),(3,.c (.ref 0))]) (fun x=>[⟨312,4,(runs (l.take x)).map FY,true,true⟩]) (fun x=>x≤l.length) (fun x=>l.length-x) 0 (AB3 [(0,false)] ⟨rfl,rfl,rfl,trivial⟩ rfl) (az _) ?_
 rintro i hi
 refine AOb (fun h=>?_) fun h=>?_
 ·have hi':i<l.length:=by simp at h; omega
  have hs:runs (l.take (i+1))=N7 (runs (l.take i)) l[i]:=by rw[take_snoc hi',TE]
  have hrl:=PN (l.take i)
  rw[bz] at hrl
  have hl2:(runs (l.take i)).length+1≤2147483648:=AOh
  rcases h2:decide ((i:Int)>0) with _ | _
  ·have h2':i=0:=by simp at h2; omega
   subst h2'
   have hs2:runs (l.take (0+1)) = [(l[0],1)]:=by rw[hs]; rfl
   have hs3:(runs ([]:List DVal)).map FY = []:=rfl
   have hs4:(runs ([]:List DVal)).length=0:=rfl
   simp only[go_sem,AA _ hi']
   refine AAm ?_
   simp only[go_sem,h2,Kw,hs4,az,wrap_i64 (n:=((0:Nat):Int)+1) AOh AOh]
   exact⟨0+1,AB3 [(3,false)] ⟨rfl,rfl,rfl,trivial⟩ (by rw[hs2]; rfl),hi',AOh⟩
  ·have h2':0<i:=by simpa using h2
   obtain⟨j,rfl⟩:∃ j,i=j+1:=⟨i-1,AOh⟩
   have hj:j<l.length:=AOh
   have hw1:IntKind.i64.wrap (((j+1:Nat):Int)-1)=(j:Int):=by rw[show (((j+1:Nat):Int)-1)=(j:Int) from AOh]; exact wrap_i64 AOh AOh
   have e1:(l[j].ty==l[j+1].ty&&(l[j].n==l[j+1].n&&l[j].s.toList==l[j+1].s.toList))=NM l[j] l[j+1]:=rfl
   obtain⟨n,hn,hn2⟩:=lN hj
   have hn3:n<(runs (l.take (j+1))).length:=AOh
   rw[qA l[j+1] hn,hn2] at hs
   simp only[go_sem,AA _ hi']
   refine AAm ?_
   simp only[go_sem,h2,hw1,AA _ hj,EP,IG,e1]
   rcases h3:NM l[j] l[j+1] with _ | _
   ·rw[h3,aZ AOi] at hs
    simp only[go_sem,h3,hl2,Kw,wrap_i64 (n:=((j+1:Nat):Int)+1) AOh AOh]
    exact⟨j+1+1,AB3 [(3,false)] ⟨rfl,rfl,wK _ _,trivial⟩ (by rw[hs,gY]; rfl),hi',AOh⟩
   ·rw[h3,bu rfl] at hs
    have hw2:IntKind.i64.wrap (((runs (l.take (j+1))).length:Int)-1)=(n:Int):=by rw[show (((runs (l.take (j+1))).length:Int)-1)=(n:Int) from AOh]; exact wrap_i64 AOh AOh
    obtain⟨b1,b2,b3⟩:=Lm (ax hn3)
    rw[bz] at b3
    simp only[go_sem,h3,hw2,hn3,AA _ hn3,FY,Kw,hn2,wrap_i64 (n:=(runs (l.take (j+1)))[n].2+1) AOh AOh,wrap_i64 (n:=((j+1:Nat):Int)+1) AOh AOh]
    exact ANc
 ·have hi':i=l.length:=by simp at h; omega
  subst hi'
  simp only[go_sem,bD,Kw]
  try exact AIj
theorem zu (l:List DVal) (hl:l.length≤1048576):Ctr prog 426 [.c (.sl (l.map DVal.c))] [.val (.c (.sl ((runs l).map FY)))]:=by
 refine CM call426 func426 ntmps426 results426 fun hw=>?_
 simp only[go_sem]
 refine AB6 [6] (A:=Nat) (fun x=>[(4,.c (.v (.int .i64 (x)))),(3,.c (.ref 0))]) (fun x=>[⟨312,4,(runs (l.take x)).map FY,true,true⟩]) (fun x=>x≤l.length) (fun x=>l.length-x) 0 (AB3 [(0,false)] ⟨rfl,rfl,rfl,trivial⟩ rfl) (az _) ?_
 rintro i hi
 refine AOb (fun h=>?_) fun h=>?_
 ·have hi':i<l.length:=by simp at h; omega
  have hs:runs (l.take (i+1))=N7 (runs (l.take i)) l[i]:=by rw[take_snoc hi',TE]
  have hrl:=PN (l.take i)
  rw[bz] at hrl
  have hl2:(runs (l.take i)).length+1≤2147483648:=AOh
  rcases i with _ | j
  ·have h2:decide ((0:Int)>0)=false:=by decide
   have hs2:runs (l.take (0+1)) = [(l[0],1)]:=by rw[hs]; rfl
   have hs4:(runs ([]:List DVal)).length=0:=rfl
   simp only[go_sem,abe,hs4,Int.ofNat_zero,abI]
   refine AAm ?_
   simp only[go_sem,abe,hs4,h2,Int.ofNat_zero,abI,AA _ hi',Kw,az,wrap_i64 (n:=(0:Int)+1) AOh AOh]
   exact⟨0+1,AB3 [(2,false)] ⟨rfl,rfl,rfl,trivial⟩ (by rw[hs2]; rfl),hi',AOh⟩
  ·have hj:j<l.length:=by omega
   obtain⟨n,hn,hn2⟩:=lN hj
   have hn3:n<(runs (l.take (j+1))).length:=AOh
   rw[qA l[j+1] hn,hn2] at hs
   have h2:decide (((runs (l.take (j+1))).length:Int)>0)=true:=by rw[bf]; omega
   have hw2:IntKind.i64.wrap (((runs (l.take (j+1))).length:Int)-1)=(n:Int):=by rw[show (((runs (l.take (j+1))).length:Int)-1)=(n:Int) from AOh]; exact wrap_i64 AOh AOh
   have e1:(l[j].ty==l[j+1].ty&&(l[j].n==l[j+1].n&&l[j].s.toList==l[j+1].s.toList))=NM l[j] l[j+1]:=rfl
   simp only[go_sem]
   refine AAm ?_
   simp only[go_sem,h2,hw2,hn3,AA _ hn3,AA _ hi',FY,hn2,EP,IG,e1]
   rcases h3:NM l[j] l[j+1] with _ | _
   ·rw[h3,aZ AOi] at hs
    simp only[go_sem,h3,hl2,AA _ hi',Kw,wrap_i64 (n:=((j+1:Nat):Int)+1) AOh AOh]
    exact⟨j+1+1,AB3 [(2,false)] ⟨rfl,rfl,wK _ _,trivial⟩ (by rw[hs,gY]; rfl),hi',AOh⟩
   ·rw[h3,bu rfl] at hs
    obtain⟨b1,b2,b3⟩:=Lm (ax hn3)
    rw[bz] at b3
    simp only[go_sem,h3,hw2,hn3,AA _ hn3,AA _ hi',FY,Kw,hn2,wrap_i64 (n:=(runs (l.take (j+1)))[n].2+1) AOh AOh,wrap_i64 (n:=((j+1:Nat):Int)+1) AOh AOh]
    exact ANc
 ·have hi':i=l.length:=by simp at h; omega
  subst hi'
  simp only[go_sem,bD,Kw]
  try exact AIj
theorem QJ (v:DVal) (k:Int) (r:List (DVal×Int)) (n:Nat):IQ ((v,k)::r) n=if k<1∨k>64-n then none else(IQ r (n+k.toNat)).map fun l=>List.replicate k.toNat v++l:=rfl
theorem QK {α:Type} {l:List α} {i:Nat} (h:i<l.length):l.drop i=l[i]::l.drop (i+1):=aG h
theorem wL (out:List DVal) (j:Nat) (v:DVal):(out++List.replicate (j+1) v).map DVal.c=(out++List.replicate j v).map DVal.c ++ [v.c]:=by
 rw[List.replicate_succ',← bM,GV]
theorem AEe (out:List DVal) (j:Nat) (v:DVal):G5 ((out++List.replicate j v).map DVal.c ++ [v.c])=true:=by rw[← GV]; exact QF _
theorem qC (r:List (DVal×Int)) (hl:r.length≤1048576):Ctr prog 420 [.c (.sl (r.map FY))] [.val (.c (.sl ((spread r).map DVal.c)))]:=by
 refine CM call420 func420 ntmps420 results420 fun hw=>?_
 simp only[go_sem]
 refine AB6 [7] (A:=Nat×List DVal) (fun x=>[(10,.c (.v (.int .i64 (x.1)))),(3,.c (.ref 0))]) (fun x=>[⟨64,3,x.2.map DVal.c,true,true⟩]) (fun x=>x.1≤r.length∧x.2.length≤64∧(IQ (r.drop x.1) x.2.length).map (fun y=>x.2++y)=IQ r 0) (fun x=>r.length-x.1) (0,[]) (AB3 [(0,false)] ⟨rfl,rfl,rfl,trivial⟩ rfl) ⟨az _,az _,AOi⟩ ?_
 rintro⟨i,out⟩ ⟨hi,hll,hp⟩
 dsimp only at hi hll hp
 refine AOb (fun h=>?_) fun h=>?_
 ·have hi':i<r.length:=by simp at h; omega
  rw[QK hi',show r[i]=(r[i].1,r[i].2) from rfl,QJ] at hp
  rcases h2:decide (r[i].2<1) with _ | _
  rotate_left
  ·rw[bu (.inl APP)] at hp
   simp only[WY] at hp
   have e:spread r = []:=APh
   rw[e]
   simp only[go_sem,AA _ hi',FY,h2,cu]
  have h2':1≤r[i].2:=AOw
  have hw1:IntKind.i64.wrap (64-(out.length:Int))=64-(out.length:Int):=wrap_i64 AOh AOh
  rcases h3:decide (r[i].2>64-(out.length:Int)) with _ | _
  rotate_left
  ·rw[bu (.inr AOx)] at hp
   simp only[WY] at hp
   have e:spread r = []:=APh
   rw[e]
   simp only[go_sem,AA _ hi',FY,h2,hw1,h3,cu]
  have h3':r[i].2≤64-(out.length:Int):=APX
  obtain⟨K,hK⟩:=aO (show 0≤r[i].2 from AOh)
  rw[aZ AOh,hK,bH] at hp
  rw[hK] at h2 h3 h2' h3'
  simp only[go_sem,AA _ hi',FY,hK,h2,hw1,h3]
  refine AB6 [20] (A:=Nat) (fun x=>[(6,.c (.v (.int .i64 (x)))),(3,.c (.ref 0))]) (fun x=>[⟨64,3,(out++List.replicate x r[i].1).map DVal.c,true,true⟩,⟨312,4,[FY (r[i].1,(K:Int))],true,true⟩]) (fun x=>x≤K) (fun x=>K-x) 0 (AB3 [(0,false),(1,false)] ⟨rfl,rfl,QF _,rfl,trivial⟩ (by simp only[List.replicate_zero,bI]; rfl)) (az _) ?_
  rintro j hj
  have hl2:out.length+j+1≤2147483648:=AOh
  simp only[go_sem,FY]
  refine AA0 (fun h=>?_) (fun h=>?_)
  ·have hj':j<K:=by simp[FY] at h; omega
   simp only[go_sem,FY,hl2,xX,wrap_i64 (n:=(j:Int)+1) AOh AOh]
   exact⟨j+1,AB3 [(3,false),(1,false)] ⟨rfl,rfl,AEe _ _ _,rfl,trivial⟩ (by rw[wL]; rfl),hj',AOh⟩
  ·have hj':j=K:=by simp[FY] at h; omega
   exact ALf
 ·have hi':i=r.length:=by simp at h; omega
  subst hi'
  rw[aV] at hp
  simp only[IQ,bW,bI] at hp
  have e:spread r=out:=APh
  rw[e]
  simp only[go_sem]
  try exact AIj
end Go.Proofs.YtnoldekcdlaahaaGreat
