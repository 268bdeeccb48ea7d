/- A part. -/
import Derived.Test.YthmifbbmgnhddaaGreatYe
import Derived.Test.YthmifbbmgnhddaaGreatYu
set_option linter.unusedSimpArgs false
set_option linter.unusedVariables false
set_option maxHeartbeats 2000000
set_option maxRecDepth 10000
open Go.Proofs.Tryz
namespace Go.Proofs.YthmifbbmgnhddaaGreat
open Go.Vm
theorem Ua {l:List DVal} (h0:0<l.length) {i:Nat} (hi:i<l.length) (h:¬ (BO l[i]=true∧l[i].ty=l[0].ty)):typeOf l=0:=by
 cases l with
 | nil=>simp at h0
 | cons v r =>
  show (if(v::r).length≤64∧_ then v.ty else 0)=0
  rw[bu]
  rintro⟨_,q⟩
  exact h (q _ (aj hi))
theorem FN (l:List Int):Fv (l.map byteC)=true:=AP byteC.pure
theorem CB (l:List Int):Fv (l.map intC)=true:=AP OC
theorem RI (l:List DVal):Fv (l.map DVal.c)=true:=AP DVal.pure
theorem ABz (s:ByteArray):PN s=(AAG s).map byteC:=by simp only[PN,AAG,List.map_map]; rfl
attribute [go_sem] aW bn aN bz bV ae ABz ak Nat.zero_lt_succ bH
theorem Tj (a b:List Int):a.map byteC++b.map byteC=(a++b).map byteC:=bQ.symm
theorem DC (l:List DVal) (hl:l.length≤1048576):Ctr prog 388 [.c (.sl (l.map DVal.c))] [.val (.c (.v (.int .i64 (typeOf l))))]:=by
 refine CM call388 func388 ntmps388 results388 fun hw=>?_
 simp only[go_sem,ae]
 refine AAN _ (AL _ _ _) fun _=>?_
 rcases h1:Ad (l.length:Int) 1 64 with _ | _
 ·exact AOS
 have hlen:1≤l.length∧l.length≤64:=ARl
 have h0:0<l.length:=AQ2
 simp only[go_sem,h1,ae]
 refine AAT 0 (A:=Nat) (fun x=>[(11,.c (.v (.int .i64 (x))))]) (fun _=>[]) (fun x=>x≤l.length∧∀ m (h:m<l.length),m<x→BO l[m]=true∧l[m].ty=l[0].ty) (fun x=>l.length-x) 0 ⟨⟨rfl,rfl⟩,rfl,au _,fun m h h2=>AQ2⟩ ?_
 rintro i ⟨hi,hb⟩
 refine AQy (fun h=>?_) fun h=>?_
 ·have hi':i<l.length:=by simp at h; omega
  simp only[go_sem,ae,AA _ hi',AA _ h0,ak]
  refine AAO ?_
  simp only[go_sem,ae,AA _ hi',AA _ h0,ak]
  refine CY (Dv l[i]) ?_
  exact AI1
 ·exact AOR
theorem Ey (l:List DVal) (hl:l.length≤1048576):Ctr prog 380 [.c (.sl (l.map DVal.c))] [.val (.c (.v (.int .i64 (typeOf l))))]:=by
 refine CM call380 func380 ntmps380 results380 fun hw=>?_
 simp only[go_sem,ae]
 refine AAN _ (AQ _ _ _) fun _=>?_
 rcases h1:Ad (l.length:Int) 1 64 with _ | _
 ·exact AOS
 have hlen:1≤l.length∧l.length≤64:=ARl
 have h0:0<l.length:=AQ2
 simp only[go_sem,h1,ae]
 refine AAT 0 (A:=Nat) (fun x=>[(3,.c (.v (.int .i64 (x))))]) (fun _=>[]) (fun x=>x≤l.length∧∀ m (h:m<l.length),m<x→BO l[m]=true∧l[m].ty=l[0].ty) (fun x=>l.length-x) 0 ⟨⟨rfl,rfl⟩,rfl,au _,fun m h h2=>AQ2⟩ ?_
 rintro i ⟨hi,hb⟩
 refine AQy (fun h=>?_) fun h=>?_
 ·have hi':i<l.length:=by simp at h; omega
  simp only[go_sem,ae,AA _ hi',AA _ h0,ak]
  refine AAO ?_
  simp only[go_sem,ae,AA _ hi',AA _ h0,ak]
  refine CY (I8 l[i]) ?_
  exact AI1
 ·exact AOR
def mF (v:DVal):List Int:=if BO v=true then X0 v else []
theorem zo {v:DVal} (h:BO v=true) (h2:v.ty=1):mF v=dB v.n:=by
 have:EN v.n=true:=by
  simp only[BO,bG h2,az] at h
  exact h.1
 simp only[mF,dB,h,this,bH,X0,bG h2]
theorem zq {v:DVal} (h:BO v=true) (h2:v.ty=2):mF v=(v.s.size:Int)::AAG v.s∧v.s.size≤6:=by
 have h3:¬ v.ty=1:=AQ2
 have:v.s.size≤6:=by
  simp only[BO,bu h3,az,bC] at h
  exact h.1.2
 exact⟨by simp only[mF,h,bH,X0,bu h3],this⟩
theorem RJ (b:List Int) (v:DVal) (hl:b.length≤1048576):Ctr prog 441 [.c (.sl (b.map byteC)),.agg v.c] [.own 5 1 ((b++mF v).map byteC) true]:=by
 refine CM call441 func441 ntmps441 results441 fun hw=>?_
 have hl2:b.length≤2147483648:=AQ2
 simp only[go_sem,ae]
 refine AAN _ (Dv v) fun _=>?_
 rcases h1:BO v with _ | _
 ·simp only[go_sem,h1,mF]
  refine AAN _ (Gh b hl2) fun _=>?_
  simp only[go_sem,h1,CE,bK]
  try exact AHA
 have hty:=kw h1
 rcases h2:v.ty==1 with _ | _
 rotate_left
 ·have h2':v.ty=1:=by simpa using h2
  simp only[go_sem,h1,h2]
  refine AAN _ (Gu b v.n hl) fun _=>?_
  rw[zo h1 h2']
  simp only[go_sem,CE]
  try exact AHA
 have h2':v.ty=2:=ARN
 obtain⟨e1,e2⟩:=zq h1 h2'
 have w1:IntKind.u8.wrap (v.s.size:Int)=v.s.size:=wrap_u8 AQ2 AQ2
 have g1:b.length+1≤2147483648:=AQ2
 have g2:b.length+1+v.s.size≤2147483648:=AQ2
 rw[e1]
 simp only[go_sem,h1,h2]
 refine ACh 1 6 [0,1,2,3,4,5,6,7,8,9,10,11] [0,2,3,4,5,6,1,7,8,9,10,11] rfl (by kernel_rfl) (by kernel_rfl) ?_ ?_
 ·simp only[go_sem]
  refine AAR ?_
  simp only[go_sem]
  exact AQI
 ·simp only[go_sem]
  refine AAR ?_
  simp only[go_sem,w1]
  exact AQI
theorem RN (b:List Int) (v:DVal) (hl:b.length≤1048576):Ctr prog 431 [.c (.sl (b.map byteC)),.agg v.c] [.own 5 1 ((b++mF v).map byteC) true]:=by
 refine CM call431 func431 ntmps431 results431 fun hw=>?_
 have hl2:b.length≤2147483648:=AQ2
 simp only[go_sem,ae,Gg,hl2,ak]
 refine AAN _ (I8 v) fun _=>?_
 rcases h1:BO v with _ | _
 ·simp only[go_sem,h1,mF,CE,bK]
  try exact AHA
 have hty:=kw h1
 rcases h2:v.ty==1 with _ | _
 rotate_left
 ·have h2':v.ty=1:=by simpa using h2
  simp only[go_sem,h1,h2,FN]
  refine AAN _ (Kv b v.n hl) fun _=>?_
  rw[zo h1 h2']
  simp only[go_sem,CE]
  try exact AHA
 have h2':v.ty=2:=ARN
 obtain⟨e1,e2⟩:=zq h1 h2'
 have w1:IntKind.u8.wrap (v.s.size:Int)=v.s.size:=wrap_u8 AQ2 AQ2
 have g1:b.length+1≤2147483648:=AQ2
 have g2:b.length+1+v.s.size≤2147483648:=AQ2
 rw[e1]
 simp only[go_sem,h1,h2]
 refine AAR ?_
 simp only[go_sem,w1,g1,g2]
 simp only[CE,aZ]
 try simp[OwnL,AC,byteC]
def Rq:DVal:=⟨0,0,ByteArray.empty⟩
def kL:Option (DVal×Nat)→List Res
 | some (v,q)=>[.val (.agg v.c),.val (.c (.v (.int .i64 ((q:Int))))),.val (.c (.v (.bool (true))))]
 | none=>[.val (.agg Rq.c),.val (.c (.v (.int .i64 (0)))),.val (.c (.v (.bool (false))))]
theorem Ov:∀ l:List Int,TD (l.map byteC)=some l
 | []=>rfl
 | c::l=>by
  show (match TD (l.map byteC) with | some ns=>some (c::ns) | none=>none)=_
  rw[Ov l]
theorem Iq {k:IntKind} {n:Int} {m:Nat} (h:n=(m:Int)):XB (.c (.v (.int k n)))=some m:=by
 subst h
 show (if(0:Int)≤(m:Int) then some (m:Int).toNat else none)=_
 rw[bG AQ2,YM]
theorem BL (l:List Int):((l.map byteC).all fun r=>r.length==1)=true:=aS.2 fun r hr=>by
 exact APL
theorem AJP (b:List Int) (p ty:Int) (h1:ty≠1) (h2:ty≠2):GK b p ty=none:=by
 unfold GK
 rw[bu h1,bu (fun h=>h2 h.1)]
theorem AB0 (b:List Int) (p:Int) (h:¬ (0≤p∧p<b.length)):GK b p 2=none:=by
 unfold GK
 rw[bu AQ2]
 split
 ·rename_i h2
  have:b[p.toNat]?=none:=by rw[abB]; omega
  rw[this]
 ·rfl
theorem AJQ {b:List Int} {p:Nat} (h:p<b.length):GK b (p:Int) 2=if p+1+b[p].toNat≤b.length then(if BO ⟨2,0,strOfNums ((b.drop (p+1)).take b[p].toNat)⟩=true then some (⟨2,0,strOfNums ((b.drop (p+1)).take b[p].toNat)⟩,p+1+b[p].toNat) else none) else none:=by
 unfold GK
 rw[bu AQ2,bG ⟨rfl,AQ2⟩]
 simp only[YM,aC h]
theorem Xr (b:List Int) (p ty:Int) (hb:Af b) (hl:b.length≤1048576):Ctr prog 414 [.c (.sl (b.map byteC)),.c (.v (.int .i64 (p))),.c (.v (.int .i64 (ty)))] (kL (GK b p ty)):=by
 refine CM call414 func414 ntmps414 results414 fun hw=>?_
 rcases h1:ty==1 with _ | _
 ·have h1':ty≠1:=by simpa using h1
  simp only[go_sem,h1]
  rcases h2:ty==2 with _ | _
  ·have h2':ty≠2:=by simpa using h2
   rw[AJP b p ty h1' h2']
   simp only[go_sem,h2]
   refine AAN _ (Dv ⟨ty,0,ByteArray.empty⟩) fun _=>?_
   have hv:BO ⟨ty,0,ByteArray.empty⟩=false:=by simp[BO,h1',h2']
   simp only[go_sem,hv,kL,Rq]
  ·have:ty=2:=by simpa using h2
   subst this
   simp only[go_sem,h2]
   rcases h3:decide (p≥0) with _ | _
   ·rw[AB0 b p ARr]
    simp only[go_sem,h3]
    exact AOg
   have h3':0≤p:=ARQ
   obtain⟨p,rfl⟩:=aU h3'
   rcases h4:decide ((p:Int)<(b.length:Int)) with _ | _
   ·rw[AB0 b p (by simp at h4; omega)]
    simp only[go_sem,h3,h4]
    exact AOg
   have hp:p<b.length:=ARd
   have hc:isByte b[p]:=hb _ (aj hp)
   obtain⟨c,hc2⟩:=aU hc.1
   have hc3:c<256:=by have:=hc.2; omega
   rw[AJQ hp]
   simp only[go_sem,h3,h4,AA _ hp,hc2,YM,wrap_i64 (n:=(p:Int)+1) AQ2 AQ2,wrap_i64 (n:=(p:Int)+1+(c:Int)) AQ2 AQ2,wrap_i64 (n:=(c:Int)) AQ2 AQ2]
   rcases h5:decide ((p:Int)+1+(c:Int)>(b.length:Int)) with _ | _
   ·have h6:p+1+c≤b.length:=by simp at h5; omega
    have q1:=Iq (k:=.i64) (n:=(p:Int)+1) (m:=p+1) AQ2
    have q2:=Iq (k:=.i64) (n:=(p:Int)+1+(c:Int)) (m:=p+1+c) AQ2
    have q5:p+1≤p+1+c:=AQ2
    have q6:p+1+c-(p+1)=c:=AQ2
    rw[bG h6]
    simp only[go_sem,h5,wrap_i64 (n:=(p:Int)+1) AQ2 AQ2,q1,q2,q5,q6,h6,BL,← cO,← cZ,Ov]
    refine AAN _ (Dv ⟨2,0,strOfNums ((b.drop (p+1)).take c)⟩) fun _=>?_
    exact AL1
   ·rw[bu (by simp at h5; omega)]
    simp only[go_sem,h5,kL,Rq]
 ·have:ty=1:=by simpa using h1
  subst this
  simp only[go_sem,h1]
  have hg:=Gt b p hb hl
  rcases h2:BU b p with _ | ⟨n,q⟩<;>rw[h2] at hg<;>simp only[Xn] at hg
  ·refine AAN _ hg fun _=>?_
   simp only[go_sem,GK,h2,kL,X6,Rq]
  refine AAN _ hg fun _=>?_
  obtain⟨e1,e2,e3,e4,e5,e6⟩:=Ig hb h2
  have hv:=pK n ⟨e4,e5⟩
  simp only[go_sem]
  refine AAN _ (Dv ⟨1,n,ByteArray.empty⟩) fun _=>?_
  have e7:((q:Int)==0)=false:=AQ5
  simp only[go_sem,hv,GK,h2,kL,dm,e7]
theorem Ny (b:List Int) (p ty:Int) (hb:Af b) (hl:b.length≤1048576):Ctr prog 401 [.c (.sl (b.map byteC)),.c (.v (.int .i64 (p))),.c (.v (.int .i64 (ty)))] (kL (GK b p ty)):=by
 refine CM call401 func401 ntmps401 results401 fun hw=>?_
 rcases h1:ty==1 with _ | _
 ·have h1':ty≠1:=by simpa using h1
  simp only[go_sem,h1]
  rcases h2:ty==2 with _ | _
  ·have h2':ty≠2:=by simpa using h2
   rw[AJP b p ty h1' h2']
   have h3:(ty != 2)=true:=by simpa using h2'
   simp only[go_sem,h3,kL,Rq]
  ·have:ty=2:=by simpa using h2
   subst this
   have h3:((2:Int) != 2)=false:=AQ3
   simp only[go_sem,h3]
   refine AAN _ (AQ _ _ _) fun _=>?_
   simp only[go_sem,wrap_i64 (n:=(b.length:Int)-1) AQ2 AQ2]
   rcases h4:Ad p 0 ((b.length:Int)-1) with _ | _
   ·rw[AB0 b p ARx]
    simp only[go_sem,h4,kL,Rq]
   have h4':0≤p∧p<b.length:=ARx
   obtain⟨p,rfl⟩:=aU h4'.1
   have hp:p<b.length:=AQ2
   have hc:isByte b[p]:=hb _ (aj hp)
   obtain⟨c,hc2⟩:=aU hc.1
   have hc3:c<256:=by have:=hc.2; omega
   rw[AJQ hp]
   simp only[go_sem,h4,AA _ hp,hc2,YM,wrap_i64 (n:=(p:Int)+1) AQ2 AQ2,wrap_i64 (n:=(p:Int)+1+(c:Int)) AQ2 AQ2,wrap_i64 (n:=(c:Int)) AQ2 AQ2,wrap_i64 (n:=(b.length:Int)-(p:Int)) AQ2 AQ2,wrap_i64 (n:=(b.length:Int)-(p:Int)-1) AQ2 AQ2]
   rcases h5:decide ((c:Int)>(b.length:Int)-(p:Int)-1) with _ | _
   ·have h6:p+1+c≤b.length:=by simp at h5; omega
    have q1:=Iq (k:=.i64) (n:=(p:Int)+1) (m:=p+1) AQ2
    have q2:=Iq (k:=.i64) (n:=(p:Int)+1+(c:Int)) (m:=p+1+c) AQ2
    have q5:p+1≤p+1+c:=AQ2
    have q6:p+1+c-(p+1)=c:=AQ2
    rw[bG h6]
    simp only[go_sem,h5,wrap_i64 (n:=(p:Int)+1) AQ2 AQ2,wrap_i64 (n:=(p:Int)+1+(c:Int)) AQ2 AQ2,q1,q2,q5,q6,h6,BL,← cO,← cZ,Ov]
    refine AAN _ (I8 ⟨2,0,strOfNums ((b.drop (p+1)).take c)⟩) fun _=>?_
    exact AL1
   ·rw[bu (by simp at h5; omega)]
    simp only[go_sem,h5,kL,Rq]
 ·have:ty=1:=by simpa using h1
  subst this
  simp only[go_sem,h1]
  have hg:=Gs b p hb hl
  rcases h2:BU b p with _ | ⟨n,q⟩<;>rw[h2] at hg<;>simp only[Xn] at hg
  ·refine AAN _ hg fun _=>?_
   simp only[go_sem,GK,h2,kL,X6,Rq]
  refine AAN _ hg fun _=>?_
  simp only[go_sem,GK,h2,kL,dm]
theorem AKn:Fv []=true:=rfl
attribute [go_sem] AKn FN RI CB CE AX BH AKk
theorem Ox:∀ {b:List Int},oI (b.map byteC)→Af b
 | [],_=>by simp[Af]
 | c::b,h=>by
  simp only[TA,oI,Py,YR,yP] at h
  intro x hx
  rcases Rx.1 hx with rfl | hx
  ·have:=h.1.1
   simp only[Rz,Lit.wf,az,bC] at this
   simp[IntKind.min,IntKind.max,IntKind.bits,IntKind.signed] at this
   unfold isByte
   omega
  ·exact Ox h.2 x hx
theorem AEs {a b:List Int} (ha:Af a) (hb:Af b):(strOfNums a=strOfNums b)↔a=b:=by
 constructor
 ·intro h
  rw[← uw ha,← uw hb,h]
 ·rintro rfl; rfl
theorem Dh {l:List DVal} (h:typeOf l≠0):1≤l.length∧l.length≤64∧∀ v∈l,BO v=true∧v.ty=typeOf l:=by
 cases l with
 | nil=>exact absurd rfl h
 | cons v r =>
  have e:typeOf (v::r)=if(v::r).length≤64∧∀ x∈(v::r),BO x=true∧x.ty=v.ty then v.ty else 0:=rfl
  rw[e] at h ⊢
  split at h
  ·rename_i h1
   rw[bG h1]
   exact⟨AQ3,h1.1,h1.2⟩
  ·exact absurd rfl h
theorem EJ (n:Int):(FX n).length≤5:=eF 4 _
theorem Xt {v:DVal} (h:BO v=true):(X0 v).length≤7:=by
 unfold X0
 split
 ·have:=EJ v.n; omega
 ·rename_i h3
  have:v.s.size≤6:=by
   simp only[BO,bu h3,az,bC] at h
   exact h.1.2
  simp[AG6]; omega
theorem Ld:∀ {l:List DVal},(∀ v∈l,BO v=true)→(Ky l).length≤7*l.length
 | [],_=>by simp[Ky]
 | v::l,h=>by
  have h1:=Xt (h v AQ3)
  have h2:=Ld fun x hx=>h x (abD v hx)
  simp only[Ky,TA,lL,aN,bz] at h1 h2 ⊢
  omega
theorem Ub {v:DVal} (h:BO v=true):mF v=X0 v:=by simp only[mF,h,bH]
theorem Kw {n:Int} (h:EN n=true):dB n=FX n:=by simp only[dB,h,bH]
theorem RP {l:List DVal} {i:Nat} (h:i<l.length):Ky (l.take (i+1))=Ky (l.take i)++X0 l[i]:=by
 rw[aaB h]
 simp only[Ky,bQ,aaS,TA,df,lL,aaU,bK]
theorem AB1 {l:List Int} {i:Nat} (h:i<l.length):((l.take (i+1)).map FX).flatten=((l.take i).map FX).flatten++FX l[i]:=by
 rw[aaB h]
 simp only[bQ,aaS,TA,df,lL,aaU,bK]
theorem Yk:∀ l:List Int,((l.map FX).flatten).length≤5*l.length
 | []=>AQ3
 | n::l=>by
  have h1:=EJ n
  have h2:=Yk l
  simp only[TA,lL,aN,bz]
  omega
theorem mG (b:List Int) (l:List Int) (hl:l.length≤100000) (hb:b.length≤100000) (hn:∀ n∈l,EN n=true):Ctr prog 391 [.c (.sl (b.map byteC)),.c (.sl (l.map intC))] [.own 5 1 ((b++Ro l).map byteC) true]:=by
 refine CM call391 func391 ntmps391 results391 fun hw=>?_
 have h1:decide ((l.length:Int)>1000000000)=false:=AQ5
 simp only[go_sem]
 refine AAN _ (Gh b AQ2) fun _=>?_
 simp only[go_sem,h1]
 refine AAT 1 (A:=Nat) (fun x=>[(18,.c (.v (.int .i64 (x))))]) (fun _=>[⟨5,1,b.map byteC,true,true⟩]) (fun x=>x≤l.length) (fun x=>l.length-x) 0 ⟨⟨rfl,all1 (AU (CE _))⟩,rfl,au _⟩ ?_
 rintro i hi
 refine AQx (fun h=>?_) fun h=>?_
 ·have hi':i<l.length:=by simp at h; omega
  have hok:=hn _ (aj hi')
  simp only[go_sem,AA _ hi']
  refine AAN _ (OX _) fun _=>?_
  simp only[go_sem,hok,wrap_i64 (n:=(i:Int)+1) AQ2 AQ2]
  exact⟨i+1,⟨rfl,all1 (AU (CE _))⟩,rfl,hi',AQ2⟩
 ·simp only[go_sem]
  refine AAN _ (Gu b _ AQ2) fun _=>?_
  rw[Kw (by simp[EN,Ad]; omega)]
  simp only[go_sem]
  have hq:=EJ (l.length:Int)
  refine AAU [11,27,30] (A:=Nat) (fun x=>[(33,.c (.v (.int .i64 (x)))),(5,.c (.ref 0))]) (fun x=>[⟨5,1,(b++FX l.length++((l.take x).map FX).flatten).map byteC,true,true⟩]) (fun x=>x≤l.length) (fun x=>l.length-x) 0 (AAQ [(1,false)] ⟨rfl,rfl,FN _,trivial⟩ (by simp only[VY,df,aaU,bK]; rfl)) (au _) ?_
  rintro i hi
  refine AQx (fun h=>?_) fun h=>?_
  ·have hi':i<l.length:=by simp at h; omega
   have hok:=hn _ (aj hi')
   have hq2:=Yk (l.take i)
   rw[bJ] at hq2
   simp only[go_sem,AA _ hi',FN]
   refine AAN _ (Gu _ _ ARh) fun _=>?_
   rw[Kw hok]
   simp only[go_sem,wrap_i64 (n:=(i:Int)+1) AQ2 AQ2]
   exact⟨i+1,AAQ [(1,false)] ⟨rfl,rfl,FN _,trivial⟩ (by rw[AB1 hi']; simp; rfl),hi',AQ2⟩
  ·have hi':i=l.length:=by simp at h; omega
   subst hi'
   simp only[go_sem,CE,Ro,bP,aZ]
   try exact AHA
theorem Oy (l:List DVal) (hl:l.length≤1048576):Ctr prog 413 [.c (.sl (l.map DVal.c))] [.own 5 1 ((En l).map byteC) true]:=by
 refine CM call413 func413 ntmps413 results413 fun hw=>?_
 simp only[go_sem]
 refine AAN _ (DC l hl) fun _=>?_
 rcases h1:typeOf l==0 with _ | _
 ·have h1':typeOf l≠0:=by simpa using h1
  obtain⟨q1,q2,q3⟩:=Dh h1'
  simp only[go_sem,h1,En,h1']
  refine AAU [6] (A:=Nat) (fun x=>[(13,.c (.v (.int .i64 (x)))),(3,.c (.ref 0))]) (fun x=>[⟨5,1,(Ky (l.take x)).map byteC,true,true⟩]) (fun x=>x≤l.length) (fun x=>l.length-x) 0 (AAQ [(0,false)] ⟨rfl,rfl,rfl,trivial⟩ rfl) (au _) ?_
  rintro i hi
  refine AQx (fun h=>?_) fun h=>?_
  ·have hi':i<l.length:=by simp at h; omega
   have hok:=(q3 _ (aj hi')).1
   have hq2:=Ld (l:=l.take i) fun v hv=>(q3 v (aaz hv)).1
   rw[bJ] at hq2
   simp only[go_sem,AA _ hi',FN]
   refine AAN _ (RJ _ _ AQ2) fun _=>?_
   rw[Ub hok,← RP hi']
   exact APD
  ·have hi':i=l.length:=by simp at h; omega
   subst hi'
   simp only[go_sem,CE,bP,ay,aY]
   try exact AHA
 ·have h1':typeOf l=0:=by simpa using h1
  have e:En l = []:=bG h1'
  exact AKC
theorem Tm (l:List DVal) (hl:l.length≤1048576):Ctr prog 440 [.c (.sl (l.map DVal.c))] [.own 5 1 ((En l).map byteC) true]:=by
 refine CM call440 func440 ntmps440 results440 fun hw=>?_
 simp only[go_sem]
 refine AAN _ (Ey l hl) fun _=>?_
 rcases h1:typeOf l==0 with _ | _
 ·have h1':typeOf l≠0:=by simpa using h1
  obtain⟨q1,q2,q3⟩:=Dh h1'
  simp only[go_sem,h1,En,h1']
  refine AAU [5] (A:=Nat) (fun x=>[(4,.c (.v (.int .i64 (x)))),(3,.c (.ref 0))]) (fun x=>[⟨5,1,(Ky (l.take x)).map byteC,true,true⟩]) (fun x=>x≤l.length) (fun x=>l.length-x) 0 (AAQ [(0,false)] ⟨rfl,rfl,rfl,trivial⟩ rfl) (au _) ?_
  rintro i hi
  refine AQx (fun h=>?_) fun h=>?_
  ·have hi':i<l.length:=by simp at h; omega
   have hok:=(q3 _ (aj hi')).1
   have hq2:=Ld (l:=l.take i) fun v hv=>(q3 v (aaz hv)).1
   rw[bJ] at hq2
   simp only[go_sem,AA _ hi',FN]
   refine AAN _ (RN _ _ AQ2) fun _=>?_
   rw[Ub hok,← RP hi']
   simp only[go_sem,wrap_i64 (n:=(i:Int)+1) AQ2 AQ2]
   exact⟨i+1,AAQ [(1,false)] ⟨rfl,rfl,FN _,trivial⟩ rfl,hi',AQ2⟩
  ·have hi':i=l.length:=by simp at h; omega
   subst hi'
   simp only[go_sem,CE,bP,ay,aY]
   try exact AHA
 ·have h1':typeOf l=0:=by simpa using h1
  have e:En l = []:=bG h1'
  exact AKC
def AGz:Option (List DVal×Nat)→List Res
 | some (l,q)=>[.own 66 3 (l.map DVal.c) true,.val (.c (.v (.int .i64 ((q:Int))))),.val (.c (.v (.bool (true))))]
 | none=>[.own 66 3 [] true,.val (.c (.v (.int .i64 (0)))),.val (.c (.v (.bool (false))))]
theorem Gw (out:List DVal) (v:DVal):(out ++ [v]).map DVal.c=out.map DVal.c ++ [v.c]:=AQ3
theorem Nz (l:List DVal) (n:DVal):Fv (l.map DVal.c ++ [n.c])=true:=by rw[← Gw]; exact RI _
theorem Xu (b:List Int) (p:Nat) (ty k:Int) (hb:Af b) (hl:b.length≤1048576) (hk:k≤64):Ctr prog 412 [.c (.sl (b.map byteC)),.c (.v (.int .i64 ((p:Int)))),.c (.v (.int .i64 (ty))),.c (.v (.int .i64 (k)))] (AGz (Bq b ty k.toNat p)):=by
 refine CM call412 func412 ntmps412 results412 fun hw=>?_
 simp only[go_sem]
 refine AAU [16] (A:=Nat×Nat×List DVal) (fun x=>[(12,.c (.v (.int .i64 (x.1)))),(11,.c (.ref 0)),(1,.c (.v (.int .i64 ((x.2.1:Int)))))]) (fun x=>[⟨66,3,x.2.2.map DVal.c,true,true⟩]) (fun x=>x.1≤k.toNat∧x.2.2.length=x.1∧(Bq b ty (k.toNat-x.1) x.2.1).map (fun y=>(x.2.2++y.1,y.2))=Bq b ty k.toNat p) (fun x=>k.toNat-x.1) (0,p,[]) (AAQ [(0,false)] ⟨rfl,rfl,rfl,trivial⟩ rfl) ⟨au _,rfl,AQ3⟩ ?_
 rintro⟨i,q',l⟩ ⟨hi,hll,hb2⟩
 dsimp only at hi hll hb2
 refine AQx (fun h=>?_) fun h=>?_
 ·have hi':i<k.toNat:=by simp at h; omega
  rw[show k.toNat-i=(k.toNat-(i+1))+1 from AQ2,Bq] at hb2
  have hg2:=Xr b q' ty hb hl
  simp only[go_sem]
  rcases h3:GK b q' ty with _ | ⟨n,q2⟩<;>rw[h3] at hg2 hb2<;>simp only[kL] at hg2
  ·refine AAN _ hg2 fun _=>?_
   simp only[X6] at hb2
   rw[← hb2]
   simp only[go_sem,AGz]
   try simp[D7]
  ·exact AMz
 ·have hi':i=k.toNat:=by simp at h; omega
  subst hi'
  rw[ZO,Bq] at hb2
  simp only[dm,bK] at hb2
  rw[← hb2]
  simp only[go_sem,AGz,BH]
  try exact AHA
def Dt:Option (List DVal)→List Res
 | some l=>[.val (.c (.sl (l.map DVal.c))),.val (.c (.v (.bool (true))))]
 | none=>[.val (.c (.sl [])),.val (.c (.v (.bool (false))))]
theorem ADH {a b:List Int} (ha:Af a) (hb:Af b):((strOfNums a).toList==(strOfNums b).toList)=decide (a=b):=by
 rw[Bool.eq_iff_iff,nz,bC,← AEs ha hb]
 exact⟨uy,fun h=>by rw[h]⟩
theorem NR (a b:List Int):Ctr prog 359 [.c (.sl (a.map byteC)),.c (.sl (b.map byteC))] [.val (.c (.v (.bool (decide (a=b)))))]:=by
 refine CM call359 func359 ntmps359 results359 fun hw=>?_
 exact AQg
theorem JI (a b:List Int):Ctr prog 381 [.c (.sl (a.map byteC)),.c (.sl (b.map byteC))] [.val (.c (.v (.bool (decide (a=b)))))]:=by
 refine CM call381 func381 ntmps381 results381 fun hw=>?_
 exact AQg
theorem CG (b:List Int) (k:Int) (l:List DVal) (e:List Int):Ctr prog 389 [.c (.sl (b.map byteC)),.c (.v (.int .i64 (k))),.c (.sl (l.map DVal.c)),.c (.sl (e.map byteC))] (Dt (again b k l e)):=by
 refine CM call389 func389 ntmps389 results389 fun hw=>?_
 simp only[go_sem]
 refine AAN _ (AL _ _ _) fun _=>?_
 rcases h1:Ad k 1 64 with _ | _
 ·have:again b k l e=none:=bu ARl
  simp only[go_sem,h1,this,Dt]
 have h1':1≤k∧k≤64:=ARl
 simp only[go_sem,h1]
 rcases h2:(l.length:Int) != k with _ | _
 ·have h2':(l.length:Int)=k:=by simpa using h2
  simp only[go_sem,h2]
  refine AAN _ (NR b e) fun _=>?_
  rcases h3:decide (b=e) with _ | _
  ·have:again b k l e=none:=bu (fun q=>by simp at h3; exact h3 q.2.2.2)
   simp only[go_sem,h3,this,Dt]
  ·have:again b k l e=some l:=bG ⟨h1'.1,h1'.2,h2',ARQ⟩
   simp only[go_sem,h3,this,Dt]
 ·have:again b k l e=none:=bu ARN
  simp only[go_sem,h2,this,Dt]
theorem kM (b:List Int) (ty k:Int) (hb:Af b) (hl:b.length≤1048576):Ctr prog 376 [.c (.sl (b.map byteC)),.c (.v (.int .i64 (ty))),.c (.v (.int .i64 (k)))] (Dt (Gx b ty k)):=by
 refine CM call376 func376 ntmps376 results376 fun hw=>?_
 simp only[go_sem]
 refine AAN _ (AQ _ _ _) fun _=>?_
 rcases h2:Ad k 1 64 with _ | _
 ·have:Gx b ty k=none:=bu ARH
  simp only[go_sem,h2,this,Dt]
  try simp[D7]
 have h2':1≤k∧k≤64:=ARH
 have hall:Gx b ty k=match Bq b ty k.toNat 0 with
  | none=>none
  | some (l,q)=>if q=b.length then some l else none:=bG h2'
 simp only[go_sem,h2]
 refine AAU [14] (A:=Nat×Nat×List DVal) (fun x=>[(10,.c (.v (.int .i64 (x.1)))),(8,.c (.ref 0)),(9,.c (.v (.int .i64 ((x.2.1:Int)))))]) (fun x=>[⟨66,3,x.2.2.map DVal.c,true,true⟩]) (fun x=>x.1≤k.toNat∧x.2.2.length=x.1∧(Bq b ty (k.toNat-x.1) x.2.1).map (fun y=>(x.2.2++y.1,y.2))=Bq b ty k.toNat 0) (fun x=>k.toNat-x.1) (0,0,[]) (AAQ [(0,false)] ⟨rfl,rfl,rfl,trivial⟩ rfl) ⟨au _,rfl,AQ3⟩ ?_
 rintro⟨i,q',l⟩ ⟨hi,hll,hb2⟩
 dsimp only at hi hll hb2
 refine AQx (fun h=>?_) fun h=>?_
 ·have hi':i<k.toNat:=by simp at h; omega
  rw[show k.toNat-i=(k.toNat-(i+1))+1 from AQ2,Bq] at hb2
  have hg2:=Ny b q' ty hb hl
  simp only[go_sem]
  rcases h3:GK b q' ty with _ | ⟨n,q2⟩<;>rw[h3] at hg2 hb2<;>simp only[kL] at hg2
  ·refine AAN _ hg2 fun _=>?_
   simp only[X6] at hb2
   rw[hall,← hb2]
   simp only[go_sem,Dt]
   try simp[D7]
  ·exact AMz
 ·have hi':i=k.toNat:=by simp at h; omega
  subst hi'
  rw[ZO,Bq] at hb2
  simp only[dm,bK] at hb2
  rw[hall,← hb2]
  rcases h4:((q':Int) != (b.length:Int)) with _ | _
  ·have h4':q'=b.length:=by simp at h4; omega
   simp only[go_sem,h4,bG h4',Dt]
   try exact AHA
  ·have h4':¬ q'=b.length:=by simp at h4; omega
   simp only[go_sem,h4,bu h4',Dt]
   try simp[D7]
theorem kN (b:List Int) (ty k:Int) (hb:Af b) (hl:b.length≤1048576):Ctr prog 384 [.c (.sl (b.map byteC)),.c (.v (.int .i64 (ty))),.c (.v (.int .i64 (k)))] (Dt (Gx b ty k)):=by
 rw[← Zv hb]
 refine CM call384 func384 ntmps384 results384 fun hw=>?_
 simp only[go_sem]
 refine AAN _ (AL _ _ _) fun _=>?_
 rcases h2:Ad k 1 64 with _ | _
 ·have:QQ b ty k=none:=bu ARH
  simp only[go_sem,h2,this,Dt]
  try simp[D7]
 have h2':1≤k∧k≤64:=ARH
 simp only[go_sem,h2]
 have hg:=Xu b 0 ty k hb hl h2'.2
 have hall:QQ b ty k=again b k (((Bq b ty k.toNat 0).map Prod.fst).getD []) (En (((Bq b ty k.toNat 0).map Prod.fst).getD [])):=bG h2'
 rw[hall]
 rcases h3:Bq b ty k.toNat 0 with _ | ⟨l,q⟩<;>rw[h3] at hg<;>simp only[AGz] at hg<;>simp only[X6,dm,aaF,ak]
 ·refine AAN _ hg fun _=>?_
  simp only[go_sem]
  refine AAN _ (Oy [] AQ3) fun _=>?_
  simp only[go_sem]
  refine AAN _ (CG b k [] (En [])) fun _=>?_
  rcases h4:again b k [] (En []) with _ | l'<;>simp only[go_sem,Dt]
 ·refine AAN _ hg fun _=>?_
  simp only[go_sem]
  have hlen:=(J6 hb _ _ _ _ (au _) h3).2.2.1
  refine AAN _ (Oy l AQ2) fun _=>?_
  simp only[go_sem]
  refine AAN _ (CG b k l (En l)) fun _=>?_
  rcases h4:again b k l (En l) with _ | l'<;>simp only[go_sem,Dt]
def F8 (r:DVal×Int):List Cl:=[.v (.int .i64 r.1.ty),.v (.int .i64 r.1.n),.v (.string r.1.s),.v (.int .i64 r.2)]
theorem AEt (r:DVal×Int):CS (F8 r)=true:=rfl
theorem Le (l:List (DVal×Int)):Fv (l.map F8)=true:=AP AEt
def O8:List (DVal×Int)→DVal→List (DVal×Int)
 | [],v=>[(v,1)]
 | [x],v=>if LG x.1 v=true then [(x.1,x.2+1)] else [x,(v,1)]
 | x::y::r,v=>x::O8 (y::r) v
theorem AIf (r:List (DVal×Int)) (v:DVal):O8 r v≠ []:=by
 cases r with
 | nil=>simp[O8]
 | cons x r =>
  cases r with
  | nil=>simp only[O8]; split<;>simp
  | cons y r=>simp[O8]
theorem AG0 {l:List DVal} (h:runs l = []):l = []:=by
 cases l with
 | nil=>rfl
 | cons v l =>
  rw[runs] at h
  split at h
  ·cases h
  ·split at h<;>cases h
theorem Uc (v:DVal) (l:List DVal):runs (v::l)=match runs l with
  | []=>[(v,1)]
  | (x,k)::r=>if LG v x=true then(x,k+1)::r else(v,1)::(x,k)::r:=by rw[runs]; rfl
theorem Ud (v:DVal):∀ l:List DVal,runs (l ++ [v])=O8 (runs l) v
 | []=>rfl
 | a::l=>by
  have ih:=Ud v l
  rw[aT,Uc,Uc,ih]
  cases hr:runs l with
  | nil =>
   have:=AG0 hr
   subst this
   simp only[O8]
   by_cases h:LG a v=true
   ·have:=(L_ a v).1 h
    subst this
    simp[h]
   ·simp[h]
  | cons y r =>
   obtain⟨x,k⟩:=y
   cases r with
   | nil =>
    simp only[O8]
    by_cases h:LG x v=true<;>by_cases h2:LG a x=true<;>simp[h,h2,O8]
   | cons z r =>
    rw[O8]
    dsimp only
    by_cases h2:LG a x=true
    ·rw[bG h2,bG h2,O8]
    ·rw[bu h2,bu h2,O8,O8]
theorem uU (v:DVal):∀ {rs:List (DVal×Int)} {n:Nat} (h:rs.length=n+1),O8 rs v=if LG (rs[n]' AQ2).1 v=true then rs.set n ((rs[n]' AQ2).1,(rs[n]' AQ2).2+1) else rs ++ [(v,1)]
 | [],_,h=>ARa
 | [x],n,h=>by
  have:n=0:=by simpa using h.symm
  subst this
  simp only[O8,abM]
  rfl
 | x::y::r,n,h=>by
  obtain⟨m,rfl⟩:∃ m,n=m+1:=⟨n-1,ARD⟩
  rw[O8,uU v (rs:=y::r) (n:=m) ARY]
  simp only[abN,List.set_cons_succ,aT]
  split<;>rfl
theorem o9 (v:DVal):∀ (rs:List (DVal×Int)),∃ q,(O8 rs v).getLast?=some (v,q)
 | []=>⟨1,rfl⟩
 | [x]=>by
  simp only[O8]
  split
  ·rename_i h
   exact⟨x.2+1,by rw[(L_ _ _).1 h]; rfl⟩
  ·exact⟨1,rfl⟩
 | x::y::r=>by
  obtain⟨q,hq⟩:=o9 v (y::r)
  refine⟨q, ?_⟩
  rw[O8,List.getLast?_cons,hq]; rfl
theorem M_:∀ {l:List DVal} {r:DVal×Int},r∈runs l→r.1∈l∧1≤r.2∧r.2≤l.length
 | [],_,h=>AR0
 | v::l,r,h=>by
  rw[Uc] at h
  have ih:=fun r=>M_ (l:=l) (r:=r)
  cases hr:runs l with
  | nil =>
   simp only[hr,aay] at h
   subst h
   simp only[Rx,bz]
   exact⟨.inl trivial,AQ2,AQ2⟩
  | cons y q =>
   obtain⟨x,k⟩:=y
   rw[hr] at h ih
   dsimp only at h
   split at h
   ·rcases Rx.1 h with rfl | h
    ·obtain⟨a1,a2,a3⟩:=ih (x,k) AQ3
     simp only[Rx,bz] at *
     exact⟨.inr a1,AQ2,AQ2⟩
    ·obtain⟨a1,a2,a3⟩:=ih r (by simp[h])
     simp only[Rx,bz]
     exact⟨.inr a1,AQ2,AQ2⟩
   ·rcases Rx.1 h with rfl | h
    ·simp only[Rx,bz]
     exact⟨.inl trivial,AQ2,AQ2⟩
    ·obtain⟨a1,a2,a3⟩:=ih r h
     simp only[Rx,bz]
     exact⟨.inr a1,AQ2,AQ2⟩
theorem QN:∀ l:List DVal,(runs l).length≤l.length
 | []=>aI _
 | v::l=>by
  have:=QN l
  rw[Uc]
  split
  ·simp
  ·rename_i x k r h
   rw[h] at this
   simp only[bz] at this ⊢
   split<;>simp<;>omega
theorem take_snoc {α:Type} {l:List α} {i:Nat} (h:i<l.length):l.take (i+1)=l.take i ++ [l[i]]:=aaB h
theorem kP (rs:List (DVal×Int)) (v:DVal):(rs ++ [(v,1)]).map F8=rs.map F8 ++ [[.v (.int .i64 v.ty),.v (.int .i64 v.n),.v (.string v.s),.v (.int .i64 1)]]:=by simp[F8]
theorem zt (rs:List (DVal×Int)) (v:DVal):Fv (rs.map F8 ++ [[.v (.int .i64 v.ty),.v (.int .i64 v.n),.v (.string v.s),.v (.int .i64 1)]])=true:=by rw[← kP]; exact Le _
theorem uV (rs:List (DVal×Int)) (n:Nat) (v:DVal) (k:Int):(rs.set n (v,k)).map F8=(rs.map F8).set n [.v (.int .i64 v.ty),.v (.int .i64 v.n),.v (.string v.s),.v (.int .i64 k)]:=by rw[yI]; rfl
theorem ADI (rs:List (DVal×Int)) (n:Nat) (v:DVal) (k:Int):Fv ((rs.map F8).set n [.v (.int .i64 v.ty),.v (.int .i64 v.n),.v (.string v.s),.v (.int .i64 k)])=true:=by rw[← uV]; exact Le _
theorem o_ {l:List DVal} {j:Nat} (hj:j<l.length):∃ (n:Nat) (h:(runs (l.take (j+1))).length=n+1),((runs (l.take (j+1)))[n]' AQ2).1=l[j]:=by
 have hs:runs (l.take (j+1))=O8 (runs (l.take j)) l[j]:=by rw[take_snoc hj,Ud]
 obtain⟨q,hq⟩:=o9 l[j] (runs (l.take j))
 rw[← hs] at hq
 have hne:runs (l.take (j+1))≠ []:=by rw[hs]; exact AIf _ _
 have hlen:0<(runs (l.take (j+1))).length:=aaQ.2 hne
 refine⟨(runs (l.take (j+1))).length-1,AQ2, ?_⟩
 rw[List.getLast?_eq_getElem?,aC AQ2] at hq
 rw[yH hq]
theorem AB2 (l:List DVal) (hl:l.length≤1048576):Ctr prog 442 [.c (.sl (l.map DVal.c))] [.val (.c (.sl ((runs l).map F8)))]:=by
 refine CM call442 func442 ntmps442 results442 fun hw=>?_
 simp only[go_sem]
 refine AAU [6] (A:=Nat) (fun x=>[(9,.c (.v (.int .i64 (x)))),(3,.c (.ref 0))]) (fun x=>[⟨336,4,(runs (l.take x)).map F8,true,true⟩]) (fun x=>x≤l.length) (fun x=>l.length-x) 0 (AAQ [(0,false)] ⟨rfl,rfl,rfl,trivial⟩ rfl) (au _) ?_
 rintro i hi
 refine AQx (fun h=>?_) fun h=>?_
 ·have hi':i<l.length:=by simp at h; omega
  have hs:runs (l.take (i+1))=O8 (runs (l.take i)) l[i]:=by rw[take_snoc hi',Ud]
  have hrl:=QN (l.take i)
  rw[bJ] at hrl
  have hl2:(runs (l.take i)).length+1≤2147483648:=AQ2
  rcases h2:decide ((i:Int)>0) with _ | _
  ·have h2':i=0:=by simp at h2; omega
   subst h2'
   have hs2:runs (l.take (0+1)) = [(l[0],1)]:=by rw[hs]; rfl
   have hs3:(runs ([]:List DVal)).map F8 = []:=rfl
   have hs4:(runs ([]:List DVal)).length=0:=rfl
   simp only[go_sem,AA _ hi']
   refine AAO ?_
   simp only[go_sem,h2,Le,hs4,au,wrap_i64 (n:=((0:Nat):Int)+1) AQ2 AQ2]
   exact⟨0+1,AAQ [(3,false)] ⟨rfl,rfl,rfl,trivial⟩ (by rw[hs2]; rfl),hi',AQ2⟩
  ·have h2':0<i:=by simpa using h2
   obtain⟨j,rfl⟩:∃ j,i=j+1:=⟨i-1,AQ2⟩
   have hj:j<l.length:=AQ2
   have hw1:IntKind.i64.wrap (((j+1:Nat):Int)-1)=(j:Int):=by rw[show (((j+1:Nat):Int)-1)=(j:Int) from AQ2]; exact wrap_i64 AQ2 AQ2
   have e1:(l[j].ty==l[j+1].ty&&(l[j].n==l[j+1].n&&l[j].s.toList==l[j+1].s.toList))=LG l[j] l[j+1]:=rfl
   obtain⟨n,hn,hn2⟩:=o_ hj
   have hn3:n<(runs (l.take (j+1))).length:=AQ2
   rw[uU l[j+1] hn,hn2] at hs
   simp only[go_sem,AA _ hi']
   refine AAO ?_
   simp only[go_sem,h2,hw1,AA _ hj,Dx,G9,e1]
   rcases h3:LG l[j] l[j+1] with _ | _
   ·rw[h3,bu AQ3] at hs
    simp only[go_sem,h3,hl2,Le,wrap_i64 (n:=((j+1:Nat):Int)+1) AQ2 AQ2]
    exact⟨j+1+1,AAQ [(3,false)] ⟨rfl,rfl,zt _ _,trivial⟩ (by rw[hs,kP]; rfl),hi',AQ2⟩
   ·rw[h3,bG rfl] at hs
    have hw2:IntKind.i64.wrap (((runs (l.take (j+1))).length:Int)-1)=(n:Int):=by rw[show (((runs (l.take (j+1))).length:Int)-1)=(n:Int) from AQ2]; exact wrap_i64 AQ2 AQ2
    obtain⟨b1,b2,b3⟩:=M_ (aj hn3)
    rw[bJ] at b3
    simp only[go_sem,h3,hw2,hn3,AA _ hn3,F8,Le,hn2,wrap_i64 (n:=(runs (l.take (j+1)))[n].2+1) AQ2 AQ2,wrap_i64 (n:=((j+1:Nat):Int)+1) AQ2 AQ2]
    exact APx
 ·have hi':i=l.length:=by simp at h; omega
  subst hi'
  simp only[go_sem,bP,Le]
  try exact AHA
theorem AB3 (l:List DVal) (hl:l.length≤1048576):Ctr prog 429 [.c (.sl (l.map DVal.c))] [.val (.c (.sl ((runs l).map F8)))]:=by
 refine CM call429 func429 ntmps429 results429 fun hw=>?_
 simp only[go_sem]
 refine AAU [6] (A:=Nat) (fun x=>[(4,.c (.v (.int .i64 (x)))),(3,.c (.ref 0))]) (fun x=>[⟨336,4,(runs (l.take x)).map F8,true,true⟩]) (fun x=>x≤l.length) (fun x=>l.length-x) 0 (AAQ [(0,false)] ⟨rfl,rfl,rfl,trivial⟩ rfl) (au _) ?_
 rintro i hi
 refine AQx (fun h=>?_) fun h=>?_
 ·have hi':i<l.length:=by simp at h; omega
  have hs:runs (l.take (i+1))=O8 (runs (l.take i)) l[i]:=by rw[take_snoc hi',Ud]
  have hrl:=QN (l.take i)
  rw[bJ] at hrl
  have hl2:(runs (l.take i)).length+1≤2147483648:=AQ2
  rcases i with _ | j
  ·have h2:decide ((0:Int)>0)=false:=by decide
   have hs2:runs (l.take (0+1)) = [(l[0],1)]:=by rw[hs]; rfl
   have hs4:(runs ([]:List DVal)).length=0:=rfl
   simp only[go_sem,VY,hs4,Int.ofNat_zero,abS]
   refine AAO ?_
   simp only[go_sem,VY,hs4,h2,Int.ofNat_zero,abS,AA _ hi',Le,au,wrap_i64 (n:=(0:Int)+1) AQ2 AQ2]
   exact⟨0+1,AAQ [(2,false)] ⟨rfl,rfl,rfl,trivial⟩ (by rw[hs2]; rfl),hi',AQ2⟩
  ·have hj:j<l.length:=by omega
   obtain⟨n,hn,hn2⟩:=o_ hj
   have hn3:n<(runs (l.take (j+1))).length:=AQ2
   rw[uU l[j+1] hn,hn2] at hs
   have h2:decide (((runs (l.take (j+1))).length:Int)>0)=true:=by rw[bC]; omega
   have hw2:IntKind.i64.wrap (((runs (l.take (j+1))).length:Int)-1)=(n:Int):=by rw[show (((runs (l.take (j+1))).length:Int)-1)=(n:Int) from AQ2]; exact wrap_i64 AQ2 AQ2
   have e1:(l[j].ty==l[j+1].ty&&(l[j].n==l[j+1].n&&l[j].s.toList==l[j+1].s.toList))=LG l[j] l[j+1]:=rfl
   simp only[go_sem]
   refine AAO ?_
   simp only[go_sem,h2,hw2,hn3,AA _ hn3,AA _ hi',F8,hn2,Dx,G9,e1]
   rcases h3:LG l[j] l[j+1] with _ | _
   ·rw[h3,bu AQ3] at hs
    simp only[go_sem,h3,hl2,AA _ hi',Le,wrap_i64 (n:=((j+1:Nat):Int)+1) AQ2 AQ2]
    exact⟨j+1+1,AAQ [(2,false)] ⟨rfl,rfl,zt _ _,trivial⟩ (by rw[hs,kP]; rfl),hi',AQ2⟩
   ·rw[h3,bG rfl] at hs
    obtain⟨b1,b2,b3⟩:=M_ (aj hn3)
    rw[bJ] at b3
    simp only[go_sem,h3,hw2,hn3,AA _ hn3,AA _ hi',F8,Le,hn2,wrap_i64 (n:=(runs (l.take (j+1)))[n].2+1) AQ2 AQ2,wrap_i64 (n:=((j+1:Nat):Int)+1) AQ2 AQ2]
    exact APx
 ·have hi':i=l.length:=by simp at h; omega
  subst hi'
  simp only[go_sem,bP,Le]
  try exact AHA
theorem RQ (v:DVal) (k:Int) (r:List (DVal×Int)) (n:Nat):Ir ((v,k)::r) n=if k<1∨k>64-n then none else(Ir r (n+k.toNat)).map fun l=>List.replicate k.toNat v++l:=rfl
theorem RS {α:Type} {l:List α} {i:Nat} (h:i<l.length):l.drop i=l[i]::l.drop (i+1):=aA h
theorem zu (out:List DVal) (j:Nat) (v:DVal):(out++List.replicate (j+1) v).map DVal.c=(out++List.replicate j v).map DVal.c ++ [v.c]:=by
 rw[List.replicate_succ',← aZ,Gw]
theorem AG1 (out:List DVal) (j:Nat) (v:DVal):Fv ((out++List.replicate j v).map DVal.c ++ [v.c])=true:=by rw[← Gw]; exact RI _
theorem uX (r:List (DVal×Int)) (hl:r.length≤1048576):Ctr prog 415 [.c (.sl (r.map F8))] [.val (.c (.sl ((spread r).map DVal.c)))]:=by
 refine CM call415 func415 ntmps415 results415 fun hw=>?_
 simp only[go_sem]
 refine AAU [7] (A:=Nat×List DVal) (fun x=>[(10,.c (.v (.int .i64 (x.1)))),(3,.c (.ref 0))]) (fun x=>[⟨66,3,x.2.map DVal.c,true,true⟩]) (fun x=>x.1≤r.length∧x.2.length≤64∧(Ir (r.drop x.1) x.2.length).map (fun y=>x.2++y)=Ir r 0) (fun x=>r.length-x.1) (0,[]) (AAQ [(0,false)] ⟨rfl,rfl,rfl,trivial⟩ rfl) ⟨au _,au _,AQ3⟩ ?_
 rintro⟨i,out⟩ ⟨hi,hll,hp⟩
 dsimp only at hi hll hp
 refine AQx (fun h=>?_) fun h=>?_
 ·have hi':i<r.length:=by simp at h; omega
  rw[RS hi',show r[i]=(r[i].1,r[i].2) from rfl,RQ] at hp
  rcases h2:decide (r[i].2<1) with _ | _
  rotate_left
  ·rw[bG (.inl ARw)] at hp
   simp only[X6] at hp
   have e:spread r = []:=AR3
   rw[e]
   simp only[go_sem,AA _ hi',F8,h2,df]
  have h2':1≤r[i].2:=ARN
  have hw1:IntKind.i64.wrap (64-(out.length:Int))=64-(out.length:Int):=wrap_i64 AQ2 AQ2
  rcases h3:decide (r[i].2>64-(out.length:Int)) with _ | _
  rotate_left
  ·rw[bG (.inr ARQ)] at hp
   simp only[X6] at hp
   have e:spread r = []:=AR3
   rw[e]
   simp only[go_sem,AA _ hi',F8,h2,hw1,h3,df]
  have h3':r[i].2≤64-(out.length:Int):=ARr
  obtain⟨K,hK⟩:=aU (show 0≤r[i].2 from AQ2)
  rw[bu AQ2,hK,YM] at hp
  rw[hK] at h2 h3 h2' h3'
  simp only[go_sem,AA _ hi',F8,hK,h2,hw1,h3]
  refine AAU [20] (A:=Nat) (fun x=>[(6,.c (.v (.int .i64 (x)))),(3,.c (.ref 0))]) (fun x=>[⟨66,3,(out++List.replicate x r[i].1).map DVal.c,true,true⟩,⟨336,4,[F8 (r[i].1,(K:Int))],true,true⟩]) (fun x=>x≤K) (fun x=>K-x) 0 (AAQ [(0,false),(1,false)] ⟨rfl,rfl,RI _,rfl,trivial⟩ (by simp only[List.replicate_zero,bK]; rfl)) (au _) ?_
  rintro j hj
  have hl2:out.length+j+1≤2147483648:=AQ2
  simp only[go_sem,F8]
  refine AAP (fun h=>?_) (fun h=>?_)
  ·have hj':j<K:=by simp[F8] at h; omega
   simp only[go_sem,F8,hl2,aap,wrap_i64 (n:=(j:Int)+1) AQ2 AQ2]
   exact⟨j+1,AAQ [(3,false),(1,false)] ⟨rfl,rfl,AG1 _ _ _,rfl,trivial⟩ (by rw[zu]; rfl),hj',AQ2⟩
  ·have hj':j=K:=by simp[F8] at h; omega
   exact AM4
 ·have hi':i=r.length:=by simp at h; omega
  subst hi'
  rw[aJ] at hp
  simp only[Ir,dm,bK] at hp
  have e:spread r=out:=AR3
  rw[e]
  simp only[go_sem]
  try exact AHA
end Go.Proofs.YthmifbbmgnhddaaGreat
