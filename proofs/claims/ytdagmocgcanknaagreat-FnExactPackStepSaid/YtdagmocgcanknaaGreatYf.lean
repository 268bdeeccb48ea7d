/- A part. -/
import Derived.Test.YtdagmocgcanknaaGreatYe
set_option linter.unusedSimpArgs false
set_option linter.unusedVariables false
set_option maxHeartbeats 2000000
set_option maxRecDepth 10000
open Go.Proofs.Tryz
namespace Go.Proofs.YtdagmocgcanknaaGreat
open Go.Vm
theorem Tf {l:List DVal} (h0:0<l.length) {i:Nat} (hi:i<l.length) (h:¬ (BX l[i]=true/\l[i].ty=l[0].ty)):typeOf l=0:=by
 cases l with
 | nil=>simp at h0
 | cons v r =>
  show (if(v::r).length<=64/\_ then v.ty else 0)=0
  rw[aR]
  rintro⟨_,q⟩
  exact h (q _ (an hi))
theorem EI (l:List Int):GL (l.map byteC)=true:=AY byteC.pure
theorem CX (l:List Int):GL (l.map intC)=true:=AY Xz
theorem Qa (l:List DVal):GL (l.map DVal.c)=true:=AY DVal.pure
theorem zG (s:ByteArray):Og s=(vP s).map byteC:=by simp only[Og,vP,List.map_map]; rfl
attribute [go_sem] aI aM aP ag aj aa zG au Nat.zero_lt_succ aO
theorem Ou (a b:List Int):a.map byteC++b.map byteC=(a++b).map byteC:=bl.symm
theorem DN (l:List DVal) (hl:l.length<=1048576):Ctr prog 324 [.c (.sl (l.map DVal.c))] [.val (.c (.v (.int .i64 (typeOf l))))]:=by
 refine CM call324 func324 ntmps324 results324 fun hw=>?_;simp only[go_sem,aa];refine AAO _ (AL _ _ _) fun _=>?_;rcases h1:Ae (l.length:Int) 1 64 with _ | _
 .exact ALq
 have hlen:1<=l.length/\l.length<=64:=APU;have h0:0<l.length:=AOl;simp only[go_sem,h1,aa];refine AAe 0 (A:=Nat) (fun x=>[(11,.c (.v (.int .i64 (x))))]) (fun _=>[]) (fun x=>x<=l.length/\∀ m (h:m<l.length),m<x->BX l[m]=true/\l[m].ty=l[0].ty) (fun x=>l.length-x) 0 ⟨⟨rfl,rfl⟩,rfl,aq _,fun m h h2=>AOl⟩ ?_;rintro i ⟨hi,hb⟩;refine AOe (fun h=>?_) fun h=>?_
 .have hi':i<l.length:=by simp at h; omega
  simp only[go_sem,aa,AA _ hi',AA _ h0,au];refine AAP ?_;simp only[go_sem,aa,AA _ hi',AA _ h0,au];refine CY (D7 l[i]) ?_;exact AI8
 .exact ALp
theorem FB (l:List DVal) (hl:l.length<=1048576):Ctr prog 311 [.c (.sl (l.map DVal.c))] [.val (.c (.v (.int .i64 (typeOf l))))]:=by
 refine CM call311 func311 ntmps311 results311 fun hw=>?_;simp only[go_sem,aa];refine AAO _ (AP _ _ _) fun _=>?_;rcases h1:Ae (l.length:Int) 1 64 with _ | _
 .exact ALq
 have hlen:1<=l.length/\l.length<=64:=APU;have h0:0<l.length:=AOl;simp only[go_sem,h1,aa];refine AAe 0 (A:=Nat) (fun x=>[(3,.c (.v (.int .i64 (x))))]) (fun _=>[]) (fun x=>x<=l.length/\∀ m (h:m<l.length),m<x->BX l[m]=true/\l[m].ty=l[0].ty) (fun x=>l.length-x) 0 ⟨⟨rfl,rfl⟩,rfl,aq _,fun m h h2=>AOl⟩ ?_;rintro i ⟨hi,hb⟩;refine AOe (fun h=>?_) fun h=>?_
 .have hi':i<l.length:=by simp at h; omega
  simp only[go_sem,aa,AA _ hi',AA _ h0,au];refine AAP ?_;simp only[go_sem,aa,AA _ hi',AA _ h0,au];refine CY (Iu l[i]) ?_;exact AI8
 .exact ALp
def jJ (v:DVal):List Int:=if BX v=true then WB v else []
theorem vz {v:DVal} (h:BX v=true) (h2:v.ty=1):jJ v=ZG v.n:=by
 have:EE v.n=true:=by simp only[BX,aV h2,ar] at h;exact h.1
 simp only[jJ,ZG,h,this,aO,WB,aV h2]
theorem v_ {v:DVal} (h:BX v=true) (h2:v.ty=2):jJ v=(v.s.size:Int)::vP v.s/\v.s.size<=6:=by
 have h3:¬ v.ty=1:=AOl;have:v.s.size<=6:=by simp only[BX,aR h3,ar,aQ] at h;exact h.1.2
 exact⟨by simp only[jJ,h,aO,WB,aR h3],this⟩
theorem Qb (b:List Int) (v:DVal) (hl:b.length<=1048576):Ctr prog 352 [.c (.sl (b.map byteC)),.agg v.c] [.own 5 1 ((b++jJ v).map byteC) true]:=by
 refine CM call352 func352 ntmps352 results352 fun hw=>?_;have hl2:b.length<=2147483648:=AOl;simp only[go_sem,aa];refine AAO _ (D7 v) fun _=>?_;rcases h1:BX v with _ | _
 .simp only[go_sem,h1,jJ];refine AAO _ (GX b hl2) fun _=>?_;simp only[go_sem,h1,CQ,bc];try exact AIG
 have hty:=eQ h1;rcases h2:v.ty==1 with _ | _;rotate_left
 .have h2':v.ty=1:=by simpa using h2
  simp only[go_sem,h1,h2];refine AAO _ (Gy b v.n hl) fun _=>?_;rw[vz h1 h2'];simp only[go_sem,CQ];try exact AIG
 have h2':v.ty=2:=AO3;obtain⟨e1,e2⟩:=v_ h1 h2';have w1:IntKind.u8.wrap (v.s.size:Int)=v.s.size:=wrap_u8 AOl AOl;have g1:b.length+1<=2147483648:=AOl;have g2:b.length+1+v.s.size<=2147483648:=AOl;rw[e1];simp only[go_sem,h1,h2];refine ACb 1 6 [0,1,2,3,4,5,6,7,8,9,10,11] [0,2,3,4,5,6,1,7,8,9,10,11] rfl (by kernel_rfl) (by kernel_rfl) ?_ ?_
 .simp only[go_sem];refine AAR ?_;simp only[go_sem];exact ANx
 .simp only[go_sem];refine AAR ?_;simp only[go_sem,w1];exact ANx
theorem Qc (b:List Int) (v:DVal) (hl:b.length<=1048576):Ctr prog 337 [.c (.sl (b.map byteC)),.agg v.c] [.own 5 1 ((b++jJ v).map byteC) true]:=by
 refine CM call337 func337 ntmps337 results337 fun hw=>?_;have hl2:b.length<=2147483648:=AOl;simp only[go_sem,aa,Fh,hl2,au];refine AAO _ (Iu v) fun _=>?_;rcases h1:BX v with _ | _
 .simp only[go_sem,h1,jJ,CQ,bc];try exact AIG
 have hty:=eQ h1;rcases h2:v.ty==1 with _ | _;rotate_left
 .have h2':v.ty=1:=by simpa using h2
  simp only[go_sem,h1,h2,EI];refine AAO _ (Gz b v.n hl) fun _=>?_;rw[vz h1 h2'];simp only[go_sem,CQ];try exact AIG
 have h2':v.ty=2:=AO3;obtain⟨e1,e2⟩:=v_ h1 h2';have w1:IntKind.u8.wrap (v.s.size:Int)=v.s.size:=wrap_u8 AOl AOl;have g1:b.length+1<=2147483648:=AOl;have g2:b.length+1+v.s.size<=2147483648:=AOl;rw[e1];simp only[go_sem,h1,h2];refine AAR ?_;simp only[go_sem,w1,g1,g2];simp only[CQ,ba];try simp[OwnL,AB,byteC]
def Qs:DVal:=⟨0,0,ByteArray.empty⟩
def fU:Option (DVal×Nat)->List Res
 | some (v,q)=>[.val (.agg v.c),.val (.c (.v (.int .i64 ((q:Int))))),.val (.c (.v (.bool (true))))]
 | none=>[.val (.agg Qs.c),.val (.c (.v (.int .i64 (0)))),.val (.c (.v (.bool (false))))]
theorem OB:∀ l:List Int,RY (l.map byteC)=some l
 | []=>rfl
 | c::l=>by show (match RY (l.map byteC) with | some ns=>some (c::ns) | none=>none)=_;rw[OB l]
theorem Io {k:IntKind} {n:Int} {m:Nat} (h:n=(m:Int)):E8 (.c (.v (.int k n)))=some m:=by subst h;show (if(0:Int)<=(m:Int) then some (m:Int).toNat else none)=_;rw[aV AOl,aZ]
theorem BU (l:List Int):((l.map byteC).all fun r=>r.length==1)=true:=aC.2 fun r hr=>by obtain⟨x,_,rfl⟩:=jB.1 hr;rfl
theorem AGj (b:List Int) (p ty:Int) (h1:ty≠1) (h2:ty≠2):F8 b p ty=none:=by unfold F8;rw[aR h1,aR (fun h=>h2 h.1)]
theorem zH (b:List Int) (p:Int) (h:¬ (0<=p/\p<b.length)):F8 b p 2=none:=by
 unfold F8;rw[aR AOl];split
 .rename_i h2;have:b[p.toNat]?=none:=by rw[abr]; omega
  rw[this]
 .rfl
theorem AGk {b:List Int} {p:Nat} (h:p<b.length):F8 b (p:Int) 2=if p+1+b[p].toNat<=b.length then(if BX ⟨2,0,strOfNums ((b.drop (p+1)).take b[p].toNat)⟩=true then some (⟨2,0,strOfNums ((b.drop (p+1)).take b[p].toNat)⟩,p+1+b[p].toNat) else none) else none:=by unfold F8;rw[aR AOl,aV ⟨rfl,AOl⟩];simp only[aZ,am h]
theorem WO (b:List Int) (p ty:Int) (hb:Ai b) (hl:b.length<=1048576):Ctr prog 346 [.c (.sl (b.map byteC)),.c (.v (.int .i64 (p))),.c (.v (.int .i64 (ty)))] (fU (F8 b p ty)):=by
 refine CM call346 func346 ntmps346 results346 fun hw=>?_;rcases h1:ty==1 with _ | _
 .have h1':ty≠1:=by simpa using h1
  simp only[go_sem,h1];rcases h2:ty==2 with _ | _
  .have h2':ty≠2:=by simpa using h2
   rw[AGj b p ty h1' h2'];simp only[go_sem,h2];refine AAO _ (D7 ⟨ty,0,ByteArray.empty⟩) fun _=>?_;have hv:BX ⟨ty,0,ByteArray.empty⟩=false:=by simp[BX,h1',h2']
   simp only[go_sem,hv,fU,Qs]
  .have:ty=2:=by simpa using h2
   subst this;simp only[go_sem,h2];rcases h3:decide (p>=0) with _ | _
   .rw[zH b p APj];simp only[go_sem,h3];exact AL6
   have h3':0<=p:=AO7;obtain⟨p,rfl⟩:=aF h3';rcases h4:decide ((p:Int)<(b.length:Int)) with _ | _
   .rw[zH b p (by simp at h4; omega)];simp only[go_sem,h3,h4];exact AL6
   have hp:p<b.length:=APR;have hc:isByte b[p]:=hb _ (an hp);obtain⟨c,hc2⟩:=aF hc.1;have hc3:c<256:=by have:=hc.2; omega
   rw[AGk hp];simp only[go_sem,h3,h4,AA _ hp,hc2,aZ,wrap_i64 (n:=(p:Int)+1) AOl AOl,wrap_i64 (n:=(p:Int)+1+(c:Int)) AOl AOl,wrap_i64 (n:=(c:Int)) AOl AOl];rcases h5:decide ((p:Int)+1+(c:Int)>(b.length:Int)) with _ | _
   .have h6:p+1+c<=b.length:=by simp at h5; omega
    have q1:=Io (k:=.i64) (n:=(p:Int)+1) (m:=p+1) AOl;have q2:=Io (k:=.i64) (n:=(p:Int)+1+(c:Int)) (m:=p+1+c) AOl;have q5:p+1<=p+1+c:=AOl;have q6:p+1+c-(p+1)=c:=AOl;rw[aV h6];simp only[go_sem,h5,wrap_i64 (n:=(p:Int)+1) AOl AOl,q1,q2,q5,q6,h6,BU,<- bk,<- bf,OB];refine AAO _ (D7 ⟨2,0,strOfNums ((b.drop (p+1)).take c)⟩) fun _=>?_;exact AK6
   .rw[aR (by simp at h5; omega)];simp only[go_sem,h5,fU,Qs]
 .have:ty=1:=by simpa using h1
  subst this;simp only[go_sem,h1];have hg:=Gx b p hb hl;rcases h2:Bh b p with _ | ⟨n,q⟩<;>rw[h2] at hg<;>simp only[WJ] at hg
  .refine AAO _ hg fun _=>?_;simp only[go_sem,F8,h2,fU,W_,Qs]
  refine AAO _ hg fun _=>?_;obtain⟨e1,e2,e3,e4,e5,e6⟩:=IW hb h2;have hv:=kY n ⟨e4,e5⟩;simp only[go_sem];refine AAO _ (D7 ⟨1,n,ByteArray.empty⟩) fun _=>?_;have e7:((q:Int)==0)=false:=AOn;simp only[go_sem,hv,F8,h2,fU,bi,e7]
theorem NP (b:List Int) (p ty:Int) (hb:Ai b) (hl:b.length<=1048576):Ctr prog 331 [.c (.sl (b.map byteC)),.c (.v (.int .i64 (p))),.c (.v (.int .i64 (ty)))] (fU (F8 b p ty)):=by
 refine CM call331 func331 ntmps331 results331 fun hw=>?_;rcases h1:ty==1 with _ | _
 .have h1':ty≠1:=by simpa using h1
  simp only[go_sem,h1];rcases h2:ty==2 with _ | _
  .have h2':ty≠2:=by simpa using h2
   rw[AGj b p ty h1' h2'];have h3:(ty != 2)=true:=by simpa using h2'
   simp only[go_sem,h3,fU,Qs]
  .have:ty=2:=by simpa using h2
   subst this;have h3:((2:Int) != 2)=false:=AOm;simp only[go_sem,h3];refine AAO _ (AP _ _ _) fun _=>?_;simp only[go_sem,wrap_i64 (n:=(b.length:Int)-1) AOl AOl];rcases h4:Ae p 0 ((b.length:Int)-1) with _ | _
   .rw[zH b p APp];simp only[go_sem,h4,fU,Qs]
   have h4':0<=p/\p<b.length:=APp;obtain⟨p,rfl⟩:=aF h4'.1;have hp:p<b.length:=AOl;have hc:isByte b[p]:=hb _ (an hp);obtain⟨c,hc2⟩:=aF hc.1;have hc3:c<256:=by have:=hc.2; omega
   rw[AGk hp];simp only[go_sem,h4,AA _ hp,hc2,aZ,wrap_i64 (n:=(p:Int)+1) AOl AOl,wrap_i64 (n:=(p:Int)+1+(c:Int)) AOl AOl,wrap_i64 (n:=(c:Int)) AOl AOl,wrap_i64 (n:=(b.length:Int)-(p:Int)) AOl AOl,wrap_i64 (n:=(b.length:Int)-(p:Int)-1) AOl AOl];rcases h5:decide ((c:Int)>(b.length:Int)-(p:Int)-1) with _ | _
   .have h6:p+1+c<=b.length:=by simp at h5; omega
    have q1:=Io (k:=.i64) (n:=(p:Int)+1) (m:=p+1) AOl;have q2:=Io (k:=.i64) (n:=(p:Int)+1+(c:Int)) (m:=p+1+c) AOl;have q5:p+1<=p+1+c:=AOl;have q6:p+1+c-(p+1)=c:=AOl;rw[aV h6];simp only[go_sem,h5,wrap_i64 (n:=(p:Int)+1) AOl AOl,wrap_i64 (n:=(p:Int)+1+(c:Int)) AOl AOl,q1,q2,q5,q6,h6,BU,<- bk,<- bf,OB];refine AAO _ (Iu ⟨2,0,strOfNums ((b.drop (p+1)).take c)⟩) fun _=>?_;exact AK6
   .rw[aR (by simp at h5; omega)];simp only[go_sem,h5,fU,Qs]
 .have:ty=1:=by simpa using h1
  subst this;simp only[go_sem,h1];have hg:=Gw b p hb hl;rcases h2:Bh b p with _ | ⟨n,q⟩<;>rw[h2] at hg<;>simp only[WJ] at hg
  .refine AAO _ hg fun _=>?_;simp only[go_sem,F8,h2,fU,W_,Qs]
  refine AAO _ hg fun _=>?_;simp only[go_sem,F8,h2,fU,bi]
