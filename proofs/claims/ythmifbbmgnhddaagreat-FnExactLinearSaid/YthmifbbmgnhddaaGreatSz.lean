/- A part. -/
import Derived.Test.YthmifbbmgnhddaaGreatSr
import Derived.Test.YthmifbbmgnhddaaGreatCs
set_option linter.unusedSimpArgs false
set_option linter.unusedVariables false
set_option maxHeartbeats 4000000
set_option maxRecDepth 10000
open Go.Proofs.Tryz
namespace Go.Proofs.YthmifbbmgnhddaaGreat
open Go.Vm
section
variable {p q r:Prop}
theorem AHq(h:p:=by
 have hjm:min j out.length=j:=by omega
 have q1:j≤2147483648:=by omega
 have q2:j+1≤2147483648:=by omega
 have q3:j+1+(out.length-j)≤2147483648:=by omega
 have htk:(out.drop j).take (out.length-j)=out.drop j:=aat (by simp)
 refine ACh 4 6 [0,1,2,3,4,5,6,7,8,9,10,11,12] [0,5,6,1,2,3,4,7,8,9,10,11,12] rfl (by kernel_rfl) (by kernel_rfl) ?_ ?_
 rotate_left
 simp only[go_sem]
 refine ACh 0 2 [0,1,2,3,4,5,6,7,8,9,10,11,12] [1,2,0,3,4,5,6,7,8,9,10,11,12] rfl (by kernel_rfl) (by kernel_rfl) ?_ ?_
 all_goals
  simp only[go_sem]
  refine AAR ?_
  simp only[go_sem,ak,aW,bn,aN,bz,bV,G7,ACe,yG,hj,aI,au,vH,hjm,q1,q2,q3,← cZ,← cO,ae,bJ,aaP,aaR,aG,htk,bP,wrap_i64 (n:=(k:Int)+1) (by omega) (by omega)]
  exact⟨(k+1,_),Head.trans (ACd 5 rfl (dN _ _ _)) (AAQ [(5,false)] ⟨rfl,rfl,dN _ _ _,trivial⟩ (by simp only[r_]; rfl)),⟨hk',hO2⟩,by simp only; omega⟩):p:=h
end
theorem dM:((1:Int)<0)=False:=AQ3
theorem AFu {n:Nat} (h:n≤1048576000):IntKind.u64.wrap (n:Int)=n:=KC (by simp[Lit.wf,IntKind.min,IntKind.max,IntKind.signed,IntKind.bits]; omega)
theorem AED {d:List Int} {a m b:Nat} (h1:a≤m) (h2:m≤b) (h3:b≤d.length):(Hy d a m b).Perm d:=by
 obtain⟨P,A,B,S,rfl,hP,hA,hB⟩:=NK h1 h2 h3
 rw[IK hP AQ2 AQ2]
 refine List.Perm.append_left P ?_
 rw[← aZ,← aZ]
 exact List.Perm.append_right S List.perm_append_comm
theorem rq (n:Nat) (h:n≤1048576000):IntKind.u64.wrap ((IntKind.u64.wrap (n:Int)).fdiv (2 ^ min (Int.toNat 1) 64))=((n/2:Nat):Int):=by
 rw[AFu h]
 have:(n:Int).fdiv (2 ^ min (Int.toNat 1) 64)=((n/2:Nat):Int):=by
  show (n:Int).fdiv 2=_
  rw[aaN _ AQ2]
  omega
 rw[this,AFu AQ2]
theorem ru (n:Nat) (h:n≤1048576000):IntKind.i64.wrap ((n/2:Nat):Int)=((n/2:Nat):Int):=wrap_i64 AQ2 AQ2
def AJz (key:Int→Int) (g:FuncId) (xs:List (List Cl)) (d:List Int) (a m b:Nat):Prop:=
 MCtr prog 342 false [.ow 3 1 (d.map intC)] [.c (.v (.int .i64 ((a:Int)))),.c (.v (.int .i64 ((m:Int)))),.c (.v (.int .i64 ((b:Int)))),.clo g xs] (fun cl' rs=>∃ d',cl' = [.ow 3 1 (d'.map intC)]∧rs = []∧Mrg key a b d d')
theorem yE (key:Int→Int) (d:List Int) (a m b:Nat) (h1:a<m) (h2:m<b) (hl:d.length≤1048576) (hR:Runs key a m b d) (g:FuncId) (xs:List (List Cl)) (hg:CmpOk prog g xs key d)
  (ih:∀ (d':List Int) (a' m' b':Nat),b'-a'<b-a→a'<m'→m'<b'→d'.length≤1048576→Runs key a' m' b' d'→CmpOk prog g xs key d'→AJz key g xs d' a' m' b'):AJz key g xs d a m b:=by
 have hb:=hR.len
 refine ACf (fn:=f342) call342 func342 rfl mixed ntmps342 results342 (by kernel_rfl) rfl (.inr rfl) fun us hw0 hw=>?_
 have e1:=Un (x:=m) (y:=a) AQ2 AQ2
 have e2:=Un (x:=b) (y:=m) AQ2 AQ2
 rcases c1:(((m-a:Nat):Int)==1) with _ | _
 rotate_left
 ·have hm:m=a+1:=by simp at c1; omega
  subst hm
  simp only[go_sem,e1,c1]
  refine AAa 1 [0,1,4,10,11] (A:=Nat×Nat) (fun x=>⟨220,[(0,.pin (.c (.ref 0)) (mkV false us)),(1,.c (.v (.int .i64 ((a:Int))))),(4,.clo g xs),(10,.c (.v (.int .i64 ((x.1:Int))))),(11,.c (.v (.int .i64 ((x.2:Int)))))],[⟨3,1,d.map intC,true,true⟩]⟩)
   (fun x=>a+1≤x.1∧x.1≤x.2∧x.2≤b∧(x.1=a+1∨kl key (at0 d (x.1-1)) (at0 d a))∧(x.2=b∨kl key (at0 d a) (at0 d x.2))) (fun x=>x.2-x.1) (a+1,b) ⟨⟨rfl,AQ8⟩,rfl,aI _,AQ4,aI _,.inl rfl,.inl rfl⟩ ?_
  rintro⟨i,j⟩ ⟨p1,p2,p3,p4,p5⟩
  dsimp only at p1 p2 p3 p4 p5
  refine AQx (fun h=>?_) fun h=>?_
  ·have hij:i<j:=by simp at h; omega
   have e3:=addN (x:=i) (y:=j) AQ2 AQ2
   have e4:=rq (i+j) AQ2
   have e5:=ru (i+j) AQ2
   have ht:(i+j)/2<d.length:=AQ2
   have ha:a<d.length:=AQ2
   have t1:=I_ ht
   have t2:=I_ ha
   generalize hh:(i+j)/2=h0 at e4 e5 ht t1
   simp only[go_sem,e3,e4,e5,dM,ak]
   refine AAO ?_
   simp only[go_sem,t1,t2,ht,ha,ae]
   refine CY (hg (at0 d h0) (at_mem ht) (at0 d a) (at_mem ha)) ?_
   simp only[go_sem,Wu]
   refine AAP (fun h=>?_) (fun h=>?_)
   ·have hk:key (at0 d h0)<key (at0 d a):=by simpa using h
    simp only[go_sem,wrap_i64 (n:=(h0:Int)+1) AQ2 AQ2]
    exact⟨(h0+1,j),⟨rfl,AQ8⟩,rfl,⟨AQ4,AQ4,p3,.inr (.inl hk),p5⟩,AQ4⟩
   ·have hk:¬ key (at0 d h0)<key (at0 d a):=by simpa using h
    simp only[go_sem]
    exact⟨(i,h0),⟨rfl,AQ8⟩,rfl,⟨p1,AQ4,AQ4,p4,.inr (rZ hR AQ2 AQ2 AQ2 AQ2 hk)⟩,AQ4⟩
  ·have hij:i=j:=by simp at h; omega
   subst hij
   have e3:=Un (x:=i) (y:=1) AQ2 AQ2
   simp only[abm] at e3
   simp only[go_sem]
   refine AAa 1 [0,10,13] (A:=Nat) (fun k=>⟨220,[(0,.pin (.c (.ref 0)) (mkV false us)),(10,.c (.v (.int .i64 ((i:Int))))),(13,.c (.v (.int .i64 ((k:Int)))))],[⟨3,1,(Hy d a (a+1) (k+1)).map intC,true,true⟩]⟩)
    (fun k=>a≤k∧k≤i-1) (fun k=>i-k) a ⟨⟨rfl,AQ8⟩,by rw[yB AQ2 AQ2]; rfl,aI _,AQ2⟩ ?_
   intro k hk
   simp only[go_sem,e3]
   refine AAP (fun h=>?_) (fun h=>?_)
   ·have hki:k<i-1:=by simpa using h
    have hyl:=x_ (d:=d) (a:=a) (m:=a+1) (b:=k+1) AQ2 AQ2 AQ2
    have hst:=AJy (d:=d) (a:=a) (k:=k) AQ2 AQ2
    generalize Hy d a (a+1) (k+1)=ys at hyl hst
    have ea:=addN (x:=k) (y:=1) AQ2 AQ2
    simp only[abm] at ea
    have la:k<ys.length:=AQ2
    have lb:k+1<ys.length:=AQ2
    have f1:=I_ la
    have f2:=I_ lb
    simp only[go_sem,ea,f1,f2,la,lb,ae]
    refine AAR ?_
    have f3:((ys.set k (at0 ys (k+1))).map intC)[k+1]?=some [.v (.int .i64 (at0 ys (k+1)))]:=by
     rw[lg,vG,bu AQ2,Qs lb]; rfl
    simp only[go_sem,ea,f1,f2,f3,la,lb,ae,dL,bi]
    refine⟨k+1,⟨rfl,AQ8⟩, ?_,⟨AQ2,AQ2⟩,AQ2⟩
    rw[← hst]
    rfl
   ·have hki:k=i-1:=by simp at h; omega
    subst hki
    simp only[go_sem]
    have hM:=AEC hR p1 p3 p4 p5
    rw[show i-1+1=i from AQ2]
    exact AOV
 rcases c2:(((b-m:Nat):Int)==1) with _ | _
 rotate_left
 ·have hm:b=m+1:=by simp at c2; omega
  subst hm
  simp only[go_sem,e1,e2,c1,c2]
  refine AAa 1 [0,1,2,4,14,15] (A:=Nat×Nat) (fun x=>⟨220,[(0,.pin (.c (.ref 0)) (mkV false us)),(1,.c (.v (.int .i64 ((a:Int))))),(2,.c (.v (.int .i64 ((m:Int))))),(4,.clo g xs),(14,.c (.v (.int .i64 ((x.1:Int))))),(15,.c (.v (.int .i64 ((x.2:Int)))))],[⟨3,1,d.map intC,true,true⟩]⟩)
   (fun x=>a≤x.1∧x.1≤x.2∧x.2≤m∧(x.1=a∨kl key (at0 d (x.1-1)) (at0 d m))∧(x.2=m∨kl key (at0 d m) (at0 d x.2))) (fun x=>x.2-x.1) (a,m) ⟨⟨rfl,AQ8⟩,rfl,aI _,AQ4,aI _,.inl rfl,.inl rfl⟩ ?_
  rintro⟨i,j⟩ ⟨p1,p2,p3,p4,p5⟩
  dsimp only at p1 p2 p3 p4 p5
  refine AQx (fun h=>?_) fun h=>?_
  ·have hij:i<j:=by simp at h; omega
   have e3:=addN (x:=i) (y:=j) AQ2 AQ2
   have e4:=rq (i+j) AQ2
   have e5:=ru (i+j) AQ2
   have ht:(i+j)/2<d.length:=AQ2
   have ha:m<d.length:=AQ2
   have t1:=I_ ht
   have t2:=I_ ha
   generalize hh:(i+j)/2=h0 at e4 e5 ht t1
   simp only[go_sem,e3,e4,e5,dM,ak]
   refine AAO ?_
   simp only[go_sem,t1,t2,ht,ha,ae]
   refine CY (hg (at0 d m) (at_mem ha) (at0 d h0) (at_mem ht)) ?_
   simp only[go_sem,Wu]
   refine AAP (fun h=>?_) (fun h=>?_)
   ·have hk:¬ key (at0 d m)<key (at0 d h0):=by simpa using h
    simp only[go_sem,wrap_i64 (n:=(h0:Int)+1) AQ2 AQ2]
    exact⟨(h0+1,j),⟨rfl,AQ8⟩,rfl,⟨AQ4,AQ4,p3,.inr (rZ hR AQ2 AQ2 AQ2 AQ2 hk),p5⟩,AQ4⟩
   ·have hk:key (at0 d m)<key (at0 d h0):=by simpa using h
    simp only[go_sem]
    exact⟨(i,h0),⟨rfl,AQ8⟩,rfl,⟨p1,AQ4,AQ4,p4,.inr (.inl hk)⟩,AQ4⟩
  ·have hij:i=j:=by simp at h; omega
   subst hij
   simp only[go_sem]
   refine AAa 1 [0,14,17] (A:=Nat) (fun k=>⟨220,[(0,.pin (.c (.ref 0)) (mkV false us)),(14,.c (.v (.int .i64 ((i:Int))))),(17,.c (.v (.int .i64 ((k:Int)))))],[⟨3,1,(Hy d k m (m+1)).map intC,true,true⟩]⟩)
    (fun k=>i≤k∧k≤m) (fun k=>k) m ⟨⟨rfl,AQ8⟩,by rw[ng AQ2 AQ2]; rfl,AQ2,aI _⟩ ?_
   intro k hk
   refine AQx (fun h=>?_) fun h=>?_
   ·have hki:i<k:=by simpa using h
    have hyl:=x_ (d:=d) (a:=k) (m:=m) (b:=m+1) AQ2 AQ2 AQ2
    have hst:=AFs (d:=d) (m:=m) (k:=k) AQ2 AQ2 AQ2
    generalize Hy d k m (m+1)=ys at hyl hst
    have ea:=Un (x:=k) (y:=1) AQ2 AQ2
    simp only[abm] at ea
    have la:k<ys.length:=AQ2
    have lb:k-1<ys.length:=AQ2
    have f1:=I_ la
    have f2:=I_ lb
    simp only[go_sem,ea,f1,f2,la,lb,ae]
    refine AAR ?_
    have f3:((ys.set k (at0 ys (k-1))).map intC)[k-1]?=some [.v (.int .i64 (at0 ys (k-1)))]:=by
     rw[lg,vG,bu AQ2,Qs lb]; rfl
    simp only[go_sem,ea,f1,f2,f3,la,lb,ae,dL,bi]
    refine⟨k-1,⟨rfl,AQ8⟩, ?_,⟨AQ2,AQ2⟩,AQ2⟩
    rw[← hst]
    rfl
   ·have hki:k=i:=by simp at h; omega
    subst hki
    simp only[go_sem]
    have hM:=ABN hR p1 p3 p4 p5
    exact AOV
 have e4:=rq (a+b) AQ2
 have e5:=ru (a+b) AQ2
 have hq1:a<(a+b)/2:=AQ2
 have hq2:(a+b)/2<b:=AQ2
 have e3:=addN (x:=a) (y:=b) AQ2 AQ2
 have e6:=addN (x:=(a+b)/2) (y:=m) AQ2 AQ2
 have hq3:a+b≤2*((a+b)/2)+1∧2*((a+b)/2)≤a+b:=AQ2
 generalize hh:(a+b)/2=h0 at e4 e5 e6 hq1 hq2 hq3
 simp only[go_sem,e1,e2,c1,c2,e3,e4,e5,e6,dM,ak]
 have e8:=Un (x:=h0+m) (y:=1) AQ2 AQ2
 simp only[abm] at e8
 refine AAP (fun h=>?_) (fun h=>?_)
 have hmh:h0<m:=ARY
 have e7:=Un (x:=h0+m) (y:=b) AQ2 AQ2
 simp only[go_sem,e7,e8]
 obtain⟨lo,hlo⟩:∃ lo,lo=h0+m-b:=⟨_,rfl⟩
 obtain⟨hi,hhi⟩:∃ hi,hi=h0:=⟨_,rfl⟩
 have F:lo≤hi∧hi≤m∧hi≤h0∧a≤lo∧h0+m≤lo+b∧(lo=a∨h0+m=lo+b)∧(hi=m∨hi=h0):=AQ2
 clear h hmh
 rotate_left
 have hmh:¬ h0<m:=ARY
 simp only[go_sem,e8]
 obtain⟨lo,hlo⟩:∃ lo,lo=a:=⟨_,rfl⟩
 obtain⟨hi,hhi⟩:∃ hi,hi=m:=⟨_,rfl⟩
 have F:lo≤hi∧hi≤m∧hi≤h0∧a≤lo∧h0+m≤lo+b∧(lo=a∨h0+m=lo+b)∧(hi=m∨hi=h0):=AQ2
 clear h hmh
 rotate_left
 all_goals
  refine AAa 1 [0,1,2,3,4,18,19,20,21,22] (A:=Nat×Nat) (fun x=>⟨220,[(0,.pin (.c (.ref 0)) (mkV false us)),(1,.c (.v (.int .i64 ((a:Int))))),(2,.c (.v (.int .i64 ((m:Int))))),(3,.c (.v (.int .i64 ((b:Int))))),(4,.clo g xs),(18,.c (.v (.int .i64 ((h0:Int))))),(19,(.c (.v (.int .i64 ((h0+m:Nat):Int))))),(20,.c (.v (.int .i64 ((x.1:Int))))),(21,.c (.v (.int .i64 ((x.2:Int))))),(22,(.c (.v (.int .i64 ((h0+m-1:Nat):Int)))))],[⟨3,1,d.map intC,true,true⟩]⟩)
   (fun x=>ANc key d (h0+m-1) lo hi x.1 x.2) (fun x=>x.2-x.1) (lo,hi) (by subst hlo; subst hhi; exact⟨⟨rfl,AQ8⟩,rfl,aI _,F.1,aI _,.inl rfl,.inl rfl⟩) ?_
  rintro⟨i,j⟩ ⟨p1,p2,p3,p4,p5⟩
  dsimp only at p1 p2 p3 p4 p5
  refine AQx (fun h=>?_) fun h=>?_
  ·have hij:i<j:=by simp at h; omega
   have f3:=addN (x:=i) (y:=j) AQ2 AQ2
   have f4:=rq (i+j) AQ2
   have f5:=ru (i+j) AQ2
   have ht:(i+j)/2<d.length:=AQ2
   have ha:h0+m-1-(i+j)/2<d.length:=AQ2
   have f6:=Un (x:=h0+m-1) (y:=(i+j)/2) AQ2 AQ2
   have t1:=I_ ht
   have t2:=I_ ha
   have g1:i≤(i+j)/2∧(i+j)/2<j:=AQ2
   generalize hh2:(i+j)/2=c0 at f4 f5 f6 ht ha t1 t2 g1
   simp only[go_sem,f3,f4,f5,dM,ak]
   refine AAO ?_
   simp only[go_sem,t1,t2,ht,ha,f6,ae]
   refine CY (hg (at0 d (h0+m-1-c0)) (at_mem ha) (at0 d c0) (at_mem ht)) ?_
   simp only[go_sem,Wu]
   refine AAP (fun h=>?_) (fun h=>?_)
   ·have hk:¬ key (at0 d (h0+m-1-c0))<key (at0 d c0):=by simpa using h
    simp only[go_sem,wrap_i64 (n:=(c0:Int)+1) AQ2 AQ2]
    exact⟨(c0+1,j),⟨rfl,AQ8⟩,rfl,⟨AQ4,AQ4,p3,.inr (rZ hR AQ2 AQ2 AQ2 AQ2 hk),p5⟩,AQ4⟩
   ·have hk:key (at0 d (h0+m-1-c0))<key (at0 d c0):=by simpa using h
    simp only[go_sem]
    exact⟨(i,c0),⟨rfl,AQ8⟩,rfl,⟨p1,AQ4,AQ4,p4,.inr (.inl hk)⟩,AQ4⟩
  ·have hij:i=j:=by simp at h; omega
   subst hij
   have f3:=Un (x:=h0+m) (y:=i) AQ2 AQ2
   obtain⟨s1,s2⟩:=iR (s:=i) (e:=h0+m-i) hR AQ2 AQ2 AQ2 AQ2 (fun u v=>by
    rcases p4 with p4 | p4
    ·omega
    ·rwa [show h0+m-1-(i-1)=h0+m-i from AQ2] at p4) (fun u v=>by
    rcases p5 with p5 | p5
    ·omega
    ·rwa [show h0+m-1-i=h0+m-i-1 from AQ2] at p5)
   rw[show i+(h0+m-i-m)=h0 from AQ2] at s1 s2
   simp only[go_sem,f3]
   generalize Mrg key a b d=Q at s2 ⊢
   have hT:(i<m∧m<h0+m-i)∨m≤i∨(i<m∧h0+m-i≤m):=AQ2
   rcases hT with ⟨u1,u2⟩ | u1 | ⟨u1,u2⟩
   have g1:decide ((i:Int)<(m:Int))=true:=AQ5
   have g2:decide ((m:Int)<((h0+m-i:Nat):Int))=true:=AQ5
   simp only[go_sem,g1,g2]
   refine ACg false (zs:=[.ref 0]) (yC d i m (h0+m-i) u1 u2 AQ2 hl g xs) rfl ⟨rfl,rfl,rfl,rfl,FW _,AQ3,trivial⟩ rfl (.inr rfl) fun cl' rs hM=>?_
   obtain⟨rfl,rfl⟩:=hM
   refine⟨⟨rfl,⟨rfl,rfl⟩,trivial⟩, ?_⟩
   have hP:(Hy d i m (h0+m-i)).Perm d:=AED AQ2 AQ2 AQ2
   have hgD:=hg.perm hP
   have lD:=hP.length_eq
   rw[← lD] at hl hb
   generalize Hy d i m (h0+m-i)=D at s1 s2 hgD hl hb ⊢
   rotate_left
   have g1:decide ((i:Int)<(m:Int))=false:=AQ5
   have hE:Hy d i m (h0+m-i)=d:=by rw[show i=m from AQ2]; exact ng AQ2 AQ2
   rw[hE] at s1 s2
   simp only[go_sem,g1]
   have hgD:=hg
   generalize d=D at s1 s2 hgD hl hb ⊢
   rotate_left
   have g1:decide ((i:Int)<(m:Int))=true:=AQ5
   have g2:decide ((m:Int)<((h0+m-i:Nat):Int))=false:=AQ5
   have hE:Hy d i m (h0+m-i)=d:=by rw[show h0+m-i=m from AQ2]; exact yB AQ2 AQ2
   rw[hE] at s1 s2
   simp only[go_sem,g1,g2]
   have hgD:=hg
   generalize d=D at s1 s2 hgD hl hb ⊢
   rotate_left
   all_goals
    have hT:(a<i∧i<h0)∨i=a∨(a<i∧i=h0):=AQ2
    rcases hT with ⟨v1,v2⟩ | v1 | ⟨v1,v2⟩
    have g1:decide ((a:Int)<(i:Int))=true:=AQ5
    have g2:decide ((i:Int)<(h0:Int))=true:=AQ5
    simp only[go_sem,g1,g2]
    refine ACg false (zs:=[.ref 0]) (ih D a i h0 AQ2 v1 v2 hl s1 hgD) rfl ⟨rfl,rfl,rfl,rfl,FW _,AQ3,trivial⟩ rfl (.inr rfl) fun cl' rs hM=>?_
    obtain⟨D2,rfl,rfl,hM⟩:=hM
    refine⟨⟨rfl,⟨rfl,rfl⟩,trivial⟩, ?_⟩
    obtain⟨r1,r2⟩:=s2 D2 hM
    replace hgD:=hgD.perm hM.perm
    rw[← hM.len] at hl hb
    rotate_left
    have g1:decide ((a:Int)<(i:Int))=false:=AQ5
    simp only[go_sem,g1]
    obtain⟨r1,r2⟩:=s2 D (s1.one (.inl (Eq.symm v1)))
    generalize D=D2 at r1 r2 hgD hl hb ⊢
    rotate_left
    have g1:decide ((a:Int)<(i:Int))=true:=AQ5
    have g2:decide ((i:Int)<(h0:Int))=false:=AQ5
    simp only[go_sem,g1,g2]
    obtain⟨r1,r2⟩:=s2 D (s1.one (.inr v2))
    generalize D=D2 at r1 r2 hgD hl hb ⊢
    rotate_left
    all_goals
     have hT:(h0<h0+m-i∧h0+m-i<b)∨h0=h0+m-i∨(h0<h0+m-i∧h0+m-i=b):=AQ2
     rcases hT with ⟨w1,w2⟩ | w1 | ⟨w1,w2⟩
     ·have g1:decide ((h0:Int)<((h0+m-i:Nat):Int))=true:=by simp; omega
      have g2:decide (((h0+m-i:Nat):Int)<(b:Int))=true:=AQ5
      simp only[go_sem,g1,g2]
      refine ACg false (zs:=[.ref 0]) (ih D2 h0 (h0+m-i) b AQ2 w1 w2 hl r1 hgD) rfl ⟨rfl,rfl,rfl,rfl,FW _,AQ3,trivial⟩ rfl (.inr rfl) fun cl' rs hM=>?_
      obtain⟨D3,rfl,rfl,hM⟩:=hM
      refine⟨⟨rfl,⟨rfl,rfl⟩,trivial⟩, ?_⟩
      simp only[go_sem]
      exact⟨[.ref 0],[.ow 3 1 _],[],rfl,.inr rfl,⟨rfl,rfl,rfl,rfl,FW _,AQ3,trivial⟩,by simp only[EP,Hr,aF]; exact Il fun x hx=>ARe,rfl,rfl,_,rfl,rfl,r2 D3 hM⟩
     ·have g1:decide ((h0:Int)<((h0+m-i:Nat):Int))=false:=by simp; omega
      simp only[go_sem,g1]
      exact⟨[.ref 0],[.ow 3 1 _],[],rfl,.inr rfl,⟨rfl,rfl,rfl,rfl,FW _,AQ3,trivial⟩,by simp only[EP,Hr,aF]; exact Il fun x hx=>ARe,rfl,rfl,_,rfl,rfl,r2 D2 (r1.one (.inl w1))⟩
     ·have g1:decide ((h0:Int)<((h0+m-i:Nat):Int))=true:=by simp; omega
      have g2:decide (((h0+m-i:Nat):Int)<(b:Int))=false:=AQ5
      simp only[go_sem,g1,g2]
      exact⟨[.ref 0],[.ow 3 1 _],[],rfl,.inr rfl,⟨rfl,rfl,rfl,rfl,FW _,AQ3,trivial⟩,by simp only[EP,Hr,aF]; exact Il fun x hx=>ARe,rfl,rfl,_,rfl,rfl,r2 D2 (r1.one (.inr w2))⟩
section phases
variable {key:Int→Int}
def Ph1 (key:Int→Int) (d0:List Int) (t:Nat) (d:List Int):Prop:=∃ done,done.length=t∧(∀ c∈done,BOk key c∧c.1.length=20)∧Gm done=d0.take (20*t)∧d=KW done++d0.drop (20*t)
def Blk (key:Int→Int) (n:Nat) (d0 d:List Int):Prop:=∃ cs,Szs n cs∧(∀ c∈cs,BOk key c)∧d0=Gm cs∧d=KW cs
def Ph2 (key:Int→Int) (B:Nat) (d0:List Int) (t:Nat) (d:List Int):Prop:=∃ done rest,done.length=t∧(∀ c∈done,BOk key c∧c.1.length=2*B)∧Szs B rest∧(∀ c∈rest,BOk key c)∧d0=Gm (done++rest)∧d=KW (done++rest)
theorem OD {n:Nat}:∀ {cs:List (List Int×List Int)},(∀ c∈cs,c.1.length=n)→(Gm cs).length=n*cs.length
 | [],_=>rfl
 | c::cs,h=>by
  rw[F6,aN,h c AQ3,OD fun x hx=>h x ARS,bz,Nat.mul_add]; omega
theorem UO:∀ {cs:List (List Int×List Int)},(∀ c∈cs,BOk key c)→(KW cs).Perm (Gm cs)
 | [],_=>abI _
 | c::cs,h=>by
  rw[F6,JP]
  exact List.Perm.append (h c AQ3).1 (UO fun x hx=>h x ARS)
theorem Ph1.start (d0:List Int):Ph1 key d0 0 d0:=⟨[],rfl,AQ3,by simp[Gm],by simp[KW]⟩
theorem Ph1.perm {d0 d:List Int} {t:Nat} (h:Ph1 key d0 t d):d.Perm d0:=by
 obtain⟨done,rfl,h2,h3,rfl⟩:=h
 have:=List.Perm.append_right (d0.drop (20*done.length)) (UO (key:=key) fun c hc=>(h2 c hc).1)
 rwa [h3,aas] at this
theorem Ph1.rest {d0 d:List Int} {t:Nat} (h:Ph1 key d0 t d):d.drop (20*t)=d0.drop (20*t):=by
 obtain⟨done,rfl,h2,h3,rfl⟩:=h
 have h4:=MR done fun c hc=>(h2 c hc).1
 have h5:=OD fun c hc=>(h2 c hc).2
 rw[h5] at h4
 rw[← h4,abv]
theorem Ph1.step {d0 d d':List Int} {t:Nat} (h:Ph1 key d0 t d) (hn:20*t+20≤d0.length) (hM:Mrg key (20*t) (20*t+20) d d'):Ph1 key d0 (t+1) d':=by
 obtain⟨done,rfl,h2,h3,rfl⟩:=h
 have h4:=MR done fun c hc=>(h2 c hc).1
 have h5:=OD fun c hc=>(h2 c hc).2
 obtain⟨c,e1,e2,rfl⟩:=ni (n:=20) (rest:=d0.drop (20*done.length)) (d':=d') rfl h4 AQ5 (by rw[h5]; exact hM)
 refine⟨done ++ [c],AQ3,fun x hx=>?_, ?_, ?_⟩
 ·rcases lN.1 hx with hx | hx
  ·exact h2 x hx
  ·rw[aay.1 hx]; exact⟨e2,by rw[e1]; simp; omega⟩
 ·rw[I9,h3]
  have:Gm [c]=c.1:=by simp[Gm]
  rw[this,e1,show 20*(done.length+1)=20*done.length+20 from AQ2,List.take_add]
 ·rw[abg,show 20*(done.length+1)=20*done.length+20 from AQ2]
theorem Ph1.fin {d0 d d':List Int} {t:Nat} (h:Ph1 key d0 t d) (h1:20*t≤d0.length) (h2:d0.length<20*t+20) (hM:Mrg key (20*t) d0.length d d'):Blk key 20 d0 d':=by
 obtain⟨done,rfl,q2,h3,rfl⟩:=h
 have h4:=MR done fun c hc=>(q2 c hc).1
 have h5:=OD fun c hc=>(q2 c hc).2
 obtain⟨c,e1,e2,rfl⟩:=ni (n:=d0.length-20*done.length) (rest:=d0.drop (20*done.length)) (d':=d') rfl h4 AQ3 (by rw[h5,show 20*done.length+(d0.length-20*done.length)=d0.length from AQ2]; exact hM)
 refine⟨done ++ [c],Szs.full (fun x hx=>(q2 x hx).2) (show c.1.length≤20 by rw[e1]; simp; omega),fun x hx=>?_, ?_, ?_⟩
 ·rcases lN.1 hx with hx | hx
  ·exact(q2 x hx).1
  ·rw[aay.1 hx]; exact e2
 ·have:Gm [c]=c.1:=by simp[Gm]
  rw[I9,h3,this,e1,aat (i:=d0.length-20*done.length) AQ3,aas]
 ·rw[abg,show 20*done.length+(d0.length-20*done.length)=d0.length from AQ2,aJ,bK]
theorem Blk.perm {n:Nat} {d0 d:List Int} (h:Blk key n d0 d):d.Perm d0:=by
 obtain⟨cs,_,h2,rfl,rfl⟩:=h
 exact UO h2
theorem Blk.all {n:Nat} {d0 d:List Int} (h:Blk key n d0 d) (hn:d0.length≤n) (h0:0<n):d.Pairwise (kl key):=by
 obtain⟨cs,h1,h2,rfl,rfl⟩:=h
 exact(nZ h2 h1 hn h0).2
theorem Blk.two {B:Nat} {d0 d:List Int} (h:Blk key B d0 d):Ph2 key B d0 0 d:=by
 obtain⟨cs,h1,h2,rfl,rfl⟩:=h
 exact⟨[],cs,rfl,AQ3,h1,h2,rfl,rfl⟩
theorem Ph2.perm {B t:Nat} {d0 d:List Int} (h:Ph2 key B d0 t d):d.Perm d0:=by
 obtain⟨done,rest,_,h1,_,h2,rfl,rfl⟩:=h
 exact UO fun c hc=>(lN.1 hc).elim (fun h=>(h1 c h).1) (h2 c)
theorem Ph2.ahead {B t:Nat} {d0 d:List Int} (h:Ph2 key B d0 t d) (hb:2*B*t+B<d0.length):∃ done c1 c2 rest,done.length=t∧(∀ c∈done,BOk key c∧c.1.length=2*B)∧Szs B rest∧(∀ c∈done++c1::c2::rest,BOk key c)∧d0=Gm (done++c1::c2::rest)∧d=KW (done++c1::c2::rest)∧(Gm done).length=2*B*t∧c1.1.length=B∧c2.1.length≤B∧(rest≠ []→c2.1.length=B):=by
 obtain⟨done,rest,rfl,h1,h2,h3,h4,h5⟩:=h
 have hl:=OD fun c hc=>(h1 c hc).2
 have hl2:d0.length=2*B*done.length+(Gm rest).length:=by rw[h4,I9,aN,hl]
 cases rest with
 | nil=>simp[Gm] at hl2; omega
 | cons c1 r =>
  rw[F6,aN] at hl2
  have q1:=h2.cons
  cases r with
  | nil=>simp[Gm] at hl2; omega
  | cons c2 r =>
   have q2:=q1.2.1.cons
   exact⟨done,c1,c2,r,rfl,h1,q2.2.1,fun c hc=>(lN.1 hc).elim (fun h=>(h1 c h).1) (h3 c),h4,h5,hl,q1.2.2 AQ3,q2.1,q2.2.2⟩
theorem Ph2.next {B t e:Nat} {d0 d:List Int} (h:Ph2 key B d0 t d) (hs:d0.Pairwise (· < ·)) (hb:2*B*t+B<d0.length) (he:e=2*B*t+2*B∧e≤d0.length∨e=d0.length∧e<2*B*t+2*B) :
  Runs key (2*B*t) (2*B*t+B) e d∧∀ d',Mrg key (2*B*t) e d d'→(e=2*B*t+2*B→Ph2 key B d0 (t+1) d')∧(e=d0.length→Blk key (2*B) d0 d'):=by
 obtain⟨done,c1,c2,rest,rfl,h1,h2,h3,h4,h5,h6,h7,h8,h9⟩:=h.ahead hb
 have hl2:d0.length=2*B*done.length+(B+(c2.1.length+(Gm rest).length)):=by rw[h4,I9,aN,h6,F6,F6,aN,aN,h7]
 have he2:2*B*done.length+B+c2.1.length=e:=by
  by_cases c:rest = []
  ·subst c; simp[Gm] at hl2; omega
  ·have:=h9 c; omega
 have hR:=ABM h4 h5 h3 hs
 rw[h6,h7,he2] at hR
 refine⟨hR,fun d' hM=>?_⟩
 obtain⟨c,e1,e2,e3,e4⟩:=rY h4 h5 h3 (d':=d') (by rw[h6,h7,he2]; exact hM)
 have hc:c.1.length=B+c2.1.length:=by rw[e1,aN,h7]
 refine⟨fun q=>?_,fun q=>?_⟩
 ·refine⟨done ++ [c],rest,AQ3,fun x hx=>?_,h2,fun x hx=>h3 x ARS,by simpa using e3,by simpa using e4⟩
  rcases lN.1 hx with hx | hx
  ·exact h1 x hx
  ·rw[aay.1 hx]; exact⟨e2,AQ2⟩
 ·have hr:Gm rest = []:=bY AQ2
  have hr2:KW rest = []:=by
   have:=MR rest fun x hx=>h3 x ARS
   rw[hr] at this
   exact bY this
  refine⟨done ++ [c],Szs.full (fun x hx=>(h1 x hx).2) (show c.1.length≤2*B from AQ2),fun x hx=>?_, ?_, ?_⟩
  ·rcases lN.1 hx with hx | hx
   ·exact(h1 x hx).1
   ·rw[aay.1 hx]; exact e2
  ·rw[e3,I9,I9,F6,F6,hr]; rfl
  ·rw[e4,MQ,MQ,JP,JP,hr2]; rfl
theorem Ph2.fin {B t:Nat} {d0 d:List Int} (h:Ph2 key B d0 t d) (hB:0<B) (hb:d0.length≤2*B*t+B):Blk key (2*B) d0 d:=by
 obtain⟨done,rest,rfl,h1,h2,h3,rfl,rfl⟩:=h
 have hl:=OD fun c hc=>(h1 c hc).2
 rw[I9,aN,hl] at hb
 have hn:(Gm rest).length≤B:=AQ2
 have q:=nZ h3 h2 hn hB
 refine⟨done ++ [(Gm rest,KW rest)],Szs.full (fun x hx=>(h1 x hx).2) (show (Gm rest).length≤2*B from AQ2),fun x hx=>?_, ?_, ?_⟩
 ·rcases lN.1 hx with hx | hx
  ·exact(h1 x hx).1
  ·rw[aay.1 hx]; exact q
 ·rw[I9,I9]; simp[Gm]
 ·rw[MQ,MQ]; simp[KW]
end phases
theorem Wv (key:Int→Int) (g:FuncId) (xs:List (List Cl)):∀ (n:Nat) (d:List Int) (a m b:Nat),b-a≤n→a<m→m<b→d.length≤1048576→Runs key a m b d→CmpOk prog g xs key d→AJz key g xs d a m b
 | 0,d,a,m,b,hn,h1,h2,_,_,_=>AQ2
 | n+1,d,a,m,b,hn,h1,h2,hl,hR,hg=>yE key d a m b h1 h2 hl hR g xs hg fun d' a' m' b' hlt h1' h2' hl' hR' hg'=>Wv key g xs n d' a' m' b' AQ2 h1' h2' hl' hR' hg'
theorem U2 (key:Int→Int) (d:List Int) (a m b:Nat) (h1:a<m) (h2:m<b) (hl:d.length≤1048576) (hR:Runs key a m b d) (g:FuncId) (xs:List (List Cl)) (hg:CmpOk prog g xs key d) :
  MCtr prog 342 false [.ow 3 1 (d.map intC)] [.c (.v (.int .i64 ((a:Int)))),.c (.v (.int .i64 ((m:Int)))),.c (.v (.int .i64 ((b:Int)))),.clo g xs] (fun cl' rs=>∃ d',cl' = [.ow 3 1 (d'.map intC)]∧rs = []∧Mrg key a b d d'):=Wv key g xs _ d a m b (aI _) h1 h2 hl hR hg
theorem yF (key:Int→Int) (d0:List Int) (hl:d0.length≤1048576) (hs:d0.Pairwise (· < ·)) (g:FuncId) (xs:List (List Cl)) (hg:CmpOk prog g xs key d0) :
  MCtr prog 277 false [.ow 3 1 (d0.map intC)] [.c (.v (.int .i64 ((d0.length:Int)))),.clo g xs] (fun cl' rs=>∃ d':List Int,cl' = [.ow 3 1 (d'.map intC)]∧rs = []∧d'.Perm d0∧d'.Pairwise (kl key)):=by
 refine ACf (fn:=f277) call277 func277 rfl mixed ntmps277 results277 (by kernel_rfl) rfl (.inr rfl) fun us hw0 hw=>?_
 simp only[go_sem]
 refine AAa 1 [0,1,2,6,7,8] (A:=Nat×List Int) (fun x=>⟨63,[(0,.pin (.c (.ref 0)) (mkV false us)),(1,.c (.v (.int .i64 ((d0.length:Int))))),(2,.clo g xs),(6,.c (.v (.int .i64 ((20:Int))))),(7,(.c (.v (.int .i64 ((20*x.1:Nat):Int))))),(8,(.c (.v (.int .i64 ((20*x.1+20:Nat):Int)))))],[⟨3,1,x.2.map intC,true,true⟩]⟩)
  (fun x=>Ph1 key d0 x.1 x.2∧20*x.1≤d0.length) (fun x=>d0.length-20*x.1) (0,d0) ⟨⟨rfl,AQ8⟩,rfl,Ph1.start d0,au _⟩ ?_
 rintro⟨t,d⟩ ⟨p1,p2⟩
 dsimp only at p1 p2
 have hld:d.length=d0.length:=p1.perm.length_eq
 have hgd:=hg.perm p1.perm
 have hsd:(d.drop (20*t)).Pairwise (· < ·):=by rw[p1.rest]; exact hs.sublist (List.drop_sublist _ _)
 refine AQx (fun h=>?_) fun h=>?_
 ·have hb:20*t+20≤d0.length:=by simp at h; omega
  have e1:IntKind.i64.wrap (((20*t+20:Nat):Int)+20)=((20*(t+1)+20:Nat):Int):=AQ7
  simp only[go_sem]
  refine ACg false (zs:=[.ref 0]) (Oe key d (20*t) (20*t+20) AQ2 AQ2 AQ2 hsd g xs hgd) rfl ⟨rfl,rfl,rfl,rfl,FW _,AQ3,trivial⟩ rfl (.inr rfl) fun cl' rs hM=>?_
  obtain⟨d',rfl,rfl,hM⟩:=hM
  refine⟨⟨rfl,⟨rfl,rfl⟩,trivial⟩, ?_⟩
  simp only[go_sem,e1]
  exact⟨(t+1,d'),⟨rfl,AQ8⟩,rfl,⟨p1.step hb hM,AQ4⟩,AQ4⟩
 ·have hb:d0.length<20*t+20:=by simp at h; omega
  simp only[go_sem]
  refine ACg false (zs:=[.ref 0]) (Oe key d (20*t) d0.length p2 AQ2 AQ2 hsd g xs hgd) rfl ⟨rfl,rfl,rfl,rfl,FW _,AQ3,trivial⟩ rfl (.inr rfl) fun cl' rs hM=>?_
  obtain⟨d',rfl,rfl,hM⟩:=hM
  refine⟨⟨rfl,⟨rfl,rfl⟩,trivial⟩, ?_⟩
  have p3:=p1.fin p2 hb hM
  clear hM p1 hgd hsd hld h p2 hb
  simp only[go_sem]
  refine AAa 1 [0,1,2,6] (A:=Nat×List Int) (fun x=>⟨63,[(0,.pin (.c (.ref 0)) (mkV false us)),(1,.c (.v (.int .i64 ((d0.length:Int))))),(2,.clo g xs),(6,.c (.v (.int .i64 ((x.1:Int)))))],[⟨3,1,x.2.map intC,true,true⟩]⟩)
   (fun x=>Blk key x.1 d0 x.2∧0<x.1∧x.1≤4194304) (fun x=>d0.length-x.1) (20,d') ⟨⟨rfl,AQ8⟩,rfl,p3,AQ3,AQ3⟩ ?_
  clear p3
  rintro⟨B,d⟩ ⟨p1,p2,p3⟩
  dsimp only at p1 p2 p3
  refine AQx (fun h=>?_) fun h=>?_
  ·have hB:B<d0.length:=by simpa using h
   have e1:IntKind.i64.wrap (2*(B:Int))=((2*B:Nat):Int):=AQ7
   have e2:IntKind.i64.wrap ((B:Int)*2)=((2*B:Nat):Int):=AQ7
   simp only[go_sem,e1]
   refine AAa 1 [0,1,2,6,7,8] (A:=Nat×List Int) (fun x=>⟨63,[(0,.pin (.c (.ref 0)) (mkV false us)),(1,.c (.v (.int .i64 ((d0.length:Int))))),(2,.clo g xs),(6,.c (.v (.int .i64 ((B:Int))))),(7,(.c (.v (.int .i64 ((2*B*x.1:Nat):Int))))),(8,(.c (.v (.int .i64 ((2*B*x.1+2*B:Nat):Int)))))],[⟨3,1,x.2.map intC,true,true⟩]⟩)
    (fun x=>Ph2 key B d0 x.1 x.2∧2*B*x.1≤d0.length) (fun x=>d0.length-2*B*x.1) (0,d) ⟨⟨rfl,AQ8⟩,by simp only[Nat.mul_zero,Ry]; rfl,p1.two,AQ3⟩ ?_
   rintro⟨t,d⟩ ⟨q1,q2⟩
   dsimp only at q1 q2
   have hld:d.length=d0.length:=q1.perm.length_eq
   have hgd:=hg.perm q1.perm
   have hlt:2*B*(t+1)=2*B*t+2*B:=by rw[Nat.mul_succ]
   have f0:=q1.next (e:=min (2*B*t+2*B) d0.length) hs
   have f1:=addN (x:=2*B*t) (y:=B) AQ2 AQ2
   refine AQx (fun h=>?_) fun h=>?_
   ·have hb:2*B*t+2*B≤d0.length:=by simp only[bC] at h; omega
    rw[dO hb] at f0
    obtain⟨r1,r2⟩:=f0 AQ2 (.inl ⟨rfl,hb⟩)
    have f2:IntKind.i64.wrap (((2*B*t+2*B:Nat):Int)+((2*B:Nat):Int))=((2*B*(t+1)+2*B:Nat):Int):=by rw[hlt,wrap_i64 AQ2 AQ2]; omega
    simp only[go_sem,f1,e1]
    refine ACg false (zs:=[.ref 0]) (U2 key d (2*B*t) (2*B*t+B) (2*B*t+2*B) AQ2 AQ2 AQ2 r1 g xs hgd) rfl ⟨rfl,rfl,rfl,rfl,FW _,AQ3,trivial⟩ rfl (.inr rfl) fun cl' rs hM=>?_
    obtain⟨d',rfl,rfl,hM⟩:=hM
    refine⟨⟨rfl,⟨rfl,rfl⟩,trivial⟩, ?_⟩
    simp only[go_sem,f2,e1]
    exact⟨(t+1,d'),⟨rfl,AQ8⟩,by simp only[hlt]; rfl,⟨(r2 d' hM).1 rfl,AQ4⟩,AQ4⟩
   ·have hb:¬ 2*B*t+2*B≤d0.length:=by simp only[aaD] at h; omega
    simp only[go_sem,f1]
    refine AAP (fun h2=>?_) (fun h2=>?_)
    ·have hb2:2*B*t+B<d0.length:=by simp only[bC] at h2; omega
     rw[Nat.min_eq_right AQ2] at f0
     obtain⟨r1,r2⟩:=f0 hb2 (.inr ⟨rfl,AQ2⟩)
     simp only[go_sem]
     refine ACg false (zs:=[.ref 0]) (U2 key d (2*B*t) (2*B*t+B) d0.length AQ2 hb2 AQ2 r1 g xs hgd) rfl ⟨rfl,rfl,rfl,rfl,FW _,AQ3,trivial⟩ rfl (.inr rfl) fun cl' rs hM=>?_
     obtain⟨d',rfl,rfl,hM⟩:=hM
     refine⟨⟨rfl,⟨rfl,rfl⟩,trivial⟩, ?_⟩
     simp only[go_sem,e2]
     exact⟨(2*B,d'),⟨rfl,AQ8⟩,rfl,⟨(r2 d' hM).2 rfl,AQ4,AQ4⟩,AQ4⟩
    ·have hb2:d0.length≤2*B*t+B:=by simp only[aaD] at h2; omega
     simp only[go_sem,e2]
     exact⟨(2*B,d),⟨rfl,AQ8⟩,rfl,⟨q1.fin p2 hb2,AQ4,AQ4⟩,AQ4⟩
  ·have hB:d0.length≤B:=by simpa using h
   simp only[go_sem]
   exact⟨[.ref 0],[.ow 3 1 _],[],rfl,.inr rfl,⟨rfl,rfl,rfl,rfl,FW _,AQ3,trivial⟩,by simp only[EP,Hr,aF]; exact Il fun x hx=>ARe,rfl,rfl,_,rfl,rfl,p1.perm,p1.all hB p2⟩
def JA (l:List DDeed) (n:Int):Int:=((l[n.toNat]?).map DDeed.lin).getD 0
theorem QD {l:List DDeed} {k:Nat} (h:k<l.length):JA l (k:Int)=l[k].lin:=by
 simp[JA,h]
def Og (l:List DDeed) (k:Nat):List Int:=((List.range k).filter fun(i:Nat)=>decide (JA l (i:Int)≠ -1)).map fun(i:Nat)=>(i:Int)
theorem Wx (l:List DDeed) (k:Nat):Og l (k+1)=Og l k++(if JA l (k:Int) = -1 then [] else [(k:Int)]):=by
 unfold Og
 rw[List.range_succ,List.filter_append,bQ]
 by_cases h:JA l (k:Int) = -1<;>simp[h]
theorem UQ {l:List DDeed} {k:Nat} {x:Int} (h:x∈Og l k):0≤x∧x<(k:Int):=by
 unfold Og at h
 obtain⟨i,hi,rfl⟩:=UT.1 h
 have:=abJ.1 (List.mem_filter.1 hi).1
 omega
theorem ry (l:List DDeed) (k:Nat):(Og l k).length≤k:=by
 unfold Og
 rw[ae]
 exact aba (aaJ _ _) AQ3
theorem AFv (l:List DDeed):∀ k,(Og l k).Pairwise (· < ·)
 | 0=>List.Pairwise.nil
 | k+1=>by
  rw[Wx,aa9]
  refine⟨AFv l k, ?_,fun x hx y hy=>?_⟩
  ·split<;>simp
  ·have:=UQ hx
   split at hy
   ·cases hy
   ·simp only[aay] at hy; omega
def Ordd (l:List DDeed) (k:Nat) (out:List Int):Prop:=out.Perm (Og l k)∧out.Pairwise (kl (JA l))
open Classical in
noncomputable def LC (l:List DDeed):List Int:=if h:∃ out,Ordd l l.length out then h.choose else []
theorem Ordd.eq {l:List DDeed} {out:List Int} (h:Ordd l l.length out):out=LC l:=by
 have hx:∃ out,Ordd l l.length out:=⟨out,h⟩
 have hc:=hx.choose_spec
 unfold LC
 rw[dif_pos hx]
 exact ACc h.2 hc.2 (h.1.trans hc.1.symm)
theorem Ordd.mem {l:List DDeed} {k:Nat} {out:List Int} (h:Ordd l k out) {x:Int} (hx:x∈out):0≤x∧x<(k:Int):=UQ (h.1.mem_iff.1 hx)
theorem Ordd.len {l:List DDeed} {k:Nat} {out:List Int} (h:Ordd l k out):out.length≤k:=by rw[h.1.length_eq]; exact ry l k
theorem Ordd.skip {l:List DDeed} {k:Nat} {out:List Int} (h:Ordd l k out) (hk:JA l (k:Int) = -1):Ordd l (k+1) out:=by
 unfold Ordd at *
 rw[Wx,bG hk,bK]
 exact h
theorem Ordd.ins {l:List DDeed} {k j:Nat} {out:List Int} (h:Ordd l k out) (hk:¬ JA l (k:Int) = -1) (hj:j≤out.length) (h1:j=0∨JA l (at0 out (j-1))≤JA l (k:Int)) (h2:∀ i,j≤i→i<out.length→JA l (k:Int)<JA l (at0 out i)):Ordd l (k+1) (out.take j++(k:Int)::out.drop j):=by
 have q:=AFq (key:=JA l) (out:=out) (i:=(k:Int)) (k:=j) h.2 (fun x hx=>(h.mem hx).2) hj h1 h2
 refine⟨?_,q.1⟩
 rw[Wx,bu hk]
 exact q.2.trans (List.Perm.append_right _ h.1)
theorem AIo {s:MS} (ls:List Nat) {st':List Ob} (h:U8 s.st ls=some st'):Head s ⟨s.n,s.env,st'⟩:=⟨rfl,fun w0 St0 St β a w hc=>by
 obtain⟨St',h'⟩:=XT ls s.st st' St hc h
 exact⟨St',β,h'⟩⟩
theorem ACd {s:MS} (l:Nat) {ob:Ob} (h:EH s.st l=some ob) (hp:Fv ob.xs=true):Head s ⟨s.n,s.env,Qu s.st l⟩:=AIo [l] (by simp only[U8,h,hp,bH])
theorem yG (l:List Int):Jq 1 (l.map intC)=true:=aS.2 fun r hr=>by
 exact APL
theorem iU (N ty:Nat) (d:List Int):Aq N ⟨ty,1,d.map intC,false,true⟩=true:=by
 simp only[Aq,AP intC.pure,Pv]
@[go_sem] theorem UR (l:List Int):Fv (l.map intC)=true:=AP intC.pure
theorem ACe (l:List Int):((l.map intC).all fun r=>r.length==1)=true:=aS.2 fun r hr=>by
 exact APL
theorem r_ (a b:List Int) (v:Int):(a++v::b).map intC=a.map intC ++ [[.v (.int .i64 v)]]++b.map intC:=by simp; rfl
theorem dN (a b:List Int) (v:Int):Fv (a.map intC ++ [[.v (.int .i64 v)]]++b.map intC)=true:=by rw[← r_]; exact AP intC.pure
theorem Sz (l:List DDeed) (hl:l.length≤1048576):Ctr prog 86 [.c (.sl (l.map DDeed.c))] [.val (.c (.sl ((LC l).map intC)))]:=by
 refine CM call86 func86 ntmps86 results86 fun hw=>?_
 simp only[go_sem]
 refine AAU [6] (A:=Nat×List Int) (fun x=>[(4,.c (.v (.int .i64 ((x.1:Int))))),(3,.c (.ref 0))]) (fun x=>[⟨3,1,x.2.map intC,false,true⟩]) (fun x=>x.1≤l.length∧Ordd l x.1 x.2) (fun x=>l.length-x.1) (0,[]) (Head.trans (AIo [0] rfl) (AAQ [(0,false)] ⟨rfl,rfl,rfl,trivial⟩ rfl)) ⟨au _,abI _,List.Pairwise.nil⟩ ?_
 rintro⟨k,out⟩ ⟨hk,hO⟩
 dsimp only at hk hO
 refine AQy (fun h=>?_) fun h=>?_
 ·have hk':k<l.length:=by simpa using h
  have hg:=QD hk'
  simp only[go_sem,ae,AA _ hk',hk']
  refine AAP (fun h=>?_) (fun h=>?_)
  ·have hL:JA l (k:Int) = -1:=by rw[hg]; simpa using h
   simp only[go_sem,wrap_i64 (n:=(k:Int)+1) AQ2 AQ2]
   exact⟨(k+1,out),AAQ [(0,false)] ⟨rfl,rfl,AP intC.pure,trivial⟩ rfl,⟨hk',hO.skip hL⟩,AQ4⟩
  ·have hL:¬ JA l (k:Int) = -1:=by rw[hg]; simpa using h
   have hol:=hO.len
   simp only[go_sem,ae]
   refine AAT 1 (A:=Nat) (fun x=>[(5,.c (.v (.int .i64 ((x:Int)))))]) (fun x=>[⟨3,1,out.map intC,false,true⟩]) (fun j=>j≤out.length∧∀ i,j≤i→i<out.length→JA l (k:Int)<JA l (at0 out i)) (fun j=>j) out.length ⟨⟨rfl,by simp only[cu,VY,aW,bn,aF,iU]⟩,rfl,aI _,fun i h1 h2=>AQ2⟩ ?_
   rintro j ⟨hj,hI⟩
   simp only[go_sem]
   have hfin:(j=0∨JA l (at0 out (j-1))≤JA l (k:Int))→Ordd l (k+1) (out.take j++(k:Int)::out.drop j):=fun h=>hO.ins hL hj h hI
   rcases g1:decide ((j:Int)>0) with _ | _
   ·have hj0:j=0:=by simp at g1; omega
    have hO2:=hfin (.inl hj0)
    clear hfin hI
    refine AAO ?_
    simp only[go_sem,g1]
    exact AHq
   ·have hj0:0<j:=by simp at g1; omega
    have lj:j-1<out.length:=AQ2
    obtain⟨n,hn⟩:∃ n:Nat,at0 out (j-1)=(n:Int):=⟨(at0 out (j-1)).toNat,by have:=hO.mem (at_mem lj); omega⟩
    have hnl:n<l.length:=by have:=hO.mem (at_mem lj); omega
    have gn:=QD hnl
    have e1:=Un (x:=j) (y:=1) AQ2 AQ2
    simp only[abm] at e1
    have t1:=I_ lj
    rw[hn] at t1
    refine AAO ?_
    simp only[go_sem,g1,e1,t1,lj,hnl,hk',ae,AA _ hnl,AA _ hk']
    refine AAP (fun h=>?_) (fun h=>?_)
    ·have hlt:l[k].lin<l[n].lin:=by simpa using h
     simp only[go_sem,e1]
     refine⟨j-1,⟨rfl,by simp only[cu,VY,aW,bn,aF,iU]⟩,rfl,⟨AQ2,fun i h1 h2=>?_⟩,AQ2⟩
     by_cases e:i=j-1
     ·rw[e,hn,hg,gn]; exact hlt
     ·exact hI i AQ2 h2
    ·have hlt:¬ l[k].lin<l[n].lin:=by simpa using h
     have hO2:=hfin (.inr (by rw[hn,hg,gn]; omega))
     clear hfin hI
     simp only[go_sem]
     exact AHq
 ·have hk':k=l.length:=by simp at h; omega
  subst hk'
  rw[← hO.eq]
  simp only[go_sem,FW]
  try simp
theorem Z8 (key:Int→Int) (d0:List Int) (hl:d0.length≤1048576) (hs:d0.Pairwise (· < ·)) (g:FuncId) (xs:List (List Cl)) (hg:CmpOk prog g xs key d0) :
  MCtr prog 174 false [.ow 3 1 (d0.map intC)] [.clo g xs] (fun cl' rs=>∃ d':List Int,cl' = [.ow 3 1 (d'.map intC)]∧rs = []∧d'.Perm d0∧d'.Pairwise (kl key)):=by
 refine ACf (fn:=f174) call174 func174 rfl mixed ntmps174 results174 (by kernel_rfl) rfl (.inr rfl) fun us hw0 hw=>?_
 simp only[go_sem,ae]
 refine ACg false (zs:=[.ref 0]) (yF key d0 hl hs g xs hg) rfl ⟨rfl,rfl,rfl,rfl,FW _,AQ3,trivial⟩ rfl (.inr rfl) fun cl' rs hM=>?_
 obtain⟨d',rfl,rfl,h1,h2⟩:=hM
 refine⟨⟨rfl,⟨rfl,rfl⟩,trivial⟩, ?_⟩
 simp only[go_sem]
 exact⟨[.ref 0],[.ow 3 1 _],[],rfl,.inr rfl,⟨rfl,rfl,rfl,rfl,FW _,AQ3,trivial⟩,by simp only[EP,Hr,aF]; exact Il fun x hx=>ARe,rfl,rfl,_,rfl,rfl,h1,h2⟩
theorem AEE (l:List DDeed):CmpOk prog 175 [[.sl (l.map DDeed.c)]] (JA l) (Og l l.length):=by
 intro x hx y hy
 obtain⟨i,hi⟩:∃ i:Nat,x=(i:Int):=⟨x.toNat,by have:=UQ hx; omega⟩
 obtain⟨k,hk⟩:∃ k:Nat,y=(k:Int):=⟨y.toNat,by have:=UQ hy; omega⟩
 subst hi; subst hk
 have h1:i<l.length:=by have:=UQ hx; omega
 have h2:k<l.length:=by have:=UQ hy; omega
 rw[QD h1,QD h2]
 exact yD l i k h1 h2
theorem S9 (l:List DDeed) (hl:l.length≤1048576):Ctr prog 91 [.c (.sl (l.map DDeed.c))] [.own 3 1 ((LC l).map intC) true]:=by
 refine CM call91 func91 ntmps91 results91 fun hw=>?_
 simp only[go_sem,ae]
 refine AAU [6] (A:=Nat) (fun x=>[(9,.c (.v (.int .i64 ((x:Int))))),(3,.c (.ref 1))]) (fun x=>[⟨44,1,[[.sl (l.map DDeed.c)]],true,true⟩,⟨3,1,(Og l x).map intC,true,true⟩]) (fun x=>x≤l.length) (fun x=>l.length-x) 0 (AAQ [(0,false),(1,false)] ⟨rfl,rfl,rfl,rfl,trivial⟩ rfl) (au _) ?_
 intro k hk
 refine AQy (fun h=>?_) fun h=>?_
 ·have hk':k<l.length:=by simpa using h
  have hg:=QD hk'
  have hil:=ry l k
  have hsu:=Wx l k
  have q1:(Og l k).length+1≤2147483648:=AQ2
  simp only[go_sem,ae,AA _ hk',hk']
  refine AAP (fun h=>?_) (fun h=>?_)
  ·have hL:¬ JA l (k:Int) = -1:=by rw[hg]; simpa using h
   rw[bu hL] at hsu
   simp only[go_sem,ak,aW,bn,G7,ae,q1,wrap_i64 (n:=(k:Int)+1) AQ2 AQ2]
   have e:(Og l k).map intC ++ [[Cl.v (.int .i64 (k:Int))]]=(Og l (k+1)).map intC:=by rw[hsu,bQ]; rfl
   rw[e]
   exact⟨k+1,AAQ [(0,false),(4,false)] ⟨rfl,rfl,rfl,UR _,trivial⟩ rfl,hk',AQ2⟩
  ·have hL:JA l (k:Int) = -1:=by rw[hg]; simpa using h
   rw[bG hL,bK] at hsu
   simp only[go_sem,wrap_i64 (n:=(k:Int)+1) AQ2 AQ2]
   exact⟨k+1,AAQ [(0,false),(1,false)] ⟨rfl,rfl,rfl,UR _,trivial⟩ (by rw[hsu]; rfl),hk',AQ2⟩
 ·have hk':k=l.length:=by simp at h; omega
  subst hk'
  have hp:Fv [[Cl.sl (l.map DDeed.c)]]=true:=rfl
  simp only[go_sem,FW,List.isEmpty_nil,hp]
  refine ACg false (zs:=[.ref 1]) (Z8 (JA l) (Og l l.length) (aba (ry l _) hl) (AFv l _) _ _ (AEE l)) rfl ⟨rfl,rfl,rfl,rfl,FW _,AQ3,trivial⟩ rfl (.inr rfl) fun cl' rs hM=>?_
  obtain⟨d',rfl,rfl,h1,h2⟩:=hM
  refine⟨⟨rfl,⟨rfl,rfl⟩,trivial⟩, ?_⟩
  have hO:Ordd l l.length d':=⟨h1,h2⟩
  rw[← hO.eq]
  simp only[go_sem,FW]
  try simp
@[go_sem] theorem AJ0 (l:List Int):Fv (l.map intC)=true:=AP intC.pure
theorem AFw {l:List DDeed} {x:Int} (h:x∈LC l):0≤x∧x<(l.length:Int):=by
 unfold LC at h
 split at h
 ·rename_i hx
  exact Ordd.mem hx.choose_spec h
 ·cases h
theorem iV (l:List DDeed):(LC l).length≤l.length:=by
 unfold LC
 split
 ·rename_i hx
  exact Ordd.len hx.choose_spec
 ·simp
noncomputable def lY (l:List DDeed) (k:Nat):List DDeed:=((LC l).take k).filterMap fun x=>l[x.toNat]?
noncomputable def S_ (l:List DDeed):List DDeed:=lY l (LC l).length
theorem iW (l:List DDeed) (k:Nat):(lY l k).length≤k:=by
 unfold lY
 exact aba (aaE _ _) AQ5
theorem ny {l:List DDeed} {k n:Nat} (hk:k<(LC l).length) (hn:n<l.length) (e:at0 (LC l) k=(n:Int)):lY l (k+1)=lY l k ++ [l[n]]:=by
 unfold lY
 rw[abR,List.filterMap_append,Qs hk,e]
 simp[hn]
theorem AFx {l:List DDeed} {k:Nat} {d:DDeed} (h:d∈lY l k):d∈l:=by
 unfold lY at h
 obtain⟨x,_,hx⟩:=List.mem_filterMap.1 h
 exact bI hx
theorem AIp {l:List DDeed} {k:Nat} (h:k<(LC l).length):∃ n:Nat,at0 (LC l) k=(n:Int)∧n<l.length:=by
 have:=AFw (at_mem h)
 exact⟨(at0 (LC l) k).toNat,AQ2,AQ2⟩
theorem iY {l:List DDeed} (hl:fitS C_ l):fitS C_ (S_ l):=⟨by
 have h1:=iW l (LC l).length
 have h2:=iV l
 have h3:=hl.1
 unfold S_
 omega,fun d hd=>hl.2 d (AFx hd)⟩
theorem lZ (w:DWorld) (hl:fitS C_ w.deeds):Ctr prog 168 [.agg w.c] [.own 162 25 ((S_ w.deeds).map DDeed.o) true]:=by
 refine CM call168 func168 ntmps168 results168 fun hw=>?_
 have hlen:=hl.1
 simp only[go_sem]
 refine CW (Sz w.deeds hlen) fun _=>?_
 simp only[go_sem,ae]
 refine AAU [10] (A:=Nat×List DDeed) (fun x=>[(5,.c (.v (.int .i64 (x.1)))),(4,.c (.ref 1))]) (fun x=>[⟨46,14,[w.c],true,true⟩,⟨162,25,x.2.map DDeed.o,true,true⟩]) (fun x=>x.1≤(LC w.deeds).length∧x.2=lY w.deeds x.1) (fun x=>(LC w.deeds).length-x.1) (0,[]) (AAQ [(0,false),(1,false)] ⟨rfl,rfl,rfl,rfl,trivial⟩ rfl) ⟨au _,rfl⟩ ?_
 rintro⟨k,out⟩ ⟨hk,hb⟩
 dsimp only at hk hb
 refine AQy (fun h=>?_) fun h=>?_
 ·have hk':k<(LC w.deeds).length:=by simpa using h
  obtain⟨n,e,hn⟩:=AIp hk'
  have hsu:=ny hk' hn e
  rw[← hb] at hsu
  have hr:=hl.2 _ (aj hn)
  have hll:=iV w.deeds
  have hol:=iW w.deeds k
  rw[← hb] at hol
  have hol2:out.length+1≤2147483648:=AQ2
  have t1:=I_ hk'
  rw[e] at t1
  simp only[go_sem,ae,t1,hk',AA _ hn,hn,ak]
  refine ACF 9 8 (by kernel_rfl) ?_
  simp only[go_sem,ae,t1,hk',AA _ hn,hn,ak]
  refine CZ (Nc w.deeds[n] hr) ?_
  simp only[go_sem,aW,bn,AA _ hn,hn,hk',t1,hol2,nrD,ay,ak,wrap_i64 (n:=(k:Int)+1) AQ2 AQ2]
  refine⟨(k+1,out ++ [w.deeds[n]]),ABP [(0,false),(8,true),(2,false),(3,true),(4,false),(5,true)] 2 1 ⟨rfl,rfl,rfl,FH DDeed.o_nr _ out rfl,AP DVal.pure,Bc (BC _),AJ0 _,Bc (AO _),trivial⟩ ⟨out.length,out.map DDeed.o ++ [DDeed.o w.deeds[n]],_,DDeed.o w.deeds[n],_,⟨bD 1,rfl,FD DDeed.o_nr _ out _ _,AQ3,rfl⟩,
   (by rw[DDeed.o_eq,DQuery.o_eq,DResult.o_eq,DPred.o_eq]; exact⟨rfl,rfl,rfl,rfl,rfl,rfl,rfl,rfl,BH _,ARF,rfl,rfl,rfl,rfl,rfl,rfl,rfl,rfl,rfl,rfl,rfl,rfl,rfl,rfl,rfl,rfl,rfl,rfl,BM (BC _),rfl,BC _,ARF,rfl,rfl,rfl,rfl,rfl,rfl,AX _,ARF,rfl,rfl,BM (AO _),rfl,AO _,ARF,rfl,rfl,rfl,rfl,rfl,rfl,rfl,rfl,rfl,rfl,rfl,rfl,rfl,rfl,rfl,rfl,rfl,rfl,rfl,rfl,fun l hl=>ARA⟩),⟨rfl, ?tr⟩, ?eq⟩,⟨hk',hsu.symm⟩,AQ4⟩
  case tr=>unfold Am; rw[Ae]; exact all2 rfl (AU (IJ _))
  case eq=>unfold Am; rw[Ae,bQ]; rfl
 ·have hk':k=(LC w.deeds).length:=by simp at h; omega
  subst hk'
  have:out=S_ w.deeds:=hb
  subst this
  simp only[go_sem,IJ]
  try simp
end Go.Proofs.YthmifbbmgnhddaaGreat
