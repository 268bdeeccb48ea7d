/- A part. -/
import Derived.Test.YtgkmefoghbjfnaaGreatSq
import Derived.Test.YtgkmefoghbjfnaaGreatSo
set_option linter.unusedSimpArgs false
set_option linter.unusedVariables false
set_option maxHeartbeats 4000000
set_option maxRecDepth 10000
open Go.Proofs.Tryz
namespace Go.Proofs.YtgkmefoghbjfnaaGreat
open Go.Vm
theorem mG {d:List Int} {a m b k:Nat} (h1:a≤m) (h2:m≤b) (h3:b≤d.length) (hk:k<a):at0 (Dn d a m b) k=at0 d k:=by
 obtain⟨P,A,B,S,rfl,hP,hA,hB⟩:=Gw h1 h2 h3
 rw[DZ hP (by omega) (by omega),D_ (by omega),D_ (by omega)]
theorem mJ {d:List Int} {a m b k:Nat} (h1:a≤m) (h2:m≤b) (h3:b≤d.length) (hk:b≤k):at0 (Dn d a m b) k=at0 d k:=by
 obtain⟨P,A,B,S,rfl,hP,hA,hB⟩:=Gw h1 h2 h3
 rw[DZ hP (by omega) (by omega),BA (by omega),BA (by omega),BA (by omega),BA (by omega),BA (by omega),BA (by omega)]
 congr 1; omega
theorem mM {d:List Int} {a b:Nat} (h1:a<b) (h2:b≤d.length):at0 (Dn d a (a+1) b) (b-1)=at0 d a:=by
 obtain⟨P,A,B,S,rfl,hP,hA,hB⟩:=Gw (d:=d) (a:=a) (m:=a+1) (b:=b) (by omega) (by omega) h2
 obtain⟨x,rfl⟩:∃ x,A = [x]:=xM.1 (by omega)
 have l:at0 (P++(B++([x]++S))) (b-1)=x:=by
  rw[BA (by omega),BA (by omega),show b-1-P.length-B.length=0 by omega]; rfl
 have r:at0 (P++([x]++(B++S))) a=x:=by
  rw[BA (by omega),show a-P.length=0 by omega]; rfl
 rw[DZ hP (by simp) (by omega),l,r]
theorem mO {d:List Int} {a m:Nat} (h1:a≤m) (h2:m<d.length):at0 (Dn d a m (m+1)) a=at0 d m:=by
 obtain⟨P,A,B,S,rfl,hP,hA,hB⟩:=Gw (d:=d) (a:=a) (m:=m) (b:=m+1) h1 (by omega) (by omega)
 obtain⟨x,rfl⟩:∃ x,B = [x]:=xM.1 (by omega)
 have l:at0 (P++([x]++(A++S))) a=x:=by
  rw[BA (by omega),show a-P.length=0 by omega]; rfl
 have r:at0 (P++(A++([x]++S))) m=x:=by
  rw[BA (by omega),BA (by omega),show m-P.length-A.length=0 by omega]; rfl
 rw[DZ hP (by omega) (by simp),l,r]
theorem eQ {key:Int→Int} {a b i:Nat} {d:List Int} (h:Runs key a (a+1) b d) (h1:a+1≤i) (h2:i≤b) (h3:i=a+1∨kl key (at0 d (i-1)) (at0 d a)) (h4:i=b∨kl key (at0 d a) (at0 d i)):Mrg key a b d (Dn d a (a+1) i):=by
 have hl:=h.len
 obtain⟨r1,r2⟩:=Ri (s:=a) (e:=i) h (aQ _) (by omega) h1 h2 (fun h _=>by omega) (fun _ h=>by rcases h3 with h3 | h3<;>first | omega | exact h3)
 obtain⟨r3,r4⟩:=r2 _ (r1.one (.inl rfl))
 refine r4 _ (r3.ready fun _ hib=>?_)
 rw[mJ (by omega) (by omega) (by omega) (aQ _),mM (by omega) (by omega)]
 rcases h4 with h4 | h4
 ·omega
 ·exact h4
theorem Yg {key:Int→Int} {a m i:Nat} {d:List Int} (h:Runs key a m (m+1) d) (h1:a≤i) (h2:i≤m) (h3:i=a∨kl key (at0 d (i-1)) (at0 d m)) (h4:i=m∨kl key (at0 d m) (at0 d i)):Mrg key a (m+1) d (Dn d i m (m+1)):=by
 have hl:=h.len
 obtain⟨r1,r2⟩:=Ri (s:=i) (e:=m+1) h h1 h2 (by omega) (aQ _) (fun _ h=>by omega) (fun h _=>by rcases h4 with h4 | h4<;>first | omega | exact h4)
 have r5:=r1.ready (fun hai _=>by
  rw[mG (by omega) (by omega) (by omega) (by omega),mO h2 (by omega)]
  rcases h3 with h3 | h3
  ·omega
  ·exact h3)
 obtain⟨r3,r4⟩:=r2 _ r5
 exact r4 _ (r3.one (.inr rfl))
theorem QN:((1:Int)<0)=False:=by simp
theorem jP {n:Nat} (h:n≤1048576000):IntKind.u64.wrap (n:Int)=n:=LC (by simp[Lit.wf,IntKind.min,IntKind.max,IntKind.signed,IntKind.bits]; omega)
theorem eU {d:List Int} {a m b:Nat} (h1:a≤m) (h2:m≤b) (h3:b≤d.length):(Dn d a m b).Perm d:=by
 obtain⟨P,A,B,S,rfl,hP,hA,hB⟩:=Gw h1 h2 h3
 rw[DZ hP (by omega) (by omega)]
 refine List.Perm.append_left P ?_
 rw[← aY,← aY]
 exact qh S List.perm_append_comm
theorem U2 (n:Nat) (h:n≤1048576000):IntKind.u64.wrap ((IntKind.u64.wrap (n:Int)).fdiv (2 ^ min (Int.toNat 1) 64))=((n/2:Nat):Int):=by
 rw[jP h]
 have:(n:Int).fdiv (2 ^ min (Int.toNat 1) 64)=((n/2:Nat):Int):=by
  show (n:Int).fdiv 2=_
  rw[Int.fdiv_eq_ediv_of_nonneg _ (by omega)]
  omega
 rw[this,jP (by omega)]
theorem U3 (n:Nat) (h:n≤1048576000):IntKind.i64.wrap ((n/2:Nat):Int)=((n/2:Nat):Int):=wrap_i64 (by omega) (by omega)
def qV (key:Int→Int) (g:FuncId) (xs:List (List Cl)) (d:List Int) (a m b:Nat):Prop:=
 MCtr prog 141 false [.ow 3 1 (d.map intC)] [.c (.v (.int .i64 ((a:Int)))),.c (.v (.int .i64 ((m:Int)))),.c (.v (.int .i64 ((b:Int)))),.clo g xs] (fun cl' rs=>∃ d',cl' = [.ow 3 1 (d'.map intC)]∧rs = []∧Mrg key a b d d')
theorem XM (key:Int→Int) (d:List Int) (a m b:Nat) (h1:a<m) (h2:m<b) (hl:d.length≤1048576) (hR:Runs key a m b d) (g:FuncId) (xs:List (List Cl)) (hg:CmpOk prog g xs key d)
  (ih:∀ (d':List Int) (a' m' b':Nat),b'-a'<b-a→a'<m'→m'<b'→d'.length≤1048576→Runs key a' m' b' d'→CmpOk prog g xs key d'→qV key g xs d' a' m' b'):qV key g xs d a m b:=by
 have hb:=hR.len
 refine MCtr.mk (fn:=f141) call141 func141 rfl mixed ntmps141 results141 (by kernel_rfl) rfl (.inr rfl) fun us hw0 hw=>?_
 have e1:=LM (x:=m) (y:=a) (by omega) (by omega)
 have e2:=LM (x:=b) (y:=m) (by omega) (by omega)
 rcases c1:(((m-a:Nat):Int)==1) with _ | _
 rotate_left
 ·have hm:m=a+1:=by simp at c1; omega
  subst hm
  simp only[go_sem,e1,c1]
  refine LoopK.mk 1 [0,1,4,10,11] (A:=Nat×Nat) (fun x=>⟨220,[(0,.pin (.c (.ref 0)) (mkV false us)),(1,.c (.v (.int .i64 ((a:Int))))),(4,.clo g xs),(10,.c (.v (.int .i64 ((x.1:Int))))),(11,.c (.v (.int .i64 ((x.2:Int)))))],[⟨3,1,d.map intC,true,true⟩]⟩)
   (fun x=>a+1≤x.1∧x.1≤x.2∧x.2≤b∧(x.1=a+1∨kl key (at0 d (x.1-1)) (at0 d a))∧(x.2=b∨kl key (at0 d a) (at0 d x.2))) (fun x=>x.2-x.1) (a+1,b) ⟨⟨rfl,by simp only[bf,bG,aS,aZ,aH,Ai]⟩,rfl,aQ _,by simp only; omega,aQ _,.inl rfl,.inl rfl⟩ ?_
  rintro⟨i,j⟩ ⟨p1,p2,p3,p4,p5⟩
  dsimp only at p1 p2 p3 p4 p5
  simp only[go_sem]
  refine cndC.mk (fun h=>?_) (fun h=>?_)
  ·have hij:i<j:=by simp at h; omega
   have e3:=addN (x:=i) (y:=j) (by omega) (by omega)
   have e4:=U2 (i+j) (by omega)
   have e5:=U3 (i+j) (by omega)
   have ht:(i+j)/2<d.length:=by omega
   have ha:a<d.length:=by omega
   have t1:=EZ ht
   have t2:=EZ ha
   generalize hh:(i+j)/2=h0 at e4 e5 ht t1
   simp only[go_sem,e3,e4,e5,QN,ay]
   refine DrawK.mk ?_
   simp only[go_sem,t1,t2,ht,ha,ae]
   refine CY (hg (at0 d h0) (at_mem ht) (at0 d a) (at_mem ha)) ?_
   simp only[go_sem,Nu]
   refine cndC.mk (fun h=>?_) (fun h=>?_)
   ·have hk:key (at0 d h0)<key (at0 d a):=by simpa using h
    simp only[go_sem,wrap_i64 (n:=(h0:Int)+1) (by omega) (by omega)]
    exact⟨(h0+1,j),⟨rfl,by simp only[bf,bG,aS,aZ,aH,Ai]⟩,rfl,⟨by simp only; omega,by simp only; omega,p3,.inr (.inl hk),p5⟩,by simp only; omega⟩
   ·have hk:¬ key (at0 d h0)<key (at0 d a):=by simpa using h
    simp only[go_sem]
    exact⟨(i,h0),⟨rfl,by simp only[bf,bG,aS,aZ,aH,Ai]⟩,rfl,⟨p1,by simp only; omega,by simp only; omega,p4,.inr (U0 hR (by omega) (by omega) (by omega) (by omega) hk)⟩,by simp only; omega⟩
  ·have hij:i=j:=by simp at h; omega
   subst hij
   have e3:=LM (x:=i) (y:=1) (by omega) (by omega)
   simp only[mf] at e3
   simp only[go_sem]
   refine LoopK.mk 1 [0,10,13] (A:=Nat) (fun k=>⟨220,[(0,.pin (.c (.ref 0)) (mkV false us)),(10,.c (.v (.int .i64 ((i:Int))))),(13,.c (.v (.int .i64 ((k:Int)))))],[⟨3,1,(Dn d a (a+1) (k+1)).map intC,true,true⟩]⟩)
    (fun k=>a≤k∧k≤i-1) (fun k=>i-k) a ⟨⟨rfl,by simp only[bf,bG,aS,aZ,aH,Ai]⟩,by rw[XJ (by omega) (by omega)]; rfl,aQ _,by omega⟩ ?_
   intro k hk
   simp only[go_sem,e3]
   refine cndC.mk (fun h=>?_) (fun h=>?_)
   ·have hki:k<i-1:=by simpa using h
    have hyl:=XI (d:=d) (a:=a) (m:=a+1) (b:=k+1) (by omega) (by omega) (by omega)
    have hst:=qR (d:=d) (a:=a) (k:=k) (by omega) (by omega)
    generalize Dn d a (a+1) (k+1)=ys at hyl hst
    have ea:=addN (x:=k) (y:=1) (by omega) (by omega)
    simp only[mf] at ea
    have la:k<ys.length:=by omega
    have lb:k+1<ys.length:=by omega
    have f1:=EZ la
    have f2:=EZ lb
    simp only[go_sem,ea,f1,f2,la,lb,ae]
    refine DrawK.mkE ?_
    have f3:((ys.set k (at0 ys (k+1))).map intC)[k+1]?=some [.v (.int .i64 (at0 ys (k+1)))]:=by
     rw[cZ,bK,Eh (by omega),IY lb]; rfl
    simp only[go_sem,ea,f1,f2,f3,la,lb,ae,QM,bu]
    refine⟨k+1,⟨rfl,by simp only[bf,bG,aS,aZ,aH,Ai]⟩, ?_,⟨by omega,by omega⟩,by omega⟩
    rw[← hst]
    rfl
   ·have hki:k=i-1:=by simp at h; omega
    subst hki
    simp only[go_sem]
    have hM:=eQ hR p1 p3 p4 p5
    rw[show i-1+1=i by omega]
    exact⟨[.ref 0],[.ow 3 1 _],[],rfl,.inr rfl,⟨rfl,rfl,rfl,rfl,C9 _,by simp,trivial⟩,by simp only[CQ,D5,aH]; exact EN fun x hx=>by obtain⟨y,_,rfl⟩:=cO.1 hx; rfl,rfl,rfl,_,rfl,rfl,hM⟩
 rcases c2:(((b-m:Nat):Int)==1) with _ | _
 rotate_left
 ·have hm:b=m+1:=by simp at c2; omega
  subst hm
  simp only[go_sem,e1,e2,c1,c2]
  refine LoopK.mk 1 [0,1,2,4,14,15] (A:=Nat×Nat) (fun x=>⟨220,[(0,.pin (.c (.ref 0)) (mkV false us)),(1,.c (.v (.int .i64 ((a:Int))))),(2,.c (.v (.int .i64 ((m:Int))))),(4,.clo g xs),(14,.c (.v (.int .i64 ((x.1:Int))))),(15,.c (.v (.int .i64 ((x.2:Int)))))],[⟨3,1,d.map intC,true,true⟩]⟩)
   (fun x=>a≤x.1∧x.1≤x.2∧x.2≤m∧(x.1=a∨kl key (at0 d (x.1-1)) (at0 d m))∧(x.2=m∨kl key (at0 d m) (at0 d x.2))) (fun x=>x.2-x.1) (a,m) ⟨⟨rfl,by simp only[bf,bG,aS,aZ,aH,Ai]⟩,rfl,aQ _,by simp only; omega,aQ _,.inl rfl,.inl rfl⟩ ?_
  rintro⟨i,j⟩ ⟨p1,p2,p3,p4,p5⟩
  dsimp only at p1 p2 p3 p4 p5
  simp only[go_sem]
  refine cndC.mk (fun h=>?_) (fun h=>?_)
  ·have hij:i<j:=by simp at h; omega
   have e3:=addN (x:=i) (y:=j) (by omega) (by omega)
   have e4:=U2 (i+j) (by omega)
   have e5:=U3 (i+j) (by omega)
   have ht:(i+j)/2<d.length:=by omega
   have ha:m<d.length:=by omega
   have t1:=EZ ht
   have t2:=EZ ha
   generalize hh:(i+j)/2=h0 at e4 e5 ht t1
   simp only[go_sem,e3,e4,e5,QN,ay]
   refine DrawK.mk ?_
   simp only[go_sem,t1,t2,ht,ha,ae]
   refine CY (hg (at0 d m) (at_mem ha) (at0 d h0) (at_mem ht)) ?_
   simp only[go_sem,Nu]
   refine cndC.mk (fun h=>?_) (fun h=>?_)
   ·have hk:¬ key (at0 d m)<key (at0 d h0):=by simpa using h
    simp only[go_sem,wrap_i64 (n:=(h0:Int)+1) (by omega) (by omega)]
    exact⟨(h0+1,j),⟨rfl,by simp only[bf,bG,aS,aZ,aH,Ai]⟩,rfl,⟨by simp only; omega,by simp only; omega,p3,.inr (U0 hR (by omega) (by omega) (by omega) (by omega) hk),p5⟩,by simp only; omega⟩
   ·have hk:key (at0 d m)<key (at0 d h0):=by simpa using h
    simp only[go_sem]
    exact⟨(i,h0),⟨rfl,by simp only[bf,bG,aS,aZ,aH,Ai]⟩,rfl,⟨p1,by simp only; omega,by simp only; omega,p4,.inr (.inl hk)⟩,by simp only; omega⟩
  ·have hij:i=j:=by simp at h; omega
   subst hij
   simp only[go_sem]
   refine LoopK.mk 1 [0,14,17] (A:=Nat) (fun k=>⟨220,[(0,.pin (.c (.ref 0)) (mkV false us)),(14,.c (.v (.int .i64 ((i:Int))))),(17,.c (.v (.int .i64 ((k:Int)))))],[⟨3,1,(Dn d k m (m+1)).map intC,true,true⟩]⟩)
    (fun k=>i≤k∧k≤m) (fun k=>k) m ⟨⟨rfl,by simp only[bf,bG,aS,aZ,aH,Ai]⟩,by rw[TS (by omega) (by omega)]; rfl,by omega,aQ _⟩ ?_
   intro k hk
   simp only[go_sem]
   refine cndC.mk (fun h=>?_) (fun h=>?_)
   ·have hki:i<k:=by simpa using h
    have hyl:=XI (d:=d) (a:=k) (m:=m) (b:=m+1) (by omega) (by omega) (by omega)
    have hst:=jL (d:=d) (m:=m) (k:=k) (by omega) (by omega) (by omega)
    generalize Dn d k m (m+1)=ys at hyl hst
    have ea:=LM (x:=k) (y:=1) (by omega) (by omega)
    simp only[mf] at ea
    have la:k<ys.length:=by omega
    have lb:k-1<ys.length:=by omega
    have f1:=EZ la
    have f2:=EZ lb
    simp only[go_sem,ea,f1,f2,la,lb,ae]
    refine DrawK.mkE ?_
    have f3:((ys.set k (at0 ys (k-1))).map intC)[k-1]?=some [.v (.int .i64 (at0 ys (k-1)))]:=by
     rw[cZ,bK,Eh (by omega),IY lb]; rfl
    simp only[go_sem,ea,f1,f2,f3,la,lb,ae,QM,bu]
    refine⟨k-1,⟨rfl,by simp only[bf,bG,aS,aZ,aH,Ai]⟩, ?_,⟨by omega,by omega⟩,by omega⟩
    rw[← hst]
    rfl
   ·have hki:k=i:=by simp at h; omega
    subst hki
    simp only[go_sem]
    have hM:=Yg hR p1 p3 p4 p5
    exact⟨[.ref 0],[.ow 3 1 _],[],rfl,.inr rfl,⟨rfl,rfl,rfl,rfl,C9 _,by simp,trivial⟩,by simp only[CQ,D5,aH]; exact EN fun x hx=>by obtain⟨y,_,rfl⟩:=cO.1 hx; rfl,rfl,rfl,_,rfl,rfl,hM⟩
 have e4:=U2 (a+b) (by omega)
 have e5:=U3 (a+b) (by omega)
 have hq1:a<(a+b)/2:=by omega
 have hq2:(a+b)/2<b:=by omega
 have e3:=addN (x:=a) (y:=b) (by omega) (by omega)
 have e6:=addN (x:=(a+b)/2) (y:=m) (by omega) (by omega)
 have hq3:a+b≤2*((a+b)/2)+1∧2*((a+b)/2)≤a+b:=by omega
 generalize hh:(a+b)/2=h0 at e4 e5 e6 hq1 hq2 hq3
 simp only[go_sem,e1,e2,c1,c2,e3,e4,e5,e6,QN,ay]
 have e8:=LM (x:=h0+m) (y:=1) (by omega) (by omega)
 simp only[mf] at e8
 refine cndC.mk (fun h=>?_) (fun h=>?_)
 have hmh:h0<m:=by simpa using h
 have e7:=LM (x:=h0+m) (y:=b) (by omega) (by omega)
 simp only[go_sem,e7,e8]
 obtain⟨lo,hlo⟩:∃ lo,lo=h0+m-b:=⟨_,rfl⟩
 obtain⟨hi,hhi⟩:∃ hi,hi=h0:=⟨_,rfl⟩
 have F:lo≤hi∧hi≤m∧hi≤h0∧a≤lo∧h0+m≤lo+b∧(lo=a∨h0+m=lo+b)∧(hi=m∨hi=h0):=by omega
 clear h hmh
 rotate_left
 have hmh:¬ h0<m:=by simpa using h
 simp only[go_sem,e8]
 obtain⟨lo,hlo⟩:∃ lo,lo=a:=⟨_,rfl⟩
 obtain⟨hi,hhi⟩:∃ hi,hi=m:=⟨_,rfl⟩
 have F:lo≤hi∧hi≤m∧hi≤h0∧a≤lo∧h0+m≤lo+b∧(lo=a∨h0+m=lo+b)∧(hi=m∨hi=h0):=by omega
 clear h hmh
 rotate_left
 all_goals
  refine LoopK.mk 1 [0,1,2,3,4,18,19,20,21,22] (A:=Nat×Nat) (fun x=>⟨220,[(0,.pin (.c (.ref 0)) (mkV false us)),(1,.c (.v (.int .i64 ((a:Int))))),(2,.c (.v (.int .i64 ((m:Int))))),(3,.c (.v (.int .i64 ((b:Int))))),(4,.clo g xs),(18,.c (.v (.int .i64 ((h0:Int))))),(19,(.c (.v (.int .i64 ((h0+m:Nat):Int))))),(20,.c (.v (.int .i64 ((x.1:Int))))),(21,.c (.v (.int .i64 ((x.2:Int))))),(22,(.c (.v (.int .i64 ((h0+m-1:Nat):Int)))))],[⟨3,1,d.map intC,true,true⟩]⟩)
   (fun x=>yB key d (h0+m-1) lo hi x.1 x.2) (fun x=>x.2-x.1) (lo,hi) (by subst hlo; subst hhi; exact⟨⟨rfl,by simp only[bf,bG,aS,aZ,aH,Ai]⟩,rfl,aQ _,F.1,aQ _,.inl rfl,.inl rfl⟩) ?_
  rintro⟨i,j⟩ ⟨p1,p2,p3,p4,p5⟩
  dsimp only at p1 p2 p3 p4 p5
  simp only[go_sem]
  refine cndC.mk (fun h=>?_) (fun h=>?_)
  ·have hij:i<j:=by simp at h; omega
   have f3:=addN (x:=i) (y:=j) (by omega) (by omega)
   have f4:=U2 (i+j) (by omega)
   have f5:=U3 (i+j) (by omega)
   have ht:(i+j)/2<d.length:=by omega
   have ha:h0+m-1-(i+j)/2<d.length:=by omega
   have f6:=LM (x:=h0+m-1) (y:=(i+j)/2) (by omega) (by omega)
   have t1:=EZ ht
   have t2:=EZ ha
   have g1:i≤(i+j)/2∧(i+j)/2<j:=by omega
   generalize hh2:(i+j)/2=c0 at f4 f5 f6 ht ha t1 t2 g1
   simp only[go_sem,f3,f4,f5,QN,ay]
   refine DrawK.mk ?_
   simp only[go_sem,t1,t2,ht,ha,f6,ae]
   refine CY (hg (at0 d (h0+m-1-c0)) (at_mem ha) (at0 d c0) (at_mem ht)) ?_
   simp only[go_sem,Nu]
   refine cndC.mk (fun h=>?_) (fun h=>?_)
   ·have hk:¬ key (at0 d (h0+m-1-c0))<key (at0 d c0):=by simpa using h
    simp only[go_sem,wrap_i64 (n:=(c0:Int)+1) (by omega) (by omega)]
    exact⟨(c0+1,j),⟨rfl,by simp only[bf,bG,aS,aZ,aH,Ai]⟩,rfl,⟨by simp only; omega,by simp only; omega,p3,.inr (U0 hR (by omega) (by omega) (by omega) (by omega) hk),p5⟩,by simp only; omega⟩
   ·have hk:key (at0 d (h0+m-1-c0))<key (at0 d c0):=by simpa using h
    simp only[go_sem]
    exact⟨(i,c0),⟨rfl,by simp only[bf,bG,aS,aZ,aH,Ai]⟩,rfl,⟨p1,by simp only; omega,by simp only; omega,p4,.inr (.inl hk)⟩,by simp only; omega⟩
  ·have hij:i=j:=by simp at h; omega
   subst hij
   have f3:=LM (x:=h0+m) (y:=i) (by omega) (by omega)
   obtain⟨s1,s2⟩:=Ri (s:=i) (e:=h0+m-i) hR (by omega) (by omega) (by omega) (by omega) (fun u v=>by
    rcases p4 with p4 | p4
    ·omega
    ·rwa [show h0+m-1-(i-1)=h0+m-i by omega] at p4) (fun u v=>by
    rcases p5 with p5 | p5
    ·omega
    ·rwa [show h0+m-1-i=h0+m-i-1 by omega] at p5)
   rw[show i+(h0+m-i-m)=h0 by omega] at s1 s2
   simp only[go_sem,f3]
   generalize Mrg key a b d=Q at s2 ⊢
   have hT:(i<m∧m<h0+m-i)∨m≤i∨(i<m∧h0+m-i≤m):=by omega
   rcases hT with ⟨u1,u2⟩ | u1 | ⟨u1,u2⟩
   have g1:decide ((i:Int)<(m:Int))=true:=by simp; omega
   have g2:decide ((m:Int)<((h0+m-i:Nat):Int))=true:=by simp; omega
   simp only[go_sem,g1,g2]
   refine MutK.mk false (zs:=[.ref 0]) (XK d i m (h0+m-i) u1 u2 (by omega) hl g xs) rfl ⟨rfl,rfl,rfl,rfl,C9 _,by simp,trivial⟩ rfl (.inr rfl) fun cl' rs hM=>?_
   obtain⟨rfl,rfl⟩:=hM
   refine⟨⟨rfl,⟨rfl,rfl⟩,trivial⟩, ?_⟩
   have hP:(Dn d i m (h0+m-i)).Perm d:=eU (by omega) (by omega) (by omega)
   have hgD:=hg.perm hP
   have lD:=hP.length_eq
   rw[← lD] at hl hb
   generalize Dn d i m (h0+m-i)=D at s1 s2 hgD hl hb ⊢
   rotate_left
   have g1:decide ((i:Int)<(m:Int))=false:=by simp; omega
   have hE:Dn d i m (h0+m-i)=d:=by rw[show i=m by omega]; exact TS (by omega) (by omega)
   rw[hE] at s1 s2
   simp only[go_sem,g1]
   have hgD:=hg
   generalize d=D at s1 s2 hgD hl hb ⊢
   rotate_left
   have g1:decide ((i:Int)<(m:Int))=true:=by simp; omega
   have g2:decide ((m:Int)<((h0+m-i:Nat):Int))=false:=by simp; omega
   have hE:Dn d i m (h0+m-i)=d:=by rw[show h0+m-i=m by omega]; exact XJ (by omega) (by omega)
   rw[hE] at s1 s2
   simp only[go_sem,g1,g2]
   have hgD:=hg
   generalize d=D at s1 s2 hgD hl hb ⊢
   rotate_left
   all_goals
    have hT:(a<i∧i<h0)∨i=a∨(a<i∧i=h0):=by omega
    rcases hT with ⟨v1,v2⟩ | v1 | ⟨v1,v2⟩
    have g1:decide ((a:Int)<(i:Int))=true:=by simp; omega
    have g2:decide ((i:Int)<(h0:Int))=true:=by simp; omega
    simp only[go_sem,g1,g2]
    refine MutK.mk false (zs:=[.ref 0]) (ih D a i h0 (by omega) v1 v2 hl s1 hgD) rfl ⟨rfl,rfl,rfl,rfl,C9 _,by simp,trivial⟩ rfl (.inr rfl) fun cl' rs hM=>?_
    obtain⟨D2,rfl,rfl,hM⟩:=hM
    refine⟨⟨rfl,⟨rfl,rfl⟩,trivial⟩, ?_⟩
    obtain⟨r1,r2⟩:=s2 D2 hM
    replace hgD:=hgD.perm hM.perm
    rw[← hM.len] at hl hb
    rotate_left
    have g1:decide ((a:Int)<(i:Int))=false:=by simp; omega
    simp only[go_sem,g1]
    obtain⟨r1,r2⟩:=s2 D (s1.one (.inl (Eq.symm v1)))
    generalize D=D2 at r1 r2 hgD hl hb ⊢
    rotate_left
    have g1:decide ((a:Int)<(i:Int))=true:=by simp; omega
    have g2:decide ((i:Int)<(h0:Int))=false:=by simp; omega
    simp only[go_sem,g1,g2]
    obtain⟨r1,r2⟩:=s2 D (s1.one (.inr v2))
    generalize D=D2 at r1 r2 hgD hl hb ⊢
    rotate_left
    all_goals
     have hT:(h0<h0+m-i∧h0+m-i<b)∨h0=h0+m-i∨(h0<h0+m-i∧h0+m-i=b):=by omega
     rcases hT with ⟨w1,w2⟩ | w1 | ⟨w1,w2⟩
     ·have g1:decide ((h0:Int)<((h0+m-i:Nat):Int))=true:=by simp; omega
      have g2:decide (((h0+m-i:Nat):Int)<(b:Int))=true:=by simp; omega
      simp only[go_sem,g1,g2]
      refine MutK.mk false (zs:=[.ref 0]) (ih D2 h0 (h0+m-i) b (by omega) w1 w2 hl r1 hgD) rfl ⟨rfl,rfl,rfl,rfl,C9 _,by simp,trivial⟩ rfl (.inr rfl) fun cl' rs hM=>?_
      obtain⟨D3,rfl,rfl,hM⟩:=hM
      refine⟨⟨rfl,⟨rfl,rfl⟩,trivial⟩, ?_⟩
      simp only[go_sem]
      exact⟨[.ref 0],[.ow 3 1 _],[],rfl,.inr rfl,⟨rfl,rfl,rfl,rfl,C9 _,by simp,trivial⟩,by simp only[CQ,D5,aH]; exact EN fun x hx=>by obtain⟨y,_,rfl⟩:=cO.1 hx; rfl,rfl,rfl,_,rfl,rfl,r2 D3 hM⟩
     ·have g1:decide ((h0:Int)<((h0+m-i:Nat):Int))=false:=by simp; omega
      simp only[go_sem,g1]
      exact⟨[.ref 0],[.ow 3 1 _],[],rfl,.inr rfl,⟨rfl,rfl,rfl,rfl,C9 _,by simp,trivial⟩,by simp only[CQ,D5,aH]; exact EN fun x hx=>by obtain⟨y,_,rfl⟩:=cO.1 hx; rfl,rfl,rfl,_,rfl,rfl,r2 D2 (r1.one (.inl w1))⟩
     ·have g1:decide ((h0:Int)<((h0+m-i:Nat):Int))=true:=by simp; omega
      have g2:decide (((h0+m-i:Nat):Int)<(b:Int))=false:=by simp; omega
      simp only[go_sem,g1,g2]
      exact⟨[.ref 0],[.ow 3 1 _],[],rfl,.inr rfl,⟨rfl,rfl,rfl,rfl,C9 _,by simp,trivial⟩,by simp only[CQ,D5,aH]; exact EN fun x hx=>by obtain⟨y,_,rfl⟩:=cO.1 hx; rfl,rfl,rfl,_,rfl,rfl,r2 D2 (r1.one (.inr w2))⟩
section phases
variable {key:Int→Int}
def Ph1 (key:Int→Int) (d0:List Int) (t:Nat) (d:List Int):Prop:=∃ done,done.length=t∧(∀ c∈done,dw key c∧c.1.length=20)∧Dc done=d0.take (20*t)∧d=FZ done++d0.drop (20*t)
def Blk (key:Int→Int) (n:Nat) (d0 d:List Int):Prop:=∃ cs,Szs n cs∧(∀ c∈cs,dw key c)∧d0=Dc cs∧d=FZ cs
def Ph2 (key:Int→Int) (B:Nat) (d0:List Int) (t:Nat) (d:List Int):Prop:=∃ done rest,done.length=t∧(∀ c∈done,dw key c∧c.1.length=2*B)∧Szs B rest∧(∀ c∈rest,dw key c)∧d0=Dc (done++rest)∧d=FZ (done++rest)
theorem Hf {n:Nat}:∀ {cs:List (List Int×List Int)},(∀ c∈cs,c.1.length=n)→(Dc cs).length=n*cs.length
 | [],_=>rfl
 | c::cs,h=>by
  rw[CU,aO,h c (by simp),Hf fun x hx=>h x (by simp[hx]),bQ,Nat.mul_add]; omega
theorem Ky:∀ {cs:List (List Int×List Int)},(∀ c∈cs,dw key c)→(FZ cs).Perm (Dc cs)
 | [],_=>qo _
 | c::cs,h=>by
  rw[CU,EJ]
  exact List.Perm.append (h c (by simp)).1 (Ky fun x hx=>h x (by simp[hx]))
theorem Ph1.start (d0:List Int):Ph1 key d0 0 d0:=⟨[],rfl,by simp,by simp[Dc],by simp[FZ]⟩
theorem Ph1.perm {d0 d:List Int} {t:Nat} (h:Ph1 key d0 t d):d.Perm d0:=by
 obtain⟨done,rfl,h2,h3,rfl⟩:=h
 have:=qh (d0.drop (20*done.length)) (Ky (key:=key) fun c hc=>(h2 c hc).1)
 rwa [h3,bW] at this
theorem Ph1.rest {d0 d:List Int} {t:Nat} (h:Ph1 key d0 t d):d.drop (20*t)=d0.drop (20*t):=by
 obtain⟨done,rfl,h2,h3,rfl⟩:=h
 have h4:=Gl done fun c hc=>(h2 c hc).1
 have h5:=Hf fun c hc=>(h2 c hc).2
 rw[h5] at h4
 rw[← h4,fC]
theorem Ph1.step {d0 d d':List Int} {t:Nat} (h:Ph1 key d0 t d) (hn:20*t+20≤d0.length) (hM:Mrg key (20*t) (20*t+20) d d'):Ph1 key d0 (t+1) d':=by
 obtain⟨done,rfl,h2,h3,rfl⟩:=h
 have h4:=Gl done fun c hc=>(h2 c hc).1
 have h5:=Hf fun c hc=>(h2 c hc).2
 obtain⟨c,e1,e2,rfl⟩:=TT (n:=20) (rest:=d0.drop (20*done.length)) (d':=d') rfl h4 (by simp; omega) (by rw[h5]; exact hM)
 refine⟨done ++ [c],by simp,fun x hx=>?_, ?_, ?_⟩
 ·rcases U8.1 hx with hx | hx
  ·exact h2 x hx
  ·rw[oq.1 hx]; exact⟨e2,by rw[e1]; simp; omega⟩
 ·rw[EC,h3]
  have:Dc [c]=c.1:=by simp[Dc]
  rw[this,e1,show 20*(done.length+1)=20*done.length+20 by omega,List.take_add]
 ·rw[jX,show 20*(done.length+1)=20*done.length+20 by omega]
theorem Ph1.fin {d0 d d':List Int} {t:Nat} (h:Ph1 key d0 t d) (h1:20*t≤d0.length) (h2:d0.length<20*t+20) (hM:Mrg key (20*t) d0.length d d'):Blk key 20 d0 d':=by
 obtain⟨done,rfl,q2,h3,rfl⟩:=h
 have h4:=Gl done fun c hc=>(q2 c hc).1
 have h5:=Hf fun c hc=>(q2 c hc).2
 obtain⟨c,e1,e2,rfl⟩:=TT (n:=d0.length-20*done.length) (rest:=d0.drop (20*done.length)) (d':=d') rfl h4 (by simp) (by rw[h5,show 20*done.length+(d0.length-20*done.length)=d0.length by omega]; exact hM)
 refine⟨done ++ [c],Szs.full (fun x hx=>(q2 x hx).2) (show c.1.length≤20 by rw[e1]; simp; omega),fun x hx=>?_, ?_, ?_⟩
 ·rcases U8.1 hx with hx | hx
  ·exact(q2 x hx).1
  ·rw[oq.1 hx]; exact e2
 ·have:Dc [c]=c.1:=by simp[Dc]
  rw[EC,h3,this,e1,vG (i:=d0.length-20*done.length) (by simp),bW]
 ·rw[jX,show 20*done.length+(d0.length-20*done.length)=d0.length by omega,aP,bU]
theorem Blk.perm {n:Nat} {d0 d:List Int} (h:Blk key n d0 d):d.Perm d0:=by
 obtain⟨cs,_,h2,rfl,rfl⟩:=h
 exact Ky h2
theorem Blk.all {n:Nat} {d0 d:List Int} (h:Blk key n d0 d) (hn:d0.length≤n) (h0:0<n):d.Pairwise (kl key):=by
 obtain⟨cs,h1,h2,rfl,rfl⟩:=h
 exact(TR h2 h1 hn h0).2
theorem Blk.two {B:Nat} {d0 d:List Int} (h:Blk key B d0 d):Ph2 key B d0 0 d:=by
 obtain⟨cs,h1,h2,rfl,rfl⟩:=h
 exact⟨[],cs,rfl,by simp,h1,h2,rfl,rfl⟩
theorem Ph2.perm {B t:Nat} {d0 d:List Int} (h:Ph2 key B d0 t d):d.Perm d0:=by
 obtain⟨done,rest,_,h1,_,h2,rfl,rfl⟩:=h
 exact Ky fun c hc=>(U8.1 hc).elim (fun h=>(h1 c h).1) (h2 c)
theorem Ph2.ahead {B t:Nat} {d0 d:List Int} (h:Ph2 key B d0 t d) (hb:2*B*t+B<d0.length):∃ done c1 c2 rest,done.length=t∧(∀ c∈done,dw key c∧c.1.length=2*B)∧Szs B rest∧(∀ c∈done++c1::c2::rest,dw key c)∧d0=Dc (done++c1::c2::rest)∧d=FZ (done++c1::c2::rest)∧(Dc done).length=2*B*t∧c1.1.length=B∧c2.1.length≤B∧(rest≠ []→c2.1.length=B):=by
 obtain⟨done,rest,rfl,h1,h2,h3,h4,h5⟩:=h
 have hl:=Hf fun c hc=>(h1 c hc).2
 have hl2:d0.length=2*B*done.length+(Dc rest).length:=by rw[h4,EC,aO,hl]
 cases rest with
 | nil=>simp[Dc] at hl2; omega
 | cons c1 r =>
  rw[CU,aO] at hl2
  have q1:=h2.cons
  cases r with
  | nil=>simp[Dc] at hl2; omega
  | cons c2 r =>
   have q2:=q1.2.1.cons
   exact⟨done,c1,c2,r,rfl,h1,q2.2.1,fun c hc=>(U8.1 hc).elim (fun h=>(h1 c h).1) (h3 c),h4,h5,hl,q1.2.2 (by simp),q2.1,q2.2.2⟩
theorem Ph2.next {B t e:Nat} {d0 d:List Int} (h:Ph2 key B d0 t d) (hs:d0.Pairwise (· < ·)) (hb:2*B*t+B<d0.length) (he:e=2*B*t+2*B∧e≤d0.length∨e=d0.length∧e<2*B*t+2*B) :
  Runs key (2*B*t) (2*B*t+B) e d∧∀ d',Mrg key (2*B*t) e d d'→(e=2*B*t+2*B→Ph2 key B d0 (t+1) d')∧(e=d0.length→Blk key (2*B) d0 d'):=by
 obtain⟨done,c1,c2,rest,rfl,h1,h2,h3,h4,h5,h6,h7,h8,h9⟩:=h.ahead hb
 have hl2:d0.length=2*B*done.length+(B+(c2.1.length+(Dc rest).length)):=by rw[h4,EC,aO,h6,CU,CU,aO,aO,h7]
 have he2:2*B*done.length+B+c2.1.length=e:=by
  by_cases c:rest = []
  ·subst c; simp[Dc] at hl2; omega
  ·have:=h9 c; omega
 have hR:=Yf h4 h5 h3 hs
 rw[h6,h7,he2] at hR
 refine⟨hR,fun d' hM=>?_⟩
 obtain⟨c,e1,e2,e3,e4⟩:=Uz h4 h5 h3 (d':=d') (by rw[h6,h7,he2]; exact hM)
 have hc:c.1.length=B+c2.1.length:=by rw[e1,aO,h7]
 refine⟨fun q=>?_,fun q=>?_⟩
 ·refine⟨done ++ [c],rest,by simp,fun x hx=>?_,h2,fun x hx=>h3 x (by simp[hx]),by simpa using e3,by simpa using e4⟩
  rcases U8.1 hx with hx | hx
  ·exact h1 x hx
  ·rw[oq.1 hx]; exact⟨e2,by omega⟩
 ·have hr:Dc rest = []:=bz (by omega)
  have hr2:FZ rest = []:=by
   have:=Gl rest fun x hx=>h3 x (by simp[hx])
   rw[hr] at this
   exact bz this
  refine⟨done ++ [c],Szs.full (fun x hx=>(h1 x hx).2) (show c.1.length≤2*B by omega),fun x hx=>?_, ?_, ?_⟩
  ·rcases U8.1 hx with hx | hx
   ·exact(h1 x hx).1
   ·rw[oq.1 hx]; exact e2
  ·rw[e3,EC,EC,CU,CU,hr]; rfl
  ·rw[e4,Gj,Gj,EJ,EJ,hr2]; rfl
theorem Ph2.fin {B t:Nat} {d0 d:List Int} (h:Ph2 key B d0 t d) (hB:0<B) (hb:d0.length≤2*B*t+B):Blk key (2*B) d0 d:=by
 obtain⟨done,rest,rfl,h1,h2,h3,rfl,rfl⟩:=h
 have hl:=Hf fun c hc=>(h1 c hc).2
 rw[EC,aO,hl] at hb
 have hn:(Dc rest).length≤B:=by omega
 have q:=TR h3 h2 hn hB
 refine⟨done ++ [(Dc rest,FZ rest)],Szs.full (fun x hx=>(h1 x hx).2) (show (Dc rest).length≤2*B by omega),fun x hx=>?_, ?_, ?_⟩
 ·rcases U8.1 hx with hx | hx
  ·exact(h1 x hx).1
  ·rw[oq.1 hx]; exact q
 ·rw[EC,EC]; simp[Dc]
 ·rw[Gj,Gj]; simp[FZ]
end phases
theorem Nv (key:Int→Int) (g:FuncId) (xs:List (List Cl)):∀ (n:Nat) (d:List Int) (a m b:Nat),b-a≤n→a<m→m<b→d.length≤1048576→Runs key a m b d→CmpOk prog g xs key d→qV key g xs d a m b
 | 0,d,a,m,b,hn,h1,h2,_,_,_=>by omega
 | n+1,d,a,m,b,hn,h1,h2,hl,hR,hg=>XM key d a m b h1 h2 hl hR g xs hg fun d' a' m' b' hlt h1' h2' hl' hR' hg'=>Nv key g xs n d' a' m' b' (by omega) h1' h2' hl' hR' hg'
theorem Ld (key:Int→Int) (d:List Int) (a m b:Nat) (h1:a<m) (h2:m<b) (hl:d.length≤1048576) (hR:Runs key a m b d) (g:FuncId) (xs:List (List Cl)) (hg:CmpOk prog g xs key d) :
  MCtr prog 141 false [.ow 3 1 (d.map intC)] [.c (.v (.int .i64 ((a:Int)))),.c (.v (.int .i64 ((m:Int)))),.c (.v (.int .i64 ((b:Int)))),.clo g xs] (fun cl' rs=>∃ d',cl' = [.ow 3 1 (d'.map intC)]∧rs = []∧Mrg key a b d d'):=Nv key g xs _ d a m b (aQ _) h1 h2 hl hR hg
theorem XN (key:Int→Int) (d0:List Int) (hl:d0.length≤1048576) (hs:d0.Pairwise (· < ·)) (g:FuncId) (xs:List (List Cl)) (hg:CmpOk prog g xs key d0) :
  MCtr prog 101 false [.ow 3 1 (d0.map intC)] [.c (.v (.int .i64 ((d0.length:Int)))),.clo g xs] (fun cl' rs=>∃ d':List Int,cl' = [.ow 3 1 (d'.map intC)]∧rs = []∧d'.Perm d0∧d'.Pairwise (kl key)):=by
 refine MCtr.mk (fn:=f101) call101 func101 rfl mixed ntmps101 results101 (by kernel_rfl) rfl (.inr rfl) fun us hw0 hw=>?_
 simp only[go_sem]
 refine LoopK.mk 1 [0,1,2,6,7,8] (A:=Nat×List Int) (fun x=>⟨63,[(0,.pin (.c (.ref 0)) (mkV false us)),(1,.c (.v (.int .i64 ((d0.length:Int))))),(2,.clo g xs),(6,.c (.v (.int .i64 ((20:Int))))),(7,(.c (.v (.int .i64 ((20*x.1:Nat):Int))))),(8,(.c (.v (.int .i64 ((20*x.1+20:Nat):Int)))))],[⟨3,1,x.2.map intC,true,true⟩]⟩)
  (fun x=>Ph1 key d0 x.1 x.2∧20*x.1≤d0.length) (fun x=>d0.length-20*x.1) (0,d0) ⟨⟨rfl,by simp only[bf,bG,aS,aZ,aH,Ai]⟩,rfl,Ph1.start d0,aJ _⟩ ?_
 rintro⟨t,d⟩ ⟨p1,p2⟩
 dsimp only at p1 p2
 have hld:d.length=d0.length:=p1.perm.length_eq
 have hgd:=hg.perm p1.perm
 have hsd:(d.drop (20*t)).Pairwise (· < ·):=by rw[p1.rest]; exact hs.sublist (List.drop_sublist _ _)
 simp only[go_sem]
 refine cndC.mk (fun h=>?_) (fun h=>?_)
 ·have hb:20*t+20≤d0.length:=by simp at h; omega
  have e1:IntKind.i64.wrap (((20*t+20:Nat):Int)+20)=((20*(t+1)+20:Nat):Int):=by rw[wrap_i64 (by omega) (by omega)]; omega
  simp only[go_sem]
  refine MutK.mk false (zs:=[.ref 0]) (H9 key d (20*t) (20*t+20) (by omega) (by omega) (by omega) hsd g xs hgd) rfl ⟨rfl,rfl,rfl,rfl,C9 _,by simp,trivial⟩ rfl (.inr rfl) fun cl' rs hM=>?_
  obtain⟨d',rfl,rfl,hM⟩:=hM
  refine⟨⟨rfl,⟨rfl,rfl⟩,trivial⟩, ?_⟩
  simp only[go_sem,e1]
  exact⟨(t+1,d'),⟨rfl,by simp only[bf,bG,aS,aZ,aH,Ai]⟩,rfl,⟨p1.step hb hM,by simp only; omega⟩,by simp only; omega⟩
 ·have hb:d0.length<20*t+20:=by simp at h; omega
  simp only[go_sem]
  refine MutK.mk false (zs:=[.ref 0]) (H9 key d (20*t) d0.length p2 (by omega) (by omega) hsd g xs hgd) rfl ⟨rfl,rfl,rfl,rfl,C9 _,by simp,trivial⟩ rfl (.inr rfl) fun cl' rs hM=>?_
  obtain⟨d',rfl,rfl,hM⟩:=hM
  refine⟨⟨rfl,⟨rfl,rfl⟩,trivial⟩, ?_⟩
  have p3:=p1.fin p2 hb hM
  clear hM p1 hgd hsd hld h p2 hb
  simp only[go_sem]
  refine LoopK.mk 1 [0,1,2,6] (A:=Nat×List Int) (fun x=>⟨63,[(0,.pin (.c (.ref 0)) (mkV false us)),(1,.c (.v (.int .i64 ((d0.length:Int))))),(2,.clo g xs),(6,.c (.v (.int .i64 ((x.1:Int)))))],[⟨3,1,x.2.map intC,true,true⟩]⟩)
   (fun x=>Blk key x.1 d0 x.2∧0<x.1∧x.1≤4194304) (fun x=>d0.length-x.1) (20,d') ⟨⟨rfl,by simp only[bf,bG,aS,aZ,aH,Ai]⟩,rfl,p3,by simp,by simp⟩ ?_
  clear p3
  rintro⟨B,d⟩ ⟨p1,p2,p3⟩
  dsimp only at p1 p2 p3
  simp only[go_sem]
  refine cndC.mk (fun h=>?_) (fun h=>?_)
  ·have hB:B<d0.length:=by simpa using h
   have e1:IntKind.i64.wrap (2*(B:Int))=((2*B:Nat):Int):=by rw[wrap_i64 (by omega) (by omega)]; omega
   have e2:IntKind.i64.wrap ((B:Int)*2)=((2*B:Nat):Int):=by rw[wrap_i64 (by omega) (by omega)]; omega
   simp only[go_sem,e1]
   refine LoopK.mk 1 [0,1,2,6,7,8] (A:=Nat×List Int) (fun x=>⟨63,[(0,.pin (.c (.ref 0)) (mkV false us)),(1,.c (.v (.int .i64 ((d0.length:Int))))),(2,.clo g xs),(6,.c (.v (.int .i64 ((B:Int))))),(7,(.c (.v (.int .i64 ((2*B*x.1:Nat):Int))))),(8,(.c (.v (.int .i64 ((2*B*x.1+2*B:Nat):Int)))))],[⟨3,1,x.2.map intC,true,true⟩]⟩)
    (fun x=>Ph2 key B d0 x.1 x.2∧2*B*x.1≤d0.length) (fun x=>d0.length-2*B*x.1) (0,d) ⟨⟨rfl,by simp only[bf,bG,aS,aZ,aH,Ai]⟩,by simp only[Nat.mul_zero,Yl]; rfl,p1.two,by simp⟩ ?_
   rintro⟨t,d⟩ ⟨q1,q2⟩
   dsimp only at q1 q2
   have hld:d.length=d0.length:=q1.perm.length_eq
   have hgd:=hg.perm q1.perm
   have hlt:2*B*(t+1)=2*B*t+2*B:=by rw[Nat.mul_succ]
   have f0:=q1.next (e:=min (2*B*t+2*B) d0.length) hs
   have f1:=addN (x:=2*B*t) (y:=B) (by omega) (by omega)
   simp only[go_sem]
   refine cndC.mk (fun h=>?_) (fun h=>?_)
   ·have hb:2*B*t+2*B≤d0.length:=by simp only[dm] at h; omega
    rw[Nat.min_eq_left hb] at f0
    obtain⟨r1,r2⟩:=f0 (by omega) (.inl ⟨rfl,hb⟩)
    have f2:IntKind.i64.wrap (((2*B*t+2*B:Nat):Int)+((2*B:Nat):Int))=((2*B*(t+1)+2*B:Nat):Int):=by rw[hlt,wrap_i64 (by omega) (by omega)]; omega
    simp only[go_sem,f1,e1]
    refine MutK.mk false (zs:=[.ref 0]) (Ld key d (2*B*t) (2*B*t+B) (2*B*t+2*B) (by omega) (by omega) (by omega) r1 g xs hgd) rfl ⟨rfl,rfl,rfl,rfl,C9 _,by simp,trivial⟩ rfl (.inr rfl) fun cl' rs hM=>?_
    obtain⟨d',rfl,rfl,hM⟩:=hM
    refine⟨⟨rfl,⟨rfl,rfl⟩,trivial⟩, ?_⟩
    simp only[go_sem,f2,e1]
    exact⟨(t+1,d'),⟨rfl,by simp only[bf,bG,aS,aZ,aH,Ai]⟩,by simp only[hlt]; rfl,⟨(r2 d' hM).1 rfl,by simp only; omega⟩,by simp only; omega⟩
   ·have hb:¬ 2*B*t+2*B≤d0.length:=by simp only[vF] at h; omega
    simp only[go_sem,f1]
    refine cndC.mk (fun h2=>?_) (fun h2=>?_)
    ·have hb2:2*B*t+B<d0.length:=by simp only[dm] at h2; omega
     rw[Nat.min_eq_right (by omega)] at f0
     obtain⟨r1,r2⟩:=f0 hb2 (.inr ⟨rfl,by omega⟩)
     simp only[go_sem]
     refine MutK.mk false (zs:=[.ref 0]) (Ld key d (2*B*t) (2*B*t+B) d0.length (by omega) hb2 (by omega) r1 g xs hgd) rfl ⟨rfl,rfl,rfl,rfl,C9 _,by simp,trivial⟩ rfl (.inr rfl) fun cl' rs hM=>?_
     obtain⟨d',rfl,rfl,hM⟩:=hM
     refine⟨⟨rfl,⟨rfl,rfl⟩,trivial⟩, ?_⟩
     simp only[go_sem,e2]
     exact⟨(2*B,d'),⟨rfl,by simp only[bf,bG,aS,aZ,aH,Ai]⟩,rfl,⟨(r2 d' hM).2 rfl,by simp only; omega,by simp only; omega⟩,by simp only; omega⟩
    ·have hb2:d0.length≤2*B*t+B:=by simp only[vF] at h2; omega
     simp only[go_sem,e2]
     exact⟨(2*B,d),⟨rfl,by simp only[bf,bG,aS,aZ,aH,Ai]⟩,rfl,⟨q1.fin p2 hb2,by simp only; omega,by simp only; omega⟩,by simp only; omega⟩
  ·have hB:d0.length≤B:=by simpa using h
   simp only[go_sem]
   exact⟨[.ref 0],[.ow 3 1 _],[],rfl,.inr rfl,⟨rfl,rfl,rfl,rfl,C9 _,by simp,trivial⟩,by simp only[CQ,D5,aH]; exact EN fun x hx=>by obtain⟨y,_,rfl⟩:=cO.1 hx; rfl,rfl,rfl,_,rfl,rfl,p1.perm,p1.all hB p2⟩
end Go.Proofs.YtgkmefoghbjfnaaGreat
