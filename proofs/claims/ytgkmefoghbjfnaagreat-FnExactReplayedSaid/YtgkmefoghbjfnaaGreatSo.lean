/- A part. -/
import Derived.Test.YtgkmefoghbjfnaaGreatDa
set_option linter.unusedSimpArgs false
set_option linter.unusedVariables false
set_option maxHeartbeats 1000000
set_option maxRecDepth 10000
namespace Go.Proofs.YtgkmefoghbjfnaaGreat
open Go.Vm
section order
variable (key:Int→Int)
def kl (x y:Int):Prop:=key x<key y∨(key x=key y∧x<y)
variable {key}
theorem DY {x y z:Int} (h1:kl key x y) (h2:kl key y z):kl key x z:=by unfold kl at *; omega
theorem qQ {x:Int} (h:kl key x x):False:=by unfold kl at h; omega
theorem jG {x y:Int} (h1:kl key x y) (h2:kl key y x):False:=qQ (DY h1 h2)
theorem ZU:∀ {l1 l2:List Int},l1.Pairwise (kl key)→l2.Pairwise (kl key)→l1.Perm l2→l1=l2
 | [],l2,_,_,p=>by rw[List.nil_perm.1 p]
 | x::l1,[],_,_,p=>by simpa using p.length_eq
 | x::l1,y::l2,h1,h2,p=>by
  rw[List.pairwise_cons] at h1 h2
  have hxy:x=y:=by
   have hx:x∈y::l2:=p.subset (by simp)
   have hy:y∈x::l1:=p.symm.subset (by simp)
   rcases Xz.1 hx with e | e
   ·exact e
   ·rcases Xz.1 hy with e2 | e2
    ·exact e2.symm
    ·exact(jG (h1.1 y e2) (h2.1 x e)).elim
  subst hxy
  rw[ZU h1.2 h2.2 ((List.perm_cons x).1 p)]
end order
def Dn (d:List Int) (a m b:Nat):List Int:=d.take a++((d.drop m).take (b-m)++((d.drop a).take (m-a)++d.drop b))
def JR (d:List Int) (a b n:Nat):List Int:=d.take a++((d.drop b).take n++((d.drop (a+n)).take (b-(a+n))++((d.drop a).take n++d.drop (b+n))))
theorem Gw {d:List Int} {a m b:Nat} (h1:a≤m) (h2:m≤b) (h3:b≤d.length):∃ P A B S,d=P++(A++(B++S))∧P.length=a∧A.length=m-a∧B.length=b-m:=by
 refine⟨d.take a,(d.drop a).take (m-a),(d.drop m).take (b-m),d.drop b, ?_,by simp; omega,by simp; omega,by simp; omega⟩
 have e1:(d.drop m).take (b-m)++d.drop b=d.drop m:=by
  have:=bW (b-m) (d.drop m)
  rw[jX] at this
  rwa [show m+(b-m)=b by omega] at this
 have e2:(d.drop a).take (m-a)++d.drop m=d.drop a:=by
  have:=bW (m-a) (d.drop a)
  rw[jX] at this
  rwa [show a+(m-a)=m by omega] at this
 rw[e1,e2,bW]
theorem DZ {P A B S:List Int} {a m b:Nat} (ha:P.length=a) (hA:a+A.length=m) (hB:m+B.length=b):Dn (P++(A++(B++S))) a m b=P++(B++(A++S)):=by
 subst ha; subst hA; subst hB
 unfold Dn
 have e1:(P++(A++(B++S))).drop (P.length+A.length)=B++S:=by
  rw[← jX,fC,fC]
 have e2:(P++(A++(B++S))).drop (P.length+A.length+B.length)=S:=by
  rw[← jX,e1,fC]
 rw[e1,e2,mg,fC,Nat.add_sub_cancel_left,Nat.add_sub_cancel_left,mg,mg]
theorem Uy {P A M B S:List Int} {a b n:Nat} (ha:P.length=a) (hA:A.length=n) (hM:a+n+M.length=b) (hB:B.length=n):JR (P++(A++(M++(B++S)))) a b n=P++(B++(M++(A++S))):=by
 subst ha; subst hA; subst hM
 unfold JR
 have e1:(P++(A++(M++(B++S)))).drop (P.length+A.length)=M++(B++S):=by
  rw[← jX,fC,fC]
 have e2:(P++(A++(M++(B++S)))).drop (P.length+A.length+M.length)=B++S:=by
  rw[← jX,e1,fC]
 have e3:(P++(A++(M++(B++S)))).drop (P.length+A.length+M.length+A.length)=S:=by
  rw[← jX,e2,← hB,fC]
 rw[e1,e2,e3,mg,fC,Nat.add_sub_cancel_left,mg,mg,← hB,mg]
theorem Nr {d:List Int} {a b n:Nat} (h1:a+n≤b) (h2:b+n≤d.length):(JR d a b n).length=d.length:=by
 unfold JR
 simp only[aO,ZV,mZ]
 omega
theorem XI {d:List Int} {a m b:Nat} (h1:a≤m) (h2:m≤b) (h3:b≤d.length):(Dn d a m b).length=d.length:=by
 unfold Dn
 simp only[aO,ZV,mZ]
 omega
theorem jH {d:List Int} {m i j:Nat} (hi:i≤m) (hij:j<i) (hm:m+j≤d.length):Dn (JR d (m-i) m j) (m-(i-j)) m (m+j)=Dn d (m-i) m (m+j):=by
 obtain⟨P,A,B,S,rfl,hP,hA,hB⟩:=Gw (d:=d) (a:=m-i) (m:=m) (b:=m+j) (by omega) (by omega) hm
 obtain⟨A1,A2,rfl,h1⟩:∃ A1 A2,A=A1++A2∧A1.length=j:=⟨A.take j,A.drop j,(bW _ _).symm,by simp; omega⟩
 have h2:A2.length=i-j:=by simp at hA; omega
 have hB':B.length=j:=by omega
 have e1:JR (P++(A1++A2++(B++S))) (m-i) m j=P++(B++(A2++(A1++S))):=by
  rw[aY]
  exact Uy hP h1 (by omega) hB'
 rw[e1]
 have e2:Dn (P++(B++(A2++(A1++S)))) (m-(i-j)) m (m+j)=P++(B++(A1++(A2++S))):=by
  have:=DZ (P:=P++B) (A:=A2) (B:=A1) (S:=S) (a:=m-(i-j)) (m:=m) (b:=m+j) (by simp; omega) (by omega) (by omega)
  simpa only[aY] using this
 rw[e2,DZ (P:=P) (A:=A1++A2) (B:=B) (S:=S) hP (by simp; omega) (by omega)]
 simp only[aY]
theorem dZ {d:List Int} {m i j:Nat} (hi:i≤m) (hij:i<j) (hm:m+j≤d.length):Dn (JR d (m-i) (m+j-i) i) (m-i) m (m+(j-i))=Dn d (m-i) m (m+j):=by
 obtain⟨P,A,B,S,rfl,hP,hA,hB⟩:=Gw (d:=d) (a:=m-i) (m:=m) (b:=m+j) (by omega) (by omega) hm
 obtain⟨B1,B2,rfl,h1⟩:∃ B1 B2,B=B1++B2∧B1.length=j-i:=⟨B.take (j-i),B.drop (j-i),(bW _ _).symm,by simp; omega⟩
 have h2:B2.length=i:=by simp at hB; omega
 have hA':A.length=i:=by omega
 have e1:JR (P++(A++(B1++B2++S))) (m-i) (m+j-i) i=P++(B2++(B1++(A++S))):=by
  rw[aY]
  exact Uy hP hA' (by omega) h2
 rw[e1]
 have e2:Dn (P++(B2++(B1++(A++S)))) (m-i) m (m+(j-i))=P++(B1++(B2++(A++S))):=
  DZ hP (by omega) (by omega)
 rw[e2,DZ (P:=P) (A:=A) (B:=B1++B2) (S:=S) hP (by omega) (by simp; omega)]
 simp only[aY]
theorem jI {d:List Int} {m i:Nat} (hi:i≤m) (hm:m+i≤d.length):JR d (m-i) m i=Dn d (m-i) m (m+i):=by
 obtain⟨P,A,B,S,rfl,hP,hA,hB⟩:=Gw (d:=d) (a:=m-i) (m:=m) (b:=m+i) (by omega) (by omega) hm
 rw[DZ hP (by omega) (by omega)]
 have:=Uy (P:=P) (A:=A) (M:=[]) (B:=B) (S:=S) (a:=m-i) (b:=m) (n:=i) hP (by omega) (by simp; omega) (by omega)
 simpa only[bP] using this
section merge
variable {key:Int→Int}
def Runs (key:Int→Int) (a m b:Nat) (d:List Int):Prop:=∃ P L R S,d=P++(L++(R++S))∧P.length=a∧a+L.length=m∧m+R.length=b∧L.Pairwise (kl key)∧R.Pairwise (kl key)∧∀ x∈L,∀ y∈R,key x=key y→x<y
def Mrg (key:Int→Int) (a b:Nat) (d d':List Int):Prop:=∃ P M M' S,d=P++(M++S)∧d'=P++(M'++S)∧P.length=a∧a+M.length=b∧M'.Perm M∧M'.Pairwise (kl key)
theorem DL {α:Type} {P P' A A':List α} (h:P++A=P'++A') (hl:P.length=P'.length):P=P'∧A=A':=List.append_inj h hl
theorem Runs.one {a m b:Nat} {d:List Int} (h:Runs key a m b d) (he:a=m∨m=b):Mrg key a b d d:=by
 obtain⟨P,L,R,S,rfl,h1,h2,h3,h4,h5,_⟩:=h
 refine⟨P,L++R,L++R,S,by simp,by simp,h1,by simp; omega,qo _, ?_⟩
 rcases he with he | he
 ·have:L = []:=bz (by omega)
  subst this; simpa using h5
 ·have:R = []:=bz (by omega)
  subst this; simpa using h4
def at0 (d:List Int) (i:Nat):Int:=d.getD i 0
theorem BA {P A:List Int} {i:Nat} (h:P.length≤i):at0 (P++A) i=at0 A (i-P.length):=by
 unfold at0
 rw[bT,bT,ak h]
theorem D_ {P A:List Int} {i:Nat} (h:i<P.length):at0 (P++A) i=at0 P i:=by
 unfold at0
 rw[bT,bT,ah h]
theorem J7 {L:List Int} {x:Int} (h:x∈L):∃ i,i<L.length∧at0 L i=x:=by
 obtain⟨i,hi,e⟩:=vI.1 h
 exact⟨i,hi,by unfold at0; rw[bT]; simp[hi,e]⟩
theorem at_mem {L:List Int} {i:Nat} (h:i<L.length):at0 L i∈L:=by
 unfold at0
 rw[bT]
 simp[h]
theorem JS {L:List Int} (h:L.Pairwise (kl key)) {i j:Nat} (hij:i<j) (hj:j<L.length):kl key (at0 L i) (at0 L j):=by
 have:=List.pairwise_iff_getElem.1 h i j (by omega) hj hij
 unfold at0
 rw[bT,bT]
 simpa [hj,show i<L.length by omega] using this
theorem Ri {a m b s e:Nat} {d:List Int} (h:Runs key a m b d) (hs1:a≤s) (hs2:s≤m) (he1:m≤e) (he2:e≤b)
  (h1:a<s→e<b→kl key (at0 d (s-1)) (at0 d e)) (h2:s<m→m<e→kl key (at0 d (e-1)) (at0 d s)) :
  Runs key a s (s+(e-m)) (Dn d s m e)∧∀ d2,Mrg key a (s+(e-m)) (Dn d s m e) d2→Runs key (s+(e-m)) e b d2∧∀ d3,Mrg key (s+(e-m)) b d2 d3→Mrg key a b d d3:=by
 obtain⟨P,L,R,S,rfl,hP,hL,hR,sL,sR,hc⟩:=h
 obtain⟨L1,L2,rfl,hL1⟩:∃ L1 L2,L=L1++L2∧L1.length=s-a:=⟨L.take (s-a),L.drop (s-a),(bW _ _).symm,by simp; omega⟩
 obtain⟨R1,R2,rfl,hR1⟩:∃ R1 R2,R=R1++R2∧R1.length=e-m:=⟨R.take (e-m),R.drop (e-m),(bW _ _).symm,by simp; omega⟩
 have hL2:s+L2.length=m:=by simp at hL; omega
 have hR2:e+R2.length=b:=by simp at hR; omega
 rw[og] at sL sR
 obtain⟨sL1,sL2,cL⟩:=sL
 obtain⟨sR1,sR2,cR⟩:=sR
 have i1:∀ x∈L1,∀ y∈R2,kl key x y:=by
  intro x hx y hy
  obtain⟨i,hi,rfl⟩:=J7 hx
  obtain⟨j,hj,rfl⟩:=J7 hy
  have h1:=h1 (by omega) (by omega)
  have e1:at0 (P++(L1++L2++(R1++R2++S))) (s-1)=at0 L1 (L1.length-1):=by
   rw[BA (by omega),aY,D_ (by omega)]
   congr 1; omega
  have e2:at0 (P++(L1++L2++(R1++R2++S))) e=at0 R2 0:=by
   rw[BA (by omega),BA (by simp; omega),aY,BA (by simp; omega),D_ (by simp; omega)]
   congr 1; simp; omega
  rw[e1,e2] at h1
  have h3:i=L1.length-1∨kl key (at0 L1 i) (at0 L1 (L1.length-1)):=by
   by_cases e:i=L1.length-1
   ·exact .inl e
   ·exact .inr (JS sL1 (by omega) (by omega))
  have h4:j=0∨kl key (at0 R2 0) (at0 R2 j):=by
   by_cases e:j=0
   ·exact .inl e
   ·exact .inr (JS sR2 (by omega) hj)
  rcases h3 with rfl | h3<;>rcases h4 with rfl | h4
  ·exact h1
  ·exact DY h1 h4
  ·exact DY h3 h1
  ·exact DY h3 (DY h1 h4)
 have i2:∀ y∈R1,∀ x∈L2,kl key y x:=by
  intro y hy x hx
  obtain⟨i,hi,rfl⟩:=J7 hx
  obtain⟨j,hj,rfl⟩:=J7 hy
  have h2:=h2 (by omega) (by omega)
  have e1:at0 (P++(L1++L2++(R1++R2++S))) (e-1)=at0 R1 (R1.length-1):=by
   rw[BA (by omega),BA (by simp; omega),aY,D_ (by simp; omega)]
   congr 1; simp; omega
  have e2:at0 (P++(L1++L2++(R1++R2++S))) s=at0 L2 0:=by
   rw[BA (by omega),aY,BA (by omega),D_ (by omega)]
   congr 1; omega
  rw[e1,e2] at h2
  have h3:j=R1.length-1∨kl key (at0 R1 j) (at0 R1 (R1.length-1)):=by
   by_cases e:j=R1.length-1
   ·exact .inl e
   ·exact .inr (JS sR1 (by omega) (by omega))
  have h4:i=0∨kl key (at0 L2 0) (at0 L2 i):=by
   by_cases e:i=0
   ·exact .inl e
   ·exact .inr (JS sL2 (by omega) hi)
  rcases h3 with rfl | h3<;>rcases h4 with rfl | h4
  ·exact h2
  ·exact DY h2 h4
  ·exact DY h3 h2
  ·exact DY h3 (DY h2 h4)
 have er:Dn (P++(L1++L2++(R1++R2++S))) s m e=P++(L1++(R1++(L2++(R2++S)))):=by
  have:=DZ (P:=P++L1) (A:=L2) (B:=R1) (S:=R2++S) (a:=s) (m:=m) (b:=e) (by simp; omega) hL2 (by omega)
  simpa only[aY] using this
 rw[er]
 refine⟨⟨P,L1,R1,L2++(R2++S),rfl,hP,by omega,by omega,sL1,sR1,fun x hx y hy=>hc x (by simp[hx]) y (by simp[hy])⟩,fun d2 h=>?_⟩
 obtain⟨P',M,M1,S',e1,rfl,hP',hM,p1,s1⟩:=h
 obtain⟨rfl,e2⟩:=DL e1 (by omega)
 have e3:L1++R1++(L2++(R2++S))=M++S':=by rw[← e2]; simp only[aY]
 obtain⟨rfl,rfl⟩:=DL e3 (by simp; omega)
 have hM1:M1.length=(L1++R1).length:=p1.length_eq
 refine⟨⟨P++M1,L2,R2,S,by simp,by simp[hM1]; omega,by omega,hR2,sL2,sR2,fun x hx y hy=>hc x (by simp[hx]) y (by simp[hy])⟩,fun d3 h=>?_⟩
 obtain⟨P',N,M2,S',e1,rfl,hP',hN,p2,s2⟩:=h
 have e4:(P++M1)++(L2++(R2++S))=P'++(N++S'):=by rw[← e1]; simp only[aY]
 obtain⟨rfl,e5⟩:=DL e4 (by simp[hM1]; omega)
 have e6:L2++R2++S=N++S':=by rw[← e5]; simp only[aY]
 obtain⟨rfl,rfl⟩:=DL e6 (by simp; omega)
 refine⟨P,L1++L2++(R1++R2),M1++M2,S,by simp,by simp,hP,by simp; omega, ?_, ?_⟩
 ·refine(List.Perm.append p1 p2).trans ?_
  have:(L1++R1++(L2++R2)).Perm (L1++L2++(R1++R2)):=by
   simp only[aY]
   refine List.Perm.append_left L1 ?_
   rw[← aY,← aY]
   exact qh R2 List.perm_append_comm
  exact this
 ·rw[og]
  refine⟨s1,s2,fun u hu v hv=>?_⟩
  rcases U8.1 (p1.mem_iff.1 hu) with hu | hu<;>rcases U8.1 (p2.mem_iff.1 hv) with hv | hv
  ·exact cL u hu v hv
  ·exact i1 u hu v hv
  ·exact i2 u hu v hv
  ·exact cR u hu v hv
end merge
section blocks
variable {key:Int→Int}
def Szs (n:Nat):List (List Int×List Int)→Prop
 | []=>True
 | [c]=>c.1.length≤n
 | c::r=>c.1.length=n∧Szs n r
def dw (key:Int→Int) (c:List Int×List Int):Prop:=c.2.Perm c.1∧c.2.Pairwise (kl key)
def Dc (cs:List (List Int×List Int)):List Int:=(cs.map Prod.fst).flatten
def FZ (cs:List (List Int×List Int)):List Int:=(cs.map Prod.snd).flatten
theorem EC (a b:List (List Int×List Int)):Dc (a++b)=Dc a++Dc b:=by simp[Dc]
theorem Gj (a b:List (List Int×List Int)):FZ (a++b)=FZ a++FZ b:=by simp[FZ]
theorem CU (c:List Int×List Int) (b:List (List Int×List Int)):Dc (c::b)=c.1++Dc b:=by simp[Dc]
theorem EJ (c:List Int×List Int) (b:List (List Int×List Int)):FZ (c::b)=c.2++FZ b:=by simp[FZ]
theorem Gl:∀ (cs:List (List Int×List Int)),(∀ c∈cs,dw key c)→(FZ cs).length=(Dc cs).length
 | [],_=>rfl
 | c::cs,h=>by
  rw[CU,EJ,aO,aO,Gl cs fun x hx=>h x (by simp[hx]),(h c (by simp)).1.length_eq]
theorem Szs.cons {n:Nat} {c:List Int×List Int} {r:List (List Int×List Int)} (h:Szs n (c::r)):c.1.length≤n∧Szs n r∧(r≠ []→c.1.length=n):=by
 cases r with
 | nil=>exact⟨h,trivial,fun h=>absurd rfl h⟩
 | cons d r=>exact⟨Nat.le_of_eq h.1,h.2,fun _=>h.1⟩
theorem Szs.mk {n:Nat} {c:List Int×List Int} {r:List (List Int×List Int)} (h1:c.1.length=n) (h2:Szs n r):Szs n (c::r):=by
 cases r with
 | nil=>exact Nat.le_of_eq h1
 | cons d r=>exact⟨h1,h2⟩
theorem Szs.full {n:Nat}:∀ {a b:List (List Int×List Int)},(∀ c∈a,c.1.length=n)→Szs n b→Szs n (a++b)
 | [],_,_,h=>h
 | c::a,b,h1,h2=>Szs.mk (h1 c (by simp)) (Szs.full (fun x hx=>h1 x (by simp[hx])) h2)
theorem Yf {done:List (List Int×List Int)} {c1 c2:List Int×List Int} {rest:List (List Int×List Int)} {d0 d:List Int} (hd0:d0=Dc (done++c1::c2::rest)) (hd:d=FZ (done++c1::c2::rest)) (hok:∀ c∈done++c1::c2::rest,dw key c) (hs:d0.Pairwise (· < ·)) :
  Runs key (Dc done).length ((Dc done).length+c1.1.length) ((Dc done).length+c1.1.length+c2.1.length) d:=by
 have hl:=Gl done fun c hc=>hok c (by simp[hc])
 have o1:=hok c1 (by simp)
 have o2:=hok c2 (by simp)
 refine⟨FZ done,c1.2,c2.2,FZ rest, ?_,hl,by rw[o1.1.length_eq],by rw[o2.1.length_eq],o1.2,o2.2,fun x hx y hy _=>?_⟩
 ·rw[hd,Gj,EJ,EJ]
 ·rw[hd0,EC,CU,CU,og] at hs
  have:=hs.2.1
  rw[og] at this
  exact this.2.2 x (o1.1.mem_iff.1 hx) y (by simp[o2.1.mem_iff.1 hy])
theorem Uz {done:List (List Int×List Int)} {c1 c2:List Int×List Int} {rest:List (List Int×List Int)} {d0 d d':List Int} (hd0:d0=Dc (done++c1::c2::rest)) (hd:d=FZ (done++c1::c2::rest)) (hok:∀ c∈done++c1::c2::rest,dw key c)
  (h:Mrg key (Dc done).length ((Dc done).length+c1.1.length+c2.1.length) d d'):∃ c:List Int×List Int,c.1=c1.1++c2.1∧dw key c∧d0=Dc (done++c::rest)∧d'=FZ (done++c::rest):=by
 have hl:=Gl done fun c hc=>hok c (by simp[hc])
 have o1:=hok c1 (by simp)
 have o2:=hok c2 (by simp)
 obtain⟨P,M,M',S,e1,rfl,hP,hM,hp,hs⟩:=h
 rw[hd,Gj,EJ,EJ,← aY c1.2] at e1
 obtain⟨rfl,e2⟩:=DL e1 (by omega)
 obtain⟨rfl,rfl⟩:=DL e2 (by simp[o1.1.length_eq,o2.1.length_eq]; omega)
 refine⟨(c1.1++c2.1,M'),rfl,⟨hp.trans (List.Perm.append o1.1 o2.1),hs⟩, ?_, ?_⟩
 ·rw[hd0,EC,EC,CU,CU,CU,aY]
 ·rw[Gj,EJ]
theorem TR {n:Nat} {cs:List (List Int×List Int)} (hok:∀ c∈cs,dw key c) (hz:Szs n cs) (hn:(Dc cs).length≤n) (h0:0<n):(FZ cs).Perm (Dc cs)∧(FZ cs).Pairwise (kl key):=by
 cases cs with
 | nil=>exact⟨qo _,List.Pairwise.nil⟩
 | cons c r =>
  have hr:Dc r = []:=by
   cases r with
   | nil=>rfl
   | cons d r =>
    have:=hz.cons.2.2 (by simp)
    rw[CU,aO] at hn
    exact bz (by omega)
  have hr2:FZ r = []:=by
   have:=Gl r fun x hx=>hok x (by simp[hx])
   rw[hr] at this
   exact bz this
  rw[CU,EJ,hr,hr2,bU,bU]
  exact hok c (by simp)
end blocks
theorem jJ {key:Int→Int} {out:List Int} {i:Int} {k:Nat} (hs:out.Pairwise (kl key)) (hi:∀ x∈out,x<i) (hk:k≤out.length) (h1:k=0∨key (at0 out (k-1))≤key i) (h2:∀ j,k≤j→j<out.length→key i<key (at0 out j)) :
  (out.take k++i::out.drop k).Pairwise (kl key)∧(out.take k++i::out.drop k).Perm (out ++ [i]):=by
 have hlt:∀ x∈out.take k,kl key x i:=by
  intro x hx
  obtain⟨j,hj,rfl⟩:=J7 hx
  have hjk:j<k:=by simp at hj; omega
  have e:at0 (out.take k) j=at0 out j:=by
   unfold at0
   rw[bT,bT,aV]
   simp[hjk]
  rw[e]
  rcases h1 with rfl | h1
  ·omega
  ·have hxi:=hi (at0 out j) (at_mem (by omega))
   have hle:key (at0 out j)≤key (at0 out (k-1)):=by
    by_cases e2:j=k-1
    ·rw[e2]; exact qp _
    ·have:=JS hs (i:=j) (j:=k-1) (by omega) (by omega)
     unfold kl at this; omega
   unfold kl; omega
 have hgt:∀ x∈out.drop k,kl key i x:=by
  intro x hx
  obtain⟨j,hj,rfl⟩:=J7 hx
  have e:at0 (out.drop k) j=at0 out (k+j):=by
   unfold at0
   rw[bT,bT,bY]
  rw[e]
  exact .inl (h2 (k+j) (by omega) (by simp at hj; omega))
 constructor
 ·rw[og,List.pairwise_cons]
  refine⟨hs.sublist (List.take_sublist _ _),⟨hgt,hs.sublist (List.drop_sublist _ _)⟩,fun x hx y hy=>?_⟩
  rcases Xz.1 hy with rfl | hy
  ·exact hlt x hx
  ·exact DY (hlt x hx) (hgt y hy)
 ·have:(out ++ [i]).Perm (i::out):=List.perm_append_comm
  refine List.Perm.trans ?_ this.symm
  have h3:(out.take k++i::out.drop k).Perm (i::(out.take k++out.drop k)):=List.perm_middle
  rwa [bW] at h3
theorem J8 {d:List Int} {a b n:Nat} (h1:a+n≤b) (h2:b+n≤d.length) (j:Nat):(JR d a b n)[j]?=if a≤j∧j<a+n then d[j-a+b]? else if b≤j∧j<b+n then d[j-b+a]? else d[j]?:=by
 unfold JR
 by_cases c1:j<a
 ·rw[ah (by simp; omega),aV,ED c1,Eh (by omega),Eh (by omega)]
 ·have l1:(d.take a).length=a:=by simp; omega
  rw[ak (by omega),l1]
  by_cases c2:j<a+n
  ·rw[ah (by simp; omega),aV,ED (by omega),ED (by omega),bY]
   congr 1; omega
  ·have l2:((d.drop b).take n).length=n:=by simp; omega
   rw[ak (by omega),l2,Eh (by omega)]
   by_cases c3:j<b
   ·rw[ah (by simp; omega),aV,ED (by omega),Eh (by omega),bY]
    congr 1; omega
   ·have l3:((d.drop (a+n)).take (b-(a+n))).length=b-(a+n):=by simp; omega
    rw[ak (by omega),l3]
    by_cases c4:j<b+n
    ·rw[ah (by simp; omega),aV,ED (by omega),ED (by omega),bY]
     congr 1; omega
    ·have l4:((d.drop a).take n).length=n:=by simp; omega
     rw[ak (by omega),l4,Eh (by omega),bY]
     congr 1; omega
theorem d_ {d:List Int} {a b:Nat} (h1:a≤b) (h2:b≤d.length):JR d a b 0=d:=by
 apply List.ext_getElem?
 intro j
 rw[J8 (by omega) (by omega),Eh (by omega),Eh (by omega)]
def Sm (d:List Int) (i j:Nat):List Int:=(d.set i (at0 d j)).set j (at0 d i)
theorem IY {d:List Int} {i:Nat} (h:i<d.length):d[i]?=some (at0 d i):=by
 unfold at0
 rw[bT]
 simp[h]
theorem jK {d:List Int} {i j:Nat} (hi:i<d.length) (hj:j<d.length) (k:Nat):(Sm d i j)[k]?=if k=j then d[i]? else if k=i then d[j]? else d[k]?:=by
 unfold Sm
 rw[bK,bu,bK,IY hi,IY hj]
 by_cases e1:k=j
 ·subst e1; simp[hj]
 ·have e1':¬ j=k:=fun h=>e1 h.symm
  by_cases e2:k=i
  ·subst e2; simp[e1,e1',hi]
  ·have e2':¬ i=k:=fun h=>e2 h.symm
   simp[e1,e1',e2,e2']
theorem eF {d:List Int} {a b n:Nat} (h1:a+n<b) (h2:b+n<d.length):Sm (JR d a b n) (a+n) (b+n)=JR d a b (n+1):=by
 have hl:=Nr (d:=d) (a:=a) (b:=b) (n:=n) (by omega) (by omega)
 apply List.ext_getElem?
 intro j
 rw[jK (by omega) (by omega),J8 (by omega) (by omega),J8 (by omega) (by omega),J8 (by omega) (by omega),J8 (by omega) (by omega)]
 by_cases e1:j=b+n
 ·subst e1
  rw[ED rfl,Eh (by omega),Eh (by omega),Eh (by omega),ED (by omega)]
  congr 1; omega
 ·rw[Eh e1]
  by_cases e2:j=a+n
  ·subst e2
   rw[ED rfl,Eh (by omega),Eh (by omega),ED (by omega)]
   congr 1; omega
  ·rw[Eh e2]
   by_cases c1:a≤j∧j<a+n
   ·rw[ED c1,ED (by omega)]
   ·rw[Eh c1]
    by_cases c2:b≤j∧j<b+n
    ·rw[ED c2,Eh (by omega),ED (by omega)]
    ·rw[Eh c2,Eh (by omega),Eh (by omega)]
theorem qR {d:List Int} {a k:Nat} (h1:a≤k) (h2:k+1<d.length):Sm (Dn d a (a+1) (k+1)) k (k+1)=Dn d a (a+1) (k+2):=by
 obtain⟨P,A,B,S,rfl,hP,hA,hB⟩:=Gw (d:=d) (a:=a) (m:=a+1) (b:=k+2) (by omega) (by omega) (by omega)
 obtain⟨B1,y,rfl⟩:∃ B1 y,B=B1 ++ [y]:=by
  have:B≠ []:=fun e=>by subst e; simp at hB; omega
  exact⟨B.dropLast,B.getLast this,(List.dropLast_concat_getLast this).symm⟩
 obtain⟨x,rfl⟩:∃ x,A = [x]:=xM.1 (by omega)
 have hB1:B1.length=k-a:=by simp at hB; omega
 have e1:Dn (P++([x]++(B1 ++ [y]++S))) a (a+1) (k+1)=P++(B1++([x]++([y]++S))):=by
  have:=DZ (P:=P) (A:=[x]) (B:=B1) (S:=[y]++S) (a:=a) (m:=a+1) (b:=k+1) hP (by simp) (by omega)
  simpa only[aY] using this
 have e2:Dn (P++([x]++(B1 ++ [y]++S))) a (a+1) (k+2)=P++(B1++([y]++([x]++S))):=by
  have:=DZ (P:=P) (A:=[x]) (B:=B1 ++ [y]) (S:=S) (a:=a) (m:=a+1) (b:=k+2) hP (by simp) (by simp; omega)
  simpa only[aY] using this
 rw[e1,e2]
 have hl:(P++B1).length=k:=by simp; omega
 have s1:∀ (u v:Int),P++(B1++([u]++([v]++S)))=(P++B1)++(u::v::S):=fun u v=>by simp
 rw[s1,s1]
 unfold Sm
 rw[BA (by omega),BA (by omega),hl,show k+1-k=1 by omega,Vg]
 rw[mW _ _ (by omega),mW _ _ (by omega),hl,show k+1-k=1 by omega,Vg]
 rfl
theorem jL {d:List Int} {m k:Nat} (h0:0<k) (h1:k≤m) (h2:m<d.length):Sm (Dn d k m (m+1)) k (k-1)=Dn d (k-1) m (m+1):=by
 obtain⟨P,A,B,S,rfl,hP,hA,hB⟩:=Gw (d:=d) (a:=k-1) (m:=m) (b:=m+1) (by omega) (by omega) (by omega)
 obtain⟨x,rfl⟩:∃ x,B = [x]:=xM.1 (by omega)
 obtain⟨y,A1,rfl⟩:∃ y A1,A=y::A1:=by
  cases A with
  | nil=>simp at hA; omega
  | cons y A1=>exact⟨y,A1,rfl⟩
 have hA1:A1.length=m-k:=by simp at hA; omega
 have e1:Dn (P++(y::A1++([x]++S))) k m (m+1)=(P ++ [y])++([x]++(A1++S)):=by
  have:=DZ (P:=P ++ [y]) (A:=A1) (B:=[x]) (S:=S) (a:=k) (m:=m) (b:=m+1) (by simp; omega) (by omega) (by simp)
  simpa only[aY,fA,bP] using this
 have e2:Dn (P++(y::A1++([x]++S))) (k-1) m (m+1)=P++([x]++(y::A1++S)):=
  DZ (P:=P) (A:=y::A1) (B:=[x]) (S:=S) (a:=k-1) (m:=m) (b:=m+1) hP (by simp; omega) (by simp)
 rw[e1,e2]
 have s1:(P ++ [y])++([x]++(A1++S))=P++(y::x::(A1++S)):=by simp
 rw[s1]
 unfold Sm
 rw[BA (by omega),BA (by omega),hP,show k-(k-1)=1 by omega,Vg]
 rw[mW _ _ (by omega),mW _ _ (by omega),hP,show k-(k-1)=1 by omega,Vg]
 rfl
theorem XJ {d:List Int} {a m:Nat} (h1:a≤m) (h2:m≤d.length):Dn d a m m=d:=by
 obtain⟨P,A,B,S,rfl,hP,hA,hB⟩:=Gw (d:=d) (a:=a) (m:=m) (b:=m) h1 (aQ _) h2
 have:B = []:=bz (by omega)
 subst this
 rw[DZ hP (by omega) (by simp)]
 simp
theorem TS {d:List Int} {m b:Nat} (h1:m≤b) (h2:b≤d.length):Dn d m m b=d:=by
 obtain⟨P,A,B,S,rfl,hP,hA,hB⟩:=Gw (d:=d) (a:=m) (m:=m) (b:=b) (aQ _) h1 h2
 have:A = []:=bz (by omega)
 subst this
 rw[DZ hP (by simp) (by omega)]
 simp
section tests
variable {key:Int→Int} {a m b:Nat} {d:List Int}
theorem Runs.len (h:Runs key a m b d):a≤m∧m≤b∧b≤d.length:=by
 obtain⟨P,L,R,S,rfl,h1,h2,h3,_⟩:=h
 simp only[aO]
 omega
theorem mD (h:Runs key a m b d) {i j:Nat} (h1:a≤i) (h2:i<m) (h3:m≤j) (h4:j<b):key (at0 d i)=key (at0 d j)→at0 d i<at0 d j:=by
 obtain⟨P,L,R,S,rfl,e1,e2,e3,_,_,hc⟩:=h
 have q1:at0 (P++(L++(R++S))) i=at0 L (i-a):=by
  rw[BA (by omega),e1,D_ (by omega)]
 have q2:at0 (P++(L++(R++S))) j=at0 R (j-m):=by
  rw[BA (by omega),BA (by omega),D_ (by omega)]
  congr 1; omega
 rw[q1,q2]
 exact hc _ (at_mem (by omega)) _ (at_mem (by omega))
theorem U0 (h:Runs key a m b d) {i j:Nat} (h1:a≤i) (h2:i<m) (h3:m≤j) (h4:j<b) (hk:¬ key (at0 d j)<key (at0 d i)):kl key (at0 d i) (at0 d j):=by
 have:=mD h h1 h2 h3 h4
 unfold kl
 omega
theorem Runs.ready (h:Runs key a m b d) (he:a<m→m<b→kl key (at0 d (m-1)) (at0 d m)):Mrg key a b d d:=by
 obtain⟨P,L,R,S,rfl,e1,e2,e3,sL,sR,hc⟩:=h
 refine⟨P,L++R,L++R,S,by simp,by simp,e1,by simp; omega,qo _, ?_⟩
 rw[og]
 refine⟨sL,sR,fun x hx y hy=>?_⟩
 obtain⟨i,hi,rfl⟩:=J7 hx
 obtain⟨j,hj,rfl⟩:=J7 hy
 have he:=he (by omega) (by omega)
 have q1:at0 (P++(L++(R++S))) (m-1)=at0 L (L.length-1):=by
  rw[BA (by omega),D_ (by omega)]
  congr 1; omega
 have q2:at0 (P++(L++(R++S))) m=at0 R 0:=by
  rw[BA (by omega),BA (by omega),D_ (by omega)]
  congr 1; omega
 rw[q1,q2] at he
 have h3:i=L.length-1∨kl key (at0 L i) (at0 L (L.length-1)):=by
  by_cases e:i=L.length-1
  ·exact .inl e
  ·exact .inr (JS sL (by omega) (by omega))
 have h4:j=0∨kl key (at0 R 0) (at0 R j):=by
  by_cases e:j=0
  ·exact .inl e
  ·exact .inr (JS sR (by omega) hj)
 rcases h3 with rfl | h3<;>rcases h4 with rfl | h4
 ·exact he
 ·exact DY he h4
 ·exact DY h3 he
 ·exact DY h3 (DY he h4)
theorem Mrg.len {d':List Int} (h:Mrg key a b d d'):d'.length=d.length:=by
 obtain⟨P,M,M',S,rfl,rfl,_,_,hp,_⟩:=h
 simp only[aO,hp.length_eq]
def yB (key:Int→Int) (d:List Int) (p lo hi start r:Nat):Prop:=lo≤start∧start≤r∧r≤hi∧(start=lo∨kl key (at0 d (start-1)) (at0 d (p-(start-1))))∧(r=hi∨kl key (at0 d (p-r)) (at0 d r))
end tests
section inss
variable {key:Int→Int} {a i j:Nat} {d0 d:List Int}
def Ins (key:Int→Int) (a i j:Nat) (d0 d:List Int):Prop:=∃ P L1 x L2 S M,d0=P++(M++(x::S))∧d=P++(L1++(x::(L2++S)))∧P.length=a∧a+M.length=i∧a+L1.length=j∧(L1++L2).Perm M∧(L1++L2).Pairwise (kl key)∧(∀ y∈M,y<x)∧∀ y∈L2,key x<key y
theorem Ins.start (h:Mrg key a i d0 d) (hi:i<d0.length) (hs:(d0.drop a).Pairwise (· < ·)):Ins key a i i d0 d:=by
 obtain⟨P,M,M',S,rfl,rfl,h1,h2,hp,hk⟩:=h
 cases S with
 | nil=>simp at hi; omega
 | cons x S =>
  refine⟨P,M',x,[],S,M,rfl,by simp,h1,h2,by rw[hp.length_eq]; exact h2,by simpa using hp,by simpa using hk,fun y hy=>?_,fun y hy=>by cases hy⟩
  rw[← h1,fC] at hs
  exact(og.1 hs).2.2 y hy x (by simp)
theorem Ins.fin (h:Ins key a i j d0 d) (he:j=a∨¬ key (at0 d j)<key (at0 d (j-1))):Mrg key a (i+1) d0 d:=by
 obtain⟨P,L1,x,L2,S,M,rfl,rfl,h1,h2,h3,hp,hk,hx,hl⟩:=h
 have q:=jJ (key:=key) (out:=L1++L2) (i:=x) (k:=L1.length) hk (fun y hy=>hx y (hp.mem_iff.1 hy)) (by simp) (by
  rcases he with he | he
  ·exact .inl (by omega)
  ·by_cases e:L1.length=0
   ·exact .inl e
   ·refine .inr ?_
    rw[D_ (by omega)]
    have q1:at0 (P++(L1++(x::(L2++S)))) j=x:=by
     rw[BA (by omega),BA (by omega),show j-P.length-L1.length=0 by omega]; rfl
    have q2:at0 (P++(L1++(x::(L2++S)))) (j-1)=at0 L1 (L1.length-1):=by
     rw[BA (by omega),D_ (by omega)]
     congr 1; omega
    rw[q1,q2] at he
    omega) (fun k hk1 hk2=>by
  rw[BA hk1]
  exact hl _ (at_mem (by simp at hk2; omega)))
 rw[mg,fC] at q
 refine⟨P,M ++ [x],L1++x::L2,S,by simp,by simp,h1,by simp; omega, ?_,q.1⟩
 exact q.2.trans (qh [x] hp)
theorem Ins.down (h:Ins key a i j d0 d) (hj:a<j) (hk:key (at0 d j)<key (at0 d (j-1))):Ins key a i (j-1) d0 (Sm d j (j-1)):=by
 obtain⟨P,L1,x,L2,S,M,rfl,rfl,h1,h2,h3,hp,hs,hx,hl⟩:=h
 obtain⟨L0,y,rfl⟩:∃ L0 y,L1=L0 ++ [y]:=by
  have:L1≠ []:=fun e=>by subst e; simp at h3; omega
  exact⟨L1.dropLast,L1.getLast this,(List.dropLast_concat_getLast this).symm⟩
 have h4:(P++L0).length=j-1:=by simp at h3 ⊢; omega
 have e1:P++(L0 ++ [y]++(x::(L2++S)))=(P++L0)++(y::x::(L2++S)):=by simp
 rw[e1] at hk ⊢
 have q1:at0 ((P++L0)++(y::x::(L2++S))) j=x:=by
  rw[BA (by omega),h4,show j-(j-1)=1 by omega]; rfl
 have q2:at0 ((P++L0)++(y::x::(L2++S))) (j-1)=y:=by
  rw[BA (by omega),h4,Vg]; rfl
 rw[q1,q2] at hk
 refine⟨P,L0,x,y::L2,S,M,rfl, ?_,h1,h2,by simp at h4 h3; omega,by simpa using hp,by simpa using hs,hx,fun z hz=>?_⟩
 ·unfold Sm
  rw[q1,q2,mW _ _ (by omega),mW _ _ (by omega),h4,show j-(j-1)=1 by omega,Vg]
  simp
 ·rcases Xz.1 hz with rfl | hz
  ·exact hk
  ·exact hl z hz
theorem Mrg.nil (ha:a≤d.length):Mrg key a a d d:=⟨d.take a,[],[],d.drop a,by simp,by simp,by simp; omega,by simp,qo _,List.Pairwise.nil⟩
end inss
theorem TT {key:Int→Int} {done:List (List Int×List Int)} {rest d d':List Int} {n:Nat} (hd:d=FZ done++rest) (hl:(FZ done).length=(Dc done).length) (hn:n≤rest.length) (h:Mrg key (Dc done).length ((Dc done).length+n) d d') :
  ∃ c:List Int×List Int,c.1=rest.take n∧dw key c∧d'=FZ (done ++ [c])++rest.drop n:=by
 obtain⟨P,M,M',S,e1,rfl,hP,hM,hp,hs⟩:=h
 rw[hd] at e1
 obtain⟨rfl,e2⟩:=DL e1 (by omega)
 have hMn:M.length=n:=by omega
 refine⟨(M,M'), ?_,⟨hp,hs⟩, ?_⟩
 ·rw[e2,← hMn,mg]
 ·rw[e2,← hMn,fC,Gj]
  simp[FZ]
end Go.Proofs.YtgkmefoghbjfnaaGreat
