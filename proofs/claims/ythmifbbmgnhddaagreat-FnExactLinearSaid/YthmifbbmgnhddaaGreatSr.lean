/- A part. -/
import Derived.Test.YthmifbbmgnhddaaGreatDa
import Derived.Test.YthmifbbmgnhddaaGreatTy
import Derived.Test.YthmifbbmgnhddaaGreatCs
set_option linter.unusedSimpArgs false
set_option linter.unusedVariables false
set_option maxHeartbeats 4000000
set_option maxRecDepth 10000
open Go.Proofs.Tryz
namespace Go.Proofs.YthmifbbmgnhddaaGreat
open Go.Vm
section order
variable (key:Int→Int)
def kl (x y:Int):Prop:=key x<key y∨(key x=key y∧x<y)
variable {key}
theorem KU {x y z:Int} (h1:kl key x y) (h2:kl key y z):kl key x z:=by unfold kl at *; omega
theorem AJx {x:Int} (h:kl key x x):False:=by unfold kl at h; omega
theorem AFn {x y:Int} (h1:kl key x y) (h2:kl key y x):False:=AJx (KU h1 h2)
theorem ACc:∀ {l1 l2:List Int},l1.Pairwise (kl key)→l2.Pairwise (kl key)→l1.Perm l2→l1=l2
 | [],l2,_,_,p=>ASM
 | x::l1,[],_,_,p=>ASM
 | x::l1,y::l2,h1,h2,p=>by
  rw[abq] at h1 h2
  have hxy:x=y:=by
   have hx:x∈y::l2:=p.subset AQ3
   have hy:y∈x::l1:=p.symm.subset AQ3
   rcases Rx.1 hx with e | e
   ·exact e
   ·grind [Rx,AFn]
  subst hxy
  rw[ACc h1.2 h2.2 ((List.perm_cons x).1 p)]
end order
def Hy (d:List Int) (a m b:Nat):List Int:=d.take a++((d.drop m).take (b-m)++((d.drop a).take (m-a)++d.drop b))
def Su (d:List Int) (a b n:Nat):List Int:=d.take a++((d.drop b).take n++((d.drop (a+n)).take (b-(a+n))++((d.drop a).take n++d.drop (b+n))))
theorem NK {d:List Int} {a m b:Nat} (h1:a≤m) (h2:m≤b) (h3:b≤d.length):∃ P A B S,d=P++(A++(B++S))∧P.length=a∧A.length=m-a∧B.length=b-m:=by
 refine⟨d.take a,(d.drop a).take (m-a),(d.drop m).take (b-m),d.drop b, ?_,AQ5,AQ5,AQ5⟩
 have e1:(d.drop m).take (b-m)++d.drop b=d.drop m:=by
  have:=aas (b-m) (d.drop m)
  rw[abg] at this
  rwa [show m+(b-m)=b from AQ2] at this
 have e2:(d.drop a).take (m-a)++d.drop m=d.drop a:=by
  have:=aas (m-a) (d.drop a)
  rw[abg] at this
  rwa [show a+(m-a)=m from AQ2] at this
 simp_all
theorem IK {P A B S:List Int} {a m b:Nat} (ha:P.length=a) (hA:a+A.length=m) (hB:m+B.length=b):Hy (P++(A++(B++S))) a m b=P++(B++(A++S)):=by
 subst ha; subst hA; subst hB
 unfold Hy
 grind [abg,abv,List.take_left,Nat.add_sub_cancel_left]
theorem rX {P A M B S:List Int} {a b n:Nat} (ha:P.length=a) (hA:A.length=n) (hM:a+n+M.length=b) (hB:B.length=n):Su (P++(A++(M++(B++S)))) a b n=P++(B++(M++(A++S))):=by
 subst ha; subst hA; subst hM
 unfold Su
 have e1:(P++(A++(M++(B++S)))).drop (P.length+A.length)=M++(B++S):=by
  rw[← abg,abv,abv]
 have e2:(P++(A++(M++(B++S)))).drop (P.length+A.length+M.length)=B++S:=by
  rw[← abg,e1,abv]
 have e3:(P++(A++(M++(B++S)))).drop (P.length+A.length+M.length+A.length)=S:=by
  rw[← abg,e2,← hB,abv]
 simp_all
theorem Ws {d:List Int} {a b n:Nat} (h1:a+n≤b) (h2:b+n≤d.length):(Su d a b n).length=d.length:=by
 unfold Su
 grind
theorem x_ {d:List Int} {a m b:Nat} (h1:a≤m) (h2:m≤b) (h3:b≤d.length):(Hy d a m b).length=d.length:=by
 unfold Hy
 grind
theorem AFo {d:List Int} {m i j:Nat} (hi:i≤m) (hij:j<i) (hm:m+j≤d.length):Hy (Su d (m-i) m j) (m-(i-j)) m (m+j)=Hy d (m-i) m (m+j):=by
 obtain⟨P,A,B,S,rfl,hP,hA,hB⟩:=NK (d:=d) (a:=m-i) (m:=m) (b:=m+j) AQ2 AQ2 hm
 obtain⟨A1,A2,rfl,h1⟩:∃ A1 A2,A=A1++A2∧A1.length=j:=⟨A.take j,A.drop j,(aas _ _).symm,AQ5⟩
 grind [aZ,rX,IK]
theorem AD8 {d:List Int} {m i j:Nat} (hi:i≤m) (hij:i<j) (hm:m+j≤d.length):Hy (Su d (m-i) (m+j-i) i) (m-i) m (m+(j-i))=Hy d (m-i) m (m+j):=by
 obtain⟨P,A,B,S,rfl,hP,hA,hB⟩:=NK (d:=d) (a:=m-i) (m:=m) (b:=m+j) AQ2 AQ2 hm
 obtain⟨B1,B2,rfl,h1⟩:∃ B1 B2,B=B1++B2∧B1.length=j-i:=⟨B.take (j-i),B.drop (j-i),(aas _ _).symm,AQ5⟩
 grind [aZ,rX,IK]
theorem AFp {d:List Int} {m i:Nat} (hi:i≤m) (hm:m+i≤d.length):Su d (m-i) m i=Hy d (m-i) m (m+i):=by
 obtain⟨P,A,B,S,rfl,hP,hA,hB⟩:=NK (d:=d) (a:=m-i) (m:=m) (b:=m+i) AQ2 AQ2 hm
 rw[IK hP AQ2 AQ2]
 have:=rX (P:=P) (A:=A) (M:=[]) (B:=B) (S:=S) (a:=m-i) (b:=m) (n:=i) hP AQ2 AQ5 AQ2
 grind
section merge
variable {key:Int→Int}
def Runs (key:Int→Int) (a m b:Nat) (d:List Int):Prop:=∃ P L R S,d=P++(L++(R++S))∧P.length=a∧a+L.length=m∧m+R.length=b∧L.Pairwise (kl key)∧R.Pairwise (kl key)∧∀ x∈L,∀ y∈R,key x=key y→x<y
def Mrg (key:Int→Int) (a b:Nat) (d d':List Int):Prop:=∃ P M M' S,d=P++(M++S)∧d'=P++(M'++S)∧P.length=a∧a+M.length=b∧M'.Perm M∧M'.Pairwise (kl key)
theorem GG {α:Type} {P P' A A':List α} (h:P++A=P'++A') (hl:P.length=P'.length):P=P'∧A=A':=List.append_inj h hl
theorem Runs.one {a m b:Nat} {d:List Int} (h:Runs key a m b d) (he:a=m∨m=b):Mrg key a b d d:=by
 obtain⟨P,L,R,S,rfl,h1,h2,h3,h4,h5,_⟩:=h
 refine⟨P,L++R,L++R,S,AQ3,AQ3,h1,AQ5,abI _, ?_⟩
 grind
def at0 (d:List Int) (i:Nat):Int:=d.getD i 0
theorem DX {P A:List Int} {i:Nat} (h:P.length≤i):at0 (P++A) i=at0 A (i-P.length):=by
 unfold at0
 grind
theorem Jh {P A:List Int} {i:Nat} (h:i<P.length):at0 (P++A) i=at0 P i:=by
 unfold at0
 grind
theorem Sv {L:List Int} {x:Int} (h:x∈L):∃ i,i<L.length∧at0 L i=x:=by
 obtain⟨i,hi,e⟩:=abC.1 h
 exact⟨i,hi,by unfold at0; grind⟩
theorem at_mem {L:List Int} {i:Nat} (h:i<L.length):at0 L i∈L:=by
 unfold at0
 grind
theorem Qr {L:List Int} (h:L.Pairwise (kl key)) {i j:Nat} (hij:i<j) (hj:j<L.length):kl key (at0 L i) (at0 L j):=by
 have:=List.pairwise_iff_getElem.1 h i j AQ2 hj hij
 unfold at0
 grind
theorem iR {a m b s e:Nat} {d:List Int} (h:Runs key a m b d) (hs1:a≤s) (hs2:s≤m) (he1:m≤e) (he2:e≤b)
  (h1:a<s→e<b→kl key (at0 d (s-1)) (at0 d e)) (h2:s<m→m<e→kl key (at0 d (e-1)) (at0 d s)) :
  Runs key a s (s+(e-m)) (Hy d s m e)∧∀ d2,Mrg key a (s+(e-m)) (Hy d s m e) d2→Runs key (s+(e-m)) e b d2∧∀ d3,Mrg key (s+(e-m)) b d2 d3→Mrg key a b d d3:=by
 obtain⟨P,L,R,S,rfl,hP,hL,hR,sL,sR,hc⟩:=h
 obtain⟨L1,L2,rfl,hL1⟩:∃ L1 L2,L=L1++L2∧L1.length=s-a:=⟨L.take (s-a),L.drop (s-a),(aas _ _).symm,AQ5⟩
 obtain⟨R1,R2,rfl,hR1⟩:∃ R1 R2,R=R1++R2∧R1.length=e-m:=⟨R.take (e-m),R.drop (e-m),(aas _ _).symm,AQ5⟩
 have hL2:s+L2.length=m:=by simp at hL; omega
 have hR2:e+R2.length=b:=by simp at hR; omega
 rw[aa9] at sL sR
 obtain⟨sL1,sL2,cL⟩:=sL
 obtain⟨sR1,sR2,cR⟩:=sR
 have i1:∀ x∈L1,∀ y∈R2,kl key x y:=by
  intro x hx y hy
  obtain⟨i,hi,rfl⟩:=Sv hx
  obtain⟨j,hj,rfl⟩:=Sv hy
  have h1:=h1 AQ2 AQ2
  have e1:at0 (P++(L1++L2++(R1++R2++S))) (s-1)=at0 L1 (L1.length-1):=by
   rw[DX AQ2,aZ,Jh AQ2]
   congr 1; omega
  have e2:at0 (P++(L1++L2++(R1++R2++S))) e=at0 R2 0:=by
   rw[DX AQ2,DX AQ5,aZ,DX AQ5,Jh AQ5]
   congr 1; simp; omega
  rw[e1,e2] at h1
  have h3:i=L1.length-1∨kl key (at0 L1 i) (at0 L1 (L1.length-1)):=by
   by_cases e:i=L1.length-1
   ·exact .inl e
   ·grind [Qr]
  have h4:j=0∨kl key (at0 R2 0) (at0 R2 j):=by
   by_cases e:j=0
   ·exact .inl e
   ·grind [Qr]
  rcases h3 with rfl | h3<;>rcases h4 with rfl | h4
  ·exact h1
  ·exact KU h1 h4
  ·exact KU h3 h1
  ·grind [KU]
 have i2:∀ y∈R1,∀ x∈L2,kl key y x:=by
  intro y hy x hx
  obtain⟨i,hi,rfl⟩:=Sv hx
  obtain⟨j,hj,rfl⟩:=Sv hy
  have h2:=h2 AQ2 AQ2
  have e1:at0 (P++(L1++L2++(R1++R2++S))) (e-1)=at0 R1 (R1.length-1):=by
   rw[DX AQ2,DX AQ5,aZ,Jh AQ5]
   congr 1; simp; omega
  have e2:at0 (P++(L1++L2++(R1++R2++S))) s=at0 L2 0:=by
   rw[DX AQ2,aZ,DX AQ2,Jh AQ2]
   congr 1; omega
  rw[e1,e2] at h2
  have h3:j=R1.length-1∨kl key (at0 R1 j) (at0 R1 (R1.length-1)):=by
   by_cases e:j=R1.length-1
   ·exact .inl e
   ·grind [Qr]
  have h4:i=0∨kl key (at0 L2 0) (at0 L2 i):=by
   by_cases e:i=0
   ·exact .inl e
   ·grind [Qr]
  rcases h3 with rfl | h3<;>rcases h4 with rfl | h4
  ·exact h2
  ·exact KU h2 h4
  ·exact KU h3 h2
  ·grind [KU]
 have er:Hy (P++(L1++L2++(R1++R2++S))) s m e=P++(L1++(R1++(L2++(R2++S)))):=by
  have:=IK (P:=P++L1) (A:=L2) (B:=R1) (S:=R2++S) (a:=s) (m:=m) (b:=e) AQ5 hL2 AQ2
  simpa only[aZ] using this
 rw[er]
 refine⟨⟨P,L1,R1,L2++(R2++S),rfl,hP,AQ2,AQ2,sL1,sR1,fun x hx y hy=>hc x ARS y ASE⟩,fun d2 h=>?_⟩
 obtain⟨P',M,M1,S',e1,rfl,hP',hM,p1,s1⟩:=h
 obtain⟨rfl,e2⟩:=GG e1 AQ2
 have e3:L1++R1++(L2++(R2++S))=M++S':=by rw[← e2]; simp only[aZ]
 obtain⟨rfl,rfl⟩:=GG e3 AQ5
 have hM1:M1.length=(L1++R1).length:=p1.length_eq
 refine⟨⟨P++M1,L2,R2,S,AQ3,AQ6,AQ2,hR2,sL2,sR2,fun x hx y hy=>hc x ARS y ASE⟩,fun d3 h=>?_⟩
 obtain⟨P',N,M2,S',e1,rfl,hP',hN,p2,s2⟩:=h
 have e4:(P++M1)++(L2++(R2++S))=P'++(N++S'):=by rw[← e1]; simp only[aZ]
 obtain⟨rfl,e5⟩:=GG e4 AQ6
 have e6:L2++R2++S=N++S':=by rw[← e5]; simp only[aZ]
 obtain⟨rfl,rfl⟩:=GG e6 AQ5
 refine⟨P,L1++L2++(R1++R2),M1++M2,S,AQ3,AQ3,hP,AQ5, ?_, ?_⟩
 ·grind
 grind
end merge
section blocks
variable {key:Int→Int}
def Szs (n:Nat):List (List Int×List Int)→Prop
 | []=>True
 | [c]=>c.1.length≤n
 | c::r=>c.1.length=n∧Szs n r
def BOk (key:Int→Int) (c:List Int×List Int):Prop:=c.2.Perm c.1∧c.2.Pairwise (kl key)
def Gm (cs:List (List Int×List Int)):List Int:=(cs.map Prod.fst).flatten
def KW (cs:List (List Int×List Int)):List Int:=(cs.map Prod.snd).flatten
theorem I9 (a b:List (List Int×List Int)):Gm (a++b)=Gm a++Gm b:=by simp[Gm]
theorem MQ (a b:List (List Int×List Int)):KW (a++b)=KW a++KW b:=by simp[KW]
theorem F6 (c:List Int×List Int) (b:List (List Int×List Int)):Gm (c::b)=c.1++Gm b:=by simp[Gm]
theorem JP (c:List Int×List Int) (b:List (List Int×List Int)):KW (c::b)=c.2++KW b:=by simp[KW]
theorem MR:∀ (cs:List (List Int×List Int)),(∀ c∈cs,BOk key c)→(KW cs).length=(Gm cs).length
 | [],_=>rfl
 | c::cs,h=>by
  rw[F6,JP,aN,aN,MR cs fun x hx=>h x ARS,(h c AQ3).1.length_eq]
theorem Szs.cons {n:Nat} {c:List Int×List Int} {r:List (List Int×List Int)} (h:Szs n (c::r)):c.1.length≤n∧Szs n r∧(r≠ []→c.1.length=n):=by
 cases r with
 | nil=>exact⟨h,trivial,fun h=>absurd rfl h⟩
 | cons d r=>exact⟨Nat.le_of_eq h.1,h.2,fun _=>h.1⟩
theorem Szs.mk {n:Nat} {c:List Int×List Int} {r:List (List Int×List Int)} (h1:c.1.length=n) (h2:Szs n r):Szs n (c::r):=by
 cases r with
 | nil=>exact Nat.le_of_eq h1
 | cons d r=>exact⟨h1,h2⟩
theorem Szs.full {n:Nat}:∀ {a b:List (List Int×List Int)},(∀ c∈a,c.1.length=n)→Szs n b→Szs n (a++b)
 | [],_,_,h=>h
 | c::a,b,h1,h2=>Szs.mk (h1 c AQ3) (Szs.full (fun x hx=>h1 x ARS) h2)
theorem ABM {done:List (List Int×List Int)} {c1 c2:List Int×List Int} {rest:List (List Int×List Int)} {d0 d:List Int} (hd0:d0=Gm (done++c1::c2::rest)) (hd:d=KW (done++c1::c2::rest)) (hok:∀ c∈done++c1::c2::rest,BOk key c) (hs:d0.Pairwise (· < ·)) :
  Runs key (Gm done).length ((Gm done).length+c1.1.length) ((Gm done).length+c1.1.length+c2.1.length) d:=by
 have hl:=MR done fun c hc=>hok c ASS
 have o1:=hok c1 AQ3
 have o2:=hok c2 AQ3
 refine⟨KW done,c1.2,c2.2,KW rest, ?_,hl,by rw[o1.1.length_eq],by rw[o2.1.length_eq],o1.2,o2.2,fun x hx y hy _=>?_⟩
 ·grind [MQ,JP]
 ·rw[hd0,I9,F6,F6,aa9] at hs
  have:=hs.2.1
  rw[aa9] at this
  exact this.2.2 x (o1.1.mem_iff.1 hx) y (by simp[o2.1.mem_iff.1 hy])
theorem rY {done:List (List Int×List Int)} {c1 c2:List Int×List Int} {rest:List (List Int×List Int)} {d0 d d':List Int} (hd0:d0=Gm (done++c1::c2::rest)) (hd:d=KW (done++c1::c2::rest)) (hok:∀ c∈done++c1::c2::rest,BOk key c)
  (h:Mrg key (Gm done).length ((Gm done).length+c1.1.length+c2.1.length) d d'):∃ c:List Int×List Int,c.1=c1.1++c2.1∧BOk key c∧d0=Gm (done++c::rest)∧d'=KW (done++c::rest):=by
 have hl:=MR done fun c hc=>hok c ASS
 have o1:=hok c1 AQ3
 have o2:=hok c2 AQ3
 obtain⟨P,M,M',S,e1,rfl,hP,hM,hp,hs⟩:=h
 rw[hd,MQ,JP,JP,← aZ c1.2] at e1
 obtain⟨rfl,e2⟩:=GG e1 AQ2
 obtain⟨rfl,rfl⟩:=GG e2 (by simp[o1.1.length_eq,o2.1.length_eq]; omega)
 refine⟨(c1.1++c2.1,M'),rfl,⟨hp.trans (List.Perm.append o1.1 o2.1),hs⟩, ?_, ?_⟩
 ·grind [I9,F6,aZ]
 ·rw[MQ,JP]
theorem nZ {n:Nat} {cs:List (List Int×List Int)} (hok:∀ c∈cs,BOk key c) (hz:Szs n cs) (hn:(Gm cs).length≤n) (h0:0<n):(KW cs).Perm (Gm cs)∧(KW cs).Pairwise (kl key):=by
 cases cs with
 | nil=>exact⟨abI _,List.Pairwise.nil⟩
 | cons c r =>
  have hr:Gm r = []:=by
   cases r with
   | nil=>rfl
   | cons d r =>
    have:=hz.cons.2.2 AQ3
    rw[F6,aN] at hn
    exact bY AQ2
  have hr2:KW r = []:=by
   have:=MR r fun x hx=>hok x ARS
   rw[hr] at this
   exact bY this
  rw[F6,JP,hr,hr2,bK,bK]
  exact hok c AQ3
end blocks
theorem AFq {key:Int→Int} {out:List Int} {i:Int} {k:Nat} (hs:out.Pairwise (kl key)) (hi:∀ x∈out,x<i) (hk:k≤out.length) (h1:k=0∨key (at0 out (k-1))≤key i) (h2:∀ j,k≤j→j<out.length→key i<key (at0 out j)) :
  (out.take k++i::out.drop k).Pairwise (kl key)∧(out.take k++i::out.drop k).Perm (out ++ [i]):=by
 have hlt:∀ x∈out.take k,kl key x i:=by
  intro x hx
  obtain⟨j,hj,rfl⟩:=Sv hx
  have hjk:j<k:=by simp at hj; omega
  have e:at0 (out.take k) j=at0 out j:=by
   unfold at0
   rw[abk,abk,aa2]
   simp[hjk]
  rw[e]
  rcases h1 with rfl | h1
  ·omega
  ·have hxi:=hi (at0 out j) (at_mem AQ2)
   have hle:key (at0 out j)≤key (at0 out (k-1)):=by
    by_cases e2:j=k-1
    ·grind
    ·have:=Qr hs (i:=j) (j:=k-1) AQ2 AQ2
     unfold kl at this; omega
   unfold kl; omega
 have hgt:∀ x∈out.drop k,kl key i x:=by
  intro x hx
  obtain⟨j,hj,rfl⟩:=Sv hx
  have e:at0 (out.drop k) j=at0 out (k+j):=by
   unfold at0
   rw[abk,abk,abb]
  rw[e]
  exact .inl (h2 (k+j) AQ2 AQ6)
 constructor
 ·grind [aa9,abq,List.take_sublist,List.drop_sublist,Rx,KU]
 grind [List.perm_append_comm,List.perm_middle,aas]
theorem yA {d:List Int} {a b n:Nat} (h1:a+n≤b) (h2:b+n≤d.length) (j:Nat):(Su d a b n)[j]?=if a≤j∧j<a+n then d[j-a+b]? else if b≤j∧j<b+n then d[j-b+a]? else d[j]?:=by
 unfold Su
 by_cases c1:j<a
 ·grind
 ·have l1:(d.take a).length=a:=by simp; omega
  rw[bf AQ2,l1]
  by_cases c2:j<a+n
  ·grind
  ·have l2:((d.drop b).take n).length=n:=by simp; omega
   rw[bf AQ2,l2,bu AQ2]
   by_cases c3:j<b
   ·grind
   ·have l3:((d.drop (a+n)).take (b-(a+n))).length=b-(a+n):=by simp; omega
    rw[bf AQ2,l3]
    by_cases c4:j<b+n
    ·grind
    ·have l4:((d.drop a).take n).length=n:=by simp; omega
     rw[bf AQ2,l4,bu AQ2,abb]
     grind
theorem AD_ {d:List Int} {a b:Nat} (h1:a≤b) (h2:b≤d.length):Su d a b 0=d:=by
 apply abE
 grind [yA]
def lX (d:List Int) (i j:Nat):List Int:=(d.set i (at0 d j)).set j (at0 d i)
theorem Qs {d:List Int} {i:Nat} (h:i<d.length):d[i]?=some (at0 d i):=by
 unfold at0
 grind
theorem AFr {d:List Int} {i j:Nat} (hi:i<d.length) (hj:j<d.length) (k:Nat):(lX d i j)[k]?=if k=j then d[i]? else if k=i then d[j]? else d[k]?:=by
 unfold lX
 grind [vG,bi,Qs]
theorem AEA {d:List Int} {a b n:Nat} (h1:a+n<b) (h2:b+n<d.length):lX (Su d a b n) (a+n) (b+n)=Su d a b (n+1):=by
 have hl:=Ws (d:=d) (a:=a) (b:=b) (n:=n) AQ2 AQ2
 apply abE
 grind [AFr,yA]
theorem AJy {d:List Int} {a k:Nat} (h1:a≤k) (h2:k+1<d.length):lX (Hy d a (a+1) (k+1)) k (k+1)=Hy d a (a+1) (k+2):=by
 obtain⟨P,A,B,S,rfl,hP,hA,hB⟩:=NK (d:=d) (a:=a) (m:=a+1) (b:=k+2) AQ2 AQ2 AQ2
 obtain⟨B1,y,rfl⟩:∃ B1 y,B=B1 ++ [y]:=by
  have:B≠ []:=fun e=>AQ6
  exact⟨B.dropLast,B.getLast this,(List.dropLast_concat_getLast this).symm⟩
 obtain⟨x,rfl⟩:∃ x,A = [x]:=abK.1 AQ2
 have hB1:B1.length=k-a:=by simp at hB; omega
 have e1:Hy (P++([x]++(B1 ++ [y]++S))) a (a+1) (k+1)=P++(B1++([x]++([y]++S))):=by
  have:=IK (P:=P) (A:=[x]) (B:=B1) (S:=[y]++S) (a:=a) (m:=a+1) (b:=k+1) hP AQ3 AQ2
  simpa only[aZ] using this
 have e2:Hy (P++([x]++(B1 ++ [y]++S))) a (a+1) (k+2)=P++(B1++([y]++([x]++S))):=by
  have:=IK (P:=P) (A:=[x]) (B:=B1 ++ [y]) (S:=S) (a:=a) (m:=a+1) (b:=k+2) hP AQ3 AQ5
  simpa only[aZ] using this
 rw[e1,e2]
 have hl:(P++B1).length=k:=AQ5
 have s1:∀ (u v:Int),P++(B1++([u]++([v]++S)))=(P++B1)++(u::v::S):=fun u v=>AQ3
 rw[s1,s1]
 unfold lX
 rw[DX AQ2,DX AQ2,hl,show k+1-k=1 from AQ2,ZO]
 rw[aaK _ _ AQ2,aaK _ _ AQ2,hl,show k+1-k=1 from AQ2,ZO]
 rfl
theorem AFs {d:List Int} {m k:Nat} (h0:0<k) (h1:k≤m) (h2:m<d.length):lX (Hy d k m (m+1)) k (k-1)=Hy d (k-1) m (m+1):=by
 obtain⟨P,A,B,S,rfl,hP,hA,hB⟩:=NK (d:=d) (a:=k-1) (m:=m) (b:=m+1) AQ2 AQ2 AQ2
 obtain⟨x,rfl⟩:∃ x,B = [x]:=abK.1 AQ2
 obtain⟨y,A1,rfl⟩:∃ y A1,A=y::A1:=by
  cases A with
  | nil=>grind
  | cons y A1=>grind
 have hA1:A1.length=m-k:=by simp at hA; omega
 have e1:Hy (P++(y::A1++([x]++S))) k m (m+1)=(P ++ [y])++([x]++(A1++S)):=by
  have:=IK (P:=P ++ [y]) (A:=A1) (B:=[x]) (S:=S) (a:=k) (m:=m) (b:=m+1) AQ5 AQ2 AQ3
  simpa only[aZ,aT,aG] using this
 have e2:Hy (P++(y::A1++([x]++S))) (k-1) m (m+1)=P++([x]++(y::A1++S)):=
  IK (P:=P) (A:=y::A1) (B:=[x]) (S:=S) (a:=k-1) (m:=m) (b:=m+1) hP AQ5 AQ3
 rw[e1,e2]
 have s1:(P ++ [y])++([x]++(A1++S))=P++(y::x::(A1++S)):=AQ3
 rw[s1]
 unfold lX
 rw[DX AQ2,DX AQ2,hP,show k-(k-1)=1 from AQ2,ZO]
 rw[aaK _ _ AQ2,aaK _ _ AQ2,hP,show k-(k-1)=1 from AQ2,ZO]
 rfl
theorem yB {d:List Int} {a m:Nat} (h1:a≤m) (h2:m≤d.length):Hy d a m m=d:=by
 obtain⟨P,A,B,S,rfl,hP,hA,hB⟩:=NK (d:=d) (a:=a) (m:=m) (b:=m) h1 (aI _) h2
 grind [bY,IK]
theorem ng {d:List Int} {m b:Nat} (h1:m≤b) (h2:b≤d.length):Hy d m m b=d:=by
 obtain⟨P,A,B,S,rfl,hP,hA,hB⟩:=NK (d:=d) (a:=m) (m:=m) (b:=b) (aI _) h1 h2
 grind [bY,IK]
section tests
variable {key:Int→Int} {a m b:Nat} {d:List Int}
theorem Runs.len (h:Runs key a m b d):a≤m∧m≤b∧b≤d.length:=by
 obtain⟨P,L,R,S,rfl,h1,h2,h3,_⟩:=h
 grind
theorem AHj (h:Runs key a m b d) {i j:Nat} (h1:a≤i) (h2:i<m) (h3:m≤j) (h4:j<b):key (at0 d i)=key (at0 d j)→at0 d i<at0 d j:=by
 obtain⟨P,L,R,S,rfl,e1,e2,e3,_,_,hc⟩:=h
 grind [DX,Jh,at_mem]
theorem rZ (h:Runs key a m b d) {i j:Nat} (h1:a≤i) (h2:i<m) (h3:m≤j) (h4:j<b) (hk:¬ key (at0 d j)<key (at0 d i)):kl key (at0 d i) (at0 d j):=by
 have:=AHj h h1 h2 h3 h4
 unfold kl
 omega
theorem Runs.ready (h:Runs key a m b d) (he:a<m→m<b→kl key (at0 d (m-1)) (at0 d m)):Mrg key a b d d:=by
 obtain⟨P,L,R,S,rfl,e1,e2,e3,sL,sR,hc⟩:=h
 refine⟨P,L++R,L++R,S,AQ3,AQ3,e1,AQ5,abI _, ?_⟩
 rw[aa9]
 refine⟨sL,sR,fun x hx y hy=>?_⟩
 obtain⟨i,hi,rfl⟩:=Sv hx
 obtain⟨j,hj,rfl⟩:=Sv hy
 have he:=he AQ2 AQ2
 have q1:at0 (P++(L++(R++S))) (m-1)=at0 L (L.length-1):=by
  rw[DX AQ2,Jh AQ2]
  congr 1; omega
 have q2:at0 (P++(L++(R++S))) m=at0 R 0:=by
  rw[DX AQ2,DX AQ2,Jh AQ2]
  congr 1; omega
 rw[q1,q2] at he
 have h3:i=L.length-1∨kl key (at0 L i) (at0 L (L.length-1)):=by
  by_cases e:i=L.length-1
  ·exact .inl e
  ·grind [Qr]
 grind [Qr,KU]
theorem Mrg.len {d':List Int} (h:Mrg key a b d d'):d'.length=d.length:=by
 obtain⟨P,M,M',S,rfl,rfl,_,_,hp,_⟩:=h
 simp only[aN,hp.length_eq]
def ANc (key:Int→Int) (d:List Int) (p lo hi start r:Nat):Prop:=lo≤start∧start≤r∧r≤hi∧(start=lo∨kl key (at0 d (start-1)) (at0 d (p-(start-1))))∧(r=hi∨kl key (at0 d (p-r)) (at0 d r))
end tests
section inss
variable {key:Int→Int} {a i j:Nat} {d0 d:List Int}
def Ins (key:Int→Int) (a i j:Nat) (d0 d:List Int):Prop:=∃ P L1 x L2 S M,d0=P++(M++(x::S))∧d=P++(L1++(x::(L2++S)))∧P.length=a∧a+M.length=i∧a+L1.length=j∧(L1++L2).Perm M∧(L1++L2).Pairwise (kl key)∧(∀ y∈M,y<x)∧∀ y∈L2,key x<key y
theorem Ins.start (h:Mrg key a i d0 d) (hi:i<d0.length) (hs:(d0.drop a).Pairwise (· < ·)):Ins key a i i d0 d:=by
 obtain⟨P,M,M',S,rfl,rfl,h1,h2,hp,hk⟩:=h
 cases S with
 | nil=>grind
 | cons x S =>
  refine⟨P,M',x,[],S,M,rfl,AQ3,h1,h2,by rw[hp.length_eq]; exact h2,AQ6,ARc,fun y hy=>?_,fun y hy=>by cases hy⟩
  rw[← h1,abv] at hs
  exact(aa9.1 hs).2.2 y hy x AQ3
theorem Ins.fin (h:Ins key a i j d0 d) (he:j=a∨¬ key (at0 d j)<key (at0 d (j-1))):Mrg key a (i+1) d0 d:=by
 obtain⟨P,L1,x,L2,S,M,rfl,rfl,h1,h2,h3,hp,hk,hx,hl⟩:=h
 have q:=AFq (key:=key) (out:=L1++L2) (i:=x) (k:=L1.length) hk (fun y hy=>hx y (hp.mem_iff.1 hy)) AQ3 (by
  rcases he with he | he
  ·omega
  ·by_cases e:L1.length=0
   ·exact .inl e
   ·refine .inr ?_
    rw[Jh AQ2]
    have q1:at0 (P++(L1++(x::(L2++S)))) j=x:=by
     rw[DX AQ2,DX AQ2,show j-P.length-L1.length=0 from AQ2]; rfl
    grind [DX,Jh]) (fun k hk1 hk2=>by
  grind [DX,at_mem])
 rw[List.take_left,abv] at q
 refine⟨P,M ++ [x],L1++x::L2,S,AQ3,AQ3,h1,AQ5, ?_,q.1⟩
 grind
theorem Ins.down (h:Ins key a i j d0 d) (hj:a<j) (hk:key (at0 d j)<key (at0 d (j-1))):Ins key a i (j-1) d0 (lX d j (j-1)):=by
 obtain⟨P,L1,x,L2,S,M,rfl,rfl,h1,h2,h3,hp,hs,hx,hl⟩:=h
 obtain⟨L0,y,rfl⟩:∃ L0 y,L1=L0 ++ [y]:=by
  have:L1≠ []:=fun e=>AQ6
  exact⟨L1.dropLast,L1.getLast this,(List.dropLast_concat_getLast this).symm⟩
 have h4:(P++L0).length=j-1:=by simp at h3 ⊢; omega
 have e1:P++(L0 ++ [y]++(x::(L2++S)))=(P++L0)++(y::x::(L2++S)):=AQ3
 rw[e1] at hk ⊢
 have q1:at0 ((P++L0)++(y::x::(L2++S))) j=x:=by
  rw[DX AQ2,h4,show j-(j-1)=1 from AQ2]; rfl
 have q2:at0 ((P++L0)++(y::x::(L2++S))) (j-1)=y:=by
  rw[DX AQ2,h4,ZO]; rfl
 rw[q1,q2] at hk
 refine⟨P,L0,x,y::L2,S,M,rfl, ?_,h1,h2,AQ6,by simpa using hp,by simpa using hs,hx,fun z hz=>?_⟩
 ·unfold lX
  rw[q1,q2,aaK _ _ AQ2,aaK _ _ AQ2,h4,show j-(j-1)=1 from AQ2,ZO]
  simp
 grind
theorem Mrg.nil (ha:a≤d.length):Mrg key a a d d:=⟨d.take a,[],[],d.drop a,AQ3,AQ3,AQ5,AQ3,abI _,List.Pairwise.nil⟩
end inss
theorem ni {key:Int→Int} {done:List (List Int×List Int)} {rest d d':List Int} {n:Nat} (hd:d=KW done++rest) (hl:(KW done).length=(Gm done).length) (hn:n≤rest.length) (h:Mrg key (Gm done).length ((Gm done).length+n) d d') :
  ∃ c:List Int×List Int,c.1=rest.take n∧BOk key c∧d'=KW (done ++ [c])++rest.drop n:=by
 obtain⟨P,M,M',S,e1,rfl,hP,hM,hp,hs⟩:=h
 rw[hd] at e1
 obtain⟨rfl,e2⟩:=GG e1 AQ2
 have hMn:M.length=n:=AQ2
 refine⟨(M,M'), ?_,⟨hp,hs⟩, ?_⟩
 ·grind
 ·rw[e2,← hMn,abv,MQ]
  simp[KW]
@[go_sem] theorem ALk {n:Nat} {d:Departure}:Region.binds .any ⟨n,.textOnly d⟩=false:=rfl
theorem BI (N ty:Nat) (d:List Int):Aq N ⟨ty,1,d.map intC,true,true⟩=true:=by
 simp only[Aq,AP intC.pure,Pv]
theorem I_ {d:List Int} {i:Nat} (h:i<d.length):(d.map intC)[i]?=some [.v (.int .i64 (at0 d i))]:=by
 rw[lg,Qs h]; rfl
theorem dL (d:List Int) (i:Nat) (n:Int):(d.map intC).set i [Cl.v (.int .i64 n)]=(d.set i n).map intC:=by rw[yI]; rfl
theorem FW (l:List Int):D7 (l.map intC)=true:=Ea (AP intC.pure)
theorem Oc (d:List Int) (a b n:Nat) (h1:a+n≤b) (h2:b+n≤d.length) (hl:d.length≤1048576) (g:FuncId) (xs:List (List Cl)) :
  MCtr prog 400 false [.ow 3 1 (d.map intC)] [.c (.v (.int .i64 ((a:Int)))),.c (.v (.int .i64 ((b:Int)))),.c (.v (.int .i64 ((n:Int)))),.clo g xs] (fun cl' rs=>cl' = [.ow 3 1 ((Su d a b n).map intC)]∧rs = []):=by
 refine ACf (fn:=f400) call400 func400 rfl mixed ntmps400 results400 (by kernel_rfl) rfl (.inr rfl) fun us hw0 hw=>?_
 simp only[go_sem]
 refine AAa 1 [0,1,2,3,10] (A:=Nat) (fun i=>⟨38,[(0,.pin (.c (.ref 0)) (mkV false us)),(1,.c (.v (.int .i64 ((a:Int))))),(2,.c (.v (.int .i64 ((b:Int))))),(3,.c (.v (.int .i64 ((n:Int))))),(10,.c (.v (.int .i64 ((i:Int)))))],[⟨3,1,(Su d a b i).map intC,true,true⟩]⟩)
  (fun i=>i≤n) (fun i=>n-i) 0 ⟨⟨rfl,ASD⟩,by rw[AD_ AQ2 AQ2]; rfl,au _⟩ ?_
 intro i hi
 refine AQx (fun h=>?_) fun h=>?_
 ·have hin:i<n:=by simpa using h
  have hyl:=Ws (d:=d) (a:=a) (b:=b) (n:=i) AQ2 AQ2
  have hst:=AEA (d:=d) (a:=a) (b:=b) (n:=i) AQ2 AQ2
  generalize Su d a b i=ys at hyl hst
  have ea:IntKind.i64.wrap ((a:Int)+(i:Int))=((a+i:Nat):Int):=AQ7
  have eb:IntKind.i64.wrap ((b:Int)+(i:Int))=((b+i:Nat):Int):=AQ7
  have la:a+i<ys.length:=AQ2
  have lb:b+i<ys.length:=AQ2
  have e1:=I_ la
  have e2:=I_ lb
  simp only[go_sem,ea,eb,e1,e2,la,lb,ae]
  refine AAR ?_
  have e3:((ys.set (a+i) (at0 ys (b+i))).map intC)[b+i]?=some [.v (.int .i64 (at0 ys (b+i)))]:=by
   rw[lg,vG,bu AQ2,Qs lb]; rfl
  simp only[go_sem,ea,eb,e1,e2,e3,la,lb,ae,dL,bi,wrap_i64 (n:=(i:Int)+1) AQ2 AQ2]
  refine⟨i+1,⟨rfl,ASD⟩, ?_,AQ2,AQ2⟩
  rw[← hst]
  rfl
 ·have hin:i=n:=by simp at h; omega
  subst hin
  simp only[go_sem]
  exact AOZ
theorem Un {x y:Nat} (h:y≤x) (hx:x≤1048576000):IntKind.i64.wrap ((x:Int)-(y:Int))=((x-y:Nat):Int):=by grind [wrap_i64]
theorem addN {x y:Nat} (hx:x≤1048576000) (hy:y≤1048576000):IntKind.i64.wrap ((x:Int)+(y:Int))=((x+y:Nat):Int):=by grind [wrap_i64]
theorem yC (d:List Int) (a m b:Nat) (h1:a<m) (h2:m<b) (h3:b≤d.length) (hl:d.length≤1048576) (g:FuncId) (xs:List (List Cl)) :
  MCtr prog 374 false [.ow 3 1 (d.map intC)] [.c (.v (.int .i64 ((a:Int)))),.c (.v (.int .i64 ((m:Int)))),.c (.v (.int .i64 ((b:Int)))),.clo g xs] (fun cl' rs=>cl' = [.ow 3 1 ((Hy d a m b).map intC)]∧rs = []):=by
 refine ACf (fn:=f374) call374 func374 rfl mixed ntmps374 results374 (by kernel_rfl) rfl (.inr rfl) fun us hw0 hw=>?_
 have e1:=Un (x:=m) (y:=a) AQ2 AQ2
 have e2:=Un (x:=b) (y:=m) AQ2 AQ2
 have q1:0<m-a:=AQ2
 have q2:0<b-m:=AQ2
 have q3:m-a≤m:=AQ2
 have q4:m+(b-m)≤d.length:=AQ2
 simp only[go_sem,e1,e2]
 refine AAa 1 [0,2,4,10,11] (A:=Nat×Nat×List Int) (fun x=>⟨58,[(0,.pin (.c (.ref 0)) (mkV false us)),(2,.c (.v (.int .i64 ((m:Int))))),(4,.clo g xs),(10,.c (.v (.int .i64 ((x.1:Int))))),(11,.c (.v (.int .i64 ((x.2.1:Int)))))],[⟨3,1,x.2.2.map intC,true,true⟩]⟩)
  (fun x=>0<x.1∧0<x.2.1∧x.1≤m∧m+x.2.1≤d.length∧x.2.2.length=d.length∧Hy x.2.2 (m-x.1) m (m+x.2.1)=Hy d a m b) (fun x=>x.1+x.2.1) (m-a,b-m,d) ⟨⟨rfl,ASD⟩,rfl,q1,q2,q3,q4,rfl,by simp only; rw[show m-(m-a)=a from AQ2,show m+(b-m)=b from AQ2]⟩ ?_
 rintro⟨i,j,dc⟩ ⟨p1,p2,p3,p4,p5,p6⟩
 dsimp only at p1 p2 p3 p4 p5 p6
 have e3:=Un (x:=m) (y:=i) AQ2 AQ2
 refine AQx (fun h=>?_) fun h=>?_
 ·have hne:i≠j:=by simp at h; omega
  refine AQx (fun h=>?_) fun h=>?_
  ·have hlt:j<i:=by simpa using h
   have e4:=Un (x:=i) (y:=j) AQ2 AQ2
   simp only[go_sem,e3]
   refine ACg false (zs:=[.ref 0]) (Oc dc (m-i) m j AQ2 AQ2 AQ2 g xs) rfl ⟨rfl,rfl,rfl,rfl,FW _,AQ3,trivial⟩ rfl (.inr rfl) fun cl' rs hM=>?_
   obtain⟨rfl,rfl⟩:=hM
   refine⟨⟨rfl,⟨rfl,rfl⟩,trivial⟩, ?_⟩
   simp only[go_sem,e4]
   refine⟨(i-j,j,Su dc (m-i) m j),⟨rfl,ASD⟩,rfl,⟨AQ4,p2,AQ4,p4,by simp only; rw[Ws AQ2 AQ2]; exact p5, ?_⟩,AQ4⟩
   grind [AFo]
  ·have hlt:i<j:=by simp at h; omega
   have e4:=Un (x:=j) (y:=i) AQ2 AQ2
   have e5:=addN (x:=m) (y:=j) AQ2 AQ2
   have e6:=Un (x:=m+j) (y:=i) AQ2 AQ2
   simp only[go_sem,e3,e5,e6]
   refine ACg false (zs:=[.ref 0]) (Oc dc (m-i) (m+j-i) i AQ2 AQ2 AQ2 g xs) rfl ⟨rfl,rfl,rfl,rfl,FW _,AQ3,trivial⟩ rfl (.inr rfl) fun cl' rs hM=>?_
   obtain⟨rfl,rfl⟩:=hM
   refine⟨⟨rfl,⟨rfl,rfl⟩,trivial⟩, ?_⟩
   simp only[go_sem,e4]
   refine⟨(i,j-i,Su dc (m-i) (m+j-i) i),⟨rfl,ASD⟩,rfl,⟨p1,AQ4,p3,AQ4,by simp only; rw[Ws AQ2 AQ2]; exact p5, ?_⟩,AQ4⟩
   grind [AD8]
 ·have hij:i=j:=by simp at h; omega
  subst hij
  simp only[go_sem,e3]
  refine ACg false (zs:=[.ref 0]) (Oc dc (m-i) m i AQ2 AQ2 AQ2 g xs) rfl ⟨rfl,rfl,rfl,rfl,FW _,AQ3,trivial⟩ rfl (.inr rfl) fun cl' rs hM=>?_
  obtain⟨rfl,rfl⟩:=hM
  refine⟨⟨rfl,⟨rfl,rfl⟩,trivial⟩, ?_⟩
  simp only[go_sem]
  rw[AFp p3 AQ2,p6]
  exact AOZ
def AEB (x y:Int):Int:=if decide (x<y)=true then -1 else if decide (x>y)=true then 1 else 0
theorem Wu {x y:Int}:decide (AEB x y<0)=decide (x<y):=by
 unfold AEB
 grind
theorem iT (x:Int):Ctr prog 278 [.c (.v (.int .i64 (x)))] [.val (.c (.v (.bool (false))))]:=by
 refine CM call278 func278 ntmps278 results278 fun hw=>?_
 simp only[go_sem,ax]
theorem rf (x y:Int):Ctr prog 176 [.c (.v (.int .i64 (x))),.c (.v (.int .i64 (y)))] [.val (.c (.v (.int .i64 (AEB x y))))]:=by
 refine CM call176 func176 ntmps176 results176 fun hw=>?_
 simp only[go_sem]
 refine AAN _ (iT x) fun _=>?_
 simp only[go_sem]
 refine AAN _ (iT y) fun _=>?_
 unfold AEB
 rcases h1:decide (x<y) with _ | _
 ·rcases h2:decide (x>y) with _ | _<;>simp only[go_sem,h1,h2]
 ·simp only[go_sem,h1]
theorem yD (l:List DDeed) (i k:Nat) (hi:i<l.length) (hk:k<l.length):Ctr prog 175 [.c (.v (.int .i64 ((i:Int)))),.c (.v (.int .i64 ((k:Int)))),.ip [.sl (l.map DDeed.c)]] [.val (.c (.v (.int .i64 (AEB l[i].lin l[k].lin))))]:=by
 refine CM call175 func175 ntmps175 results175 fun hw=>?_
 simp only[go_sem]
 refine AAO ?_
 simp only[go_sem,AA _ hi,AA _ hk,hi,hk]
 refine AAS _ (rf _ _) ?_
 exact AIu
def CmpOk (P:Program) (g:FuncId) (xs:List (List Cl)) (key:Int→Int) (d:List Int):Prop:=∀ x∈d,∀ y∈d,Ctr P g ([.c (.v (.int .i64 (x))),.c (.v (.int .i64 (y)))]++xs.map AV.ip) [.val (.c (.v (.int .i64 (AEB (key x) (key y)))))]
theorem CmpOk.perm {P:Program} {g:FuncId} {xs:List (List Cl)} {key:Int→Int} {d d':List Int} (h:CmpOk P g xs key d) (hp:d'.Perm d):CmpOk P g xs key d':=fun x hx y hy=>h x (hp.mem_iff.1 hx) y (hp.mem_iff.1 hy)
theorem Mrg.perm {key:Int→Int} {a b:Nat} {d d':List Int} (h:Mrg key a b d d'):d'.Perm d:=by
 obtain⟨P,M,M',S,rfl,rfl,_,_,hp,_⟩:=h
 grind
theorem Ins.perm {key:Int→Int} {a i j:Nat} {d0 d:List Int} (h:Ins key a i j d0 d):d.Perm d0:=by
 obtain⟨P,L1,x,L2,S,M,rfl,rfl,_,_,_,hp,_⟩:=h
 grind
theorem Mrg.one {key:Int→Int} {a:Nat} {d:List Int} (h:a<d.length):Mrg key a (a+1) d d:=by
 refine⟨d.take a,[d[a]],[d[a]],d.drop (a+1), ?_, ?_,AQ5,AQ3,abI _,AQ3⟩ <;>
  rw[List.singleton_append,List.getElem_cons_drop,aas]
theorem Oe (key:Int→Int) (d:List Int) (a b:Nat) (h1:a≤b) (h2:b≤d.length) (hl:d.length≤1048576) (hs:(d.drop a).Pairwise (· < ·)) (g:FuncId) (xs:List (List Cl)) (hg:CmpOk prog g xs key d) :
  MCtr prog 341 false [.ow 3 1 (d.map intC)] [.c (.v (.int .i64 ((a:Int)))),.c (.v (.int .i64 ((b:Int)))),.clo g xs] (fun cl' rs=>∃ d',cl' = [.ow 3 1 (d'.map intC)]∧rs = []∧Mrg key a b d d'):=by
 refine ACf (fn:=f341) call341 func341 rfl mixed ntmps341 results341 (by kernel_rfl) rfl (.inr rfl) fun us hw0 hw=>?_
 have e1:=addN (x:=a) (y:=1) AQ2 AQ2
 simp only[abm] at e1
 simp only[go_sem,e1]
 have hst:Mrg key a (min (a+1) b) d d:=by
  by_cases e:a=b
  ·grind [Mrg.nil]
  ·grind [Mrg.one]
 refine AAa 1 [0,1,2,3,8] (A:=Nat×List Int) (fun x=>⟨53,[(0,.pin (.c (.ref 0)) (mkV false us)),(1,.c (.v (.int .i64 ((a:Int))))),(2,.c (.v (.int .i64 ((b:Int))))),(3,.clo g xs),(8,.c (.v (.int .i64 ((x.1:Int)))))],[⟨3,1,x.2.map intC,true,true⟩]⟩)
  (fun x=>a+1≤x.1∧x.1≤b+1∧Mrg key a (min x.1 b) d x.2) (fun x=>b+1-x.1) (a+1,d) ⟨⟨rfl,ASD⟩,rfl,aI _,AQ4,hst⟩ ?_
 rintro⟨i,dc⟩ ⟨p1,p2,p3⟩
 dsimp only at p1 p2 p3
 refine AQx (fun h=>?_) fun h=>?_
 ·have hib:i<b:=by simp at h; omega
  rw[show min i b=i from AQ2] at p3
  have hI:=Ins.start p3 AQ2 hs
  simp only[go_sem]
  refine AAa 1 [0,1,2,3,8,9] (A:=Nat×List Int) (fun x=>⟨53,[(0,.pin (.c (.ref 0)) (mkV false us)),(1,.c (.v (.int .i64 ((a:Int))))),(2,.c (.v (.int .i64 ((b:Int))))),(3,.clo g xs),(8,.c (.v (.int .i64 ((i:Int))))),(9,.c (.v (.int .i64 ((x.1:Int)))))],[⟨3,1,x.2.map intC,true,true⟩]⟩)
   (fun x=>a≤x.1∧x.1≤i∧Ins key a i x.1 d x.2) (fun x=>x.1) (i,dc) ⟨⟨rfl,ASD⟩,rfl,AQ4,aI _,hI⟩ ?_
  rintro⟨j,dj⟩ ⟨q1,q2,q3⟩
  dsimp only at q1 q2 q3
  have hlj:dj.length=d.length:=q3.perm.length_eq
  have hgj:=hg.perm q3.perm
  have hout:(j=a∨¬ key (at0 dj j)<key (at0 dj (j-1)))→a+1≤i+1∧i+1≤b+1∧Mrg key a (min (i+1) b) d dj:=fun h=>⟨AQ2,AQ2,by rw[show min (i+1) b=i+1 from AQ2]; exact q3.fin h⟩
  rcases hc:decide ((j:Int)>(a:Int)) with _ | _
  ·have hja:j=a:=by simp at hc; omega
   simp only[go_sem,hc]
   refine AAO ?_
   simp only[go_sem,hc,wrap_i64 (n:=(i:Int)+1) AQ2 AQ2]
   exact⟨(i+1,dj),⟨rfl,ASD⟩,rfl,hout (.inl hja),AQ4⟩
  ·have hja:a<j:=by simp at hc; omega
   have lj:j<dj.length:=AQ2
   have lj1:j-1<dj.length:=AQ2
   have ej:=Un (x:=j) (y:=1) AQ2 AQ2
   simp only[abm] at ej
   have t1:=I_ lj
   have t2:=I_ lj1
   simp only[go_sem,hc]
   refine AAO ?_
   simp only[go_sem,hc,ej,t1,t2,lj,lj1,ae]
   refine CY (hgj (at0 dj j) (at_mem lj) (at0 dj (j-1)) (at_mem lj1)) ?_
   simp only[go_sem,Wu]
   refine AAP (fun h=>?_) (fun h=>?_)
   ·have hk:key (at0 dj j)<key (at0 dj (j-1)):=by simpa using h
    simp only[go_sem,ej,t1,t2,lj,lj1,ae]
    refine AAR ?_
    have t3:((dj.set j (at0 dj (j-1))).map intC)[j-1]?=some [.v (.int .i64 (at0 dj (j-1)))]:=by
     rw[lg,vG,bu AQ2,Qs lj1]; rfl
    simp only[go_sem,ej,t1,t2,t3,lj,lj1,ae,dL,bi]
    exact⟨(j-1,lX dj j (j-1)),⟨rfl,ASD⟩,rfl,⟨AQ4,AQ4,q3.down hja hk⟩,AQ4⟩
   ·have hk:¬ key (at0 dj j)<key (at0 dj (j-1)):=by simpa using h
    simp only[go_sem,wrap_i64 (n:=(i:Int)+1) AQ2 AQ2]
    exact⟨(i+1,dj),⟨rfl,ASD⟩,rfl,hout (.inr hk),AQ4⟩
 ·have hib:¬ i<b:=by simp at h; omega
  rw[show min i b=b from AQ2] at p3
  simp only[go_sem]
  exact⟨[.ref 0],[.ow 3 1 _],[],rfl,.inr rfl,⟨rfl,rfl,rfl,rfl,FW _,AQ3,trivial⟩,by simp only[EP,Hr,aF]; exact Il fun x hx=>ARe,rfl,rfl,dc,rfl,rfl,p3⟩
theorem AHk {d:List Int} {a m b k:Nat} (h1:a≤m) (h2:m≤b) (h3:b≤d.length) (hk:k<a):at0 (Hy d a m b) k=at0 d k:=by
 obtain⟨P,A,B,S,rfl,hP,hA,hB⟩:=NK h1 h2 h3
 grind [IK,Jh]
theorem AHl {d:List Int} {a m b k:Nat} (h1:a≤m) (h2:m≤b) (h3:b≤d.length) (hk:b≤k):at0 (Hy d a m b) k=at0 d k:=by
 obtain⟨P,A,B,S,rfl,hP,hA,hB⟩:=NK h1 h2 h3
 grind [IK,DX]
theorem AHm {d:List Int} {a b:Nat} (h1:a<b) (h2:b≤d.length):at0 (Hy d a (a+1) b) (b-1)=at0 d a:=by
 obtain⟨P,A,B,S,rfl,hP,hA,hB⟩:=NK (d:=d) (a:=a) (m:=a+1) (b:=b) AQ2 AQ2 h2
 obtain⟨x,rfl⟩:∃ x,A = [x]:=abK.1 AQ2
 have l:at0 (P++(B++([x]++S))) (b-1)=x:=by
  rw[DX AQ2,DX AQ2,show b-1-P.length-B.length=0 from AQ2]; rfl
 have r:at0 (P++([x]++(B++S))) a=x:=by
  rw[DX AQ2,show a-P.length=0 from AQ2]; rfl
 grind [IK]
theorem AHn {d:List Int} {a m:Nat} (h1:a≤m) (h2:m<d.length):at0 (Hy d a m (m+1)) a=at0 d m:=by
 obtain⟨P,A,B,S,rfl,hP,hA,hB⟩:=NK (d:=d) (a:=a) (m:=m) (b:=m+1) h1 AQ2 AQ2
 obtain⟨x,rfl⟩:∃ x,B = [x]:=abK.1 AQ2
 have l:at0 (P++([x]++(A++S))) a=x:=by
  rw[DX AQ2,show a-P.length=0 from AQ2]; rfl
 have r:at0 (P++(A++([x]++S))) m=x:=by
  rw[DX AQ2,DX AQ2,show m-P.length-A.length=0 from AQ2]; rfl
 grind [IK]
theorem AEC {key:Int→Int} {a b i:Nat} {d:List Int} (h:Runs key a (a+1) b d) (h1:a+1≤i) (h2:i≤b) (h3:i=a+1∨kl key (at0 d (i-1)) (at0 d a)) (h4:i=b∨kl key (at0 d a) (at0 d i)):Mrg key a b d (Hy d a (a+1) i):=by
 have hl:=h.len
 obtain⟨r1,r2⟩:=iR (s:=a) (e:=i) h (aI _) AQ2 h1 h2 (fun h _=>AQ2) (fun _ h=>AQ6)
 obtain⟨r3,r4⟩:=r2 _ (r1.one (.inl rfl))
 refine r4 _ (r3.ready fun _ hib=>?_)
 grind [AHl,AHm]
theorem ABN {key:Int→Int} {a m i:Nat} {d:List Int} (h:Runs key a m (m+1) d) (h1:a≤i) (h2:i≤m) (h3:i=a∨kl key (at0 d (i-1)) (at0 d m)) (h4:i=m∨kl key (at0 d m) (at0 d i)):Mrg key a (m+1) d (Hy d i m (m+1)):=by
 have hl:=h.len
 obtain⟨r1,r2⟩:=iR (s:=i) (e:=m+1) h h1 h2 AQ2 (aI _) (fun _ h=>AQ2) (fun h _=>AQ6)
 have r5:=r1.ready (fun hai _=>by
  grind [AHk,AHn])
 obtain⟨r3,r4⟩:=r2 _ r5
 exact r4 _ (r3.one (.inr rfl))
end Go.Proofs.YthmifbbmgnhddaaGreat
