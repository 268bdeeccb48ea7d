/- A part. -/
import Derived.Test.YthmifbbmgnhddaaGreatOa
set_option linter.unusedSimpArgs false
set_option linter.unusedVariables false
set_option maxHeartbeats 1000000
set_option maxRecDepth 10000
open Go.Proofs.Tryz
namespace Go.Proofs.YthmifbbmgnhddaaGreat
open Go.Vm
theorem BK {α:Type} {f:α→List Cl} {l:List α} (h:∀ x,EP (f x)=true):JD (l.map f)=true:=Il fun x hx=>by
 obtain⟨y,_,rfl⟩:=UT.1 hx
 exact h y
theorem vV {N ty sz:Nat} {R:List (List Cl)} {wr live:Bool} (h:JD R=true):Aq N ⟨ty,sz,R,wr,live⟩=true:=by
 simp only[Aq,aaY]
 exact .inr (aS.2 fun x hx=>y_ (AH4 (XK h x hx)))
theorem AHJ {R:List (List Cl)} {i:Nat} {x:List Cl} (h:JD R=true) (hx:EP x=true):JD (R.set i x)=true:=Il fun y hy=>by
 rcases abd hy with h' | rfl
 ·exact XK h y h'
 ·exact hx
theorem set_self {R:List (List Cl)} {i:Nat} (hi:i<R.length) (x:List Cl):(R.set i x)[i]?=some x:=ASb
def MkS (ty sz:Nat) (k l l':Int) (cl':List Cl) (rs:List AV):Prop:=∃ (R:List (List Cl)) (k':Int),cl' = [.ow ty sz R]∧rs = [.c (.v (.int .i64 k'))]∧k≤k'∧k'+64*l'≤k+64*l∧JD R=true
def MkP {α:Type} (f:α→List Cl) (sz:α→Int→Int) (xs:List α) (k l lf:Int) (x:Nat×List (List Cl)×Int×Int):Prop:=
 x.1≤xs.length∧x.2.1.length=xs.length∧(∀ (j:Nat) (h:j<xs.length),x.1≤j→x.2.1[j]?=some (f xs[j]))∧JD x.2.1=true∧k≤x.2.2.1∧x.2.2.1+64*x.2.2.2≤k+64*(l-xs.length+x.1)∧Z5 sz (xs.drop x.1) x.2.2.2=lf∧x.2.2.2≤l
theorem pW {n:Nat} {l:Int} (h:0≤FY n l):FY n l=l-n:=by
 unfold FY at h ⊢
 split at h
 ·omega
 ·rename_i h2; rw[bu h2]
theorem MkP.start {α:Type} {f:α→List Cl} {sz:α→Int→Int} {xs:List α} {k l:Int} (hf:∀ x,EP (f x)=true) (h0:0≤DD sz xs l):MkP f sz xs k l (DD sz xs l) (0,xs.map f,k,l-xs.length):=by
 obtain⟨s1,s2,s3⟩:=Aa h0
 have e:=pW s1
 refine⟨au _,AQ3,fun j h _=>by simp[h],BK hf,abO _,AQ4, ?_,AQ4⟩
 simp only[aaR]
 rw[← e]
 exact s3.symm
theorem MkP.room {α:Type} {f:α→List Cl} {sz:α→Int→Int} {xs:List α} {k l lf:Int} {i:Nat} {R:List (List Cl)} {k1 l1:Int} (h:MkP f sz xs k l lf (i,R,k1,l1)) (hi:i<xs.length) (h0:0≤lf) :
  0≤sz xs[i] l1∧R[i]?=some (f xs[i])∧i<R.length∧k≤k1∧k1+64*l1≤k+64*l-64∧l1≤l:=by
 obtain⟨a1,a2,a3,a4,a5,a6,a7,a8⟩:=h
 dsimp only at *
 rw[aA hi,Z5] at a7
 rw[← a7] at h0
 obtain⟨s1,s2,s3⟩:=Aa h0
 exact⟨s1,a3 i hi (aI _),AQ2,a5,AQ2,a8⟩
theorem MkP.step {α:Type} {f:α→List Cl} {sz:α→Int→Int} {xs:List α} {k l lf:Int} {i:Nat} {R:List (List Cl)} {k1 l1:Int} (h:MkP f sz xs k l lf (i,R,k1,l1)) (hi:i<xs.length) (h0:0≤lf) {row:List Cl} {k2:Int} (hr:EP row=true) (hk:k1≤k2) (hk2:k2+64*sz xs[i] l1≤k1+64*l1+64) (hl:sz xs[i] l1≤l1) :
  MkP f sz xs k l lf (i+1,R.set i row,k2,sz xs[i] l1):=by
 obtain⟨a1,a2,a3,a4,a5,a6,a7,a8⟩:=h
 dsimp only at *
 rw[aA hi,Z5] at a7
 have h0':=h0
 rw[← a7] at h0'
 obtain⟨s1,s2,s3⟩:=Aa h0'
 refine⟨hi,by simpa using a2,fun j hj hij=>?_,AHJ a4 hr,AQ4,AQ4,by simp only; rw[← s3]; exact a7,AQ4⟩
 simp only at hij ⊢
 rw[List.getElem?_set_ne AQ2]
 exact a3 j hj AQ2
theorem MkP.done {α:Type} {f:α→List Cl} {sz:α→Int→Int} {xs:List α} {k l lf:Int} {i:Nat} {R:List (List Cl)} {k1 l1:Int} (ty n:Nat) (h:MkP f sz xs k l lf (i,R,k1,l1)) (hi:i=xs.length):JD R=true∧MkS ty n k l lf [.ow ty n R] [.c (.v (.int .i64 k1))]:=by
 obtain⟨a1,a2,a3,a4,a5,a6,a7,a8⟩:=h
 dsimp only at *
 subst hi
 rw[aJ] at a7
 simp only[Z5] at a7
 exact⟨a4,R,k1,rfl,rfl,a5,AQ2,a4⟩
theorem MCtr.mono {P:Program} {f:FuncId} {g:Bool} {cl:List Cl} {args:List AV} {Q Q':List Cl→List AV→Prop} (h:MCtr P f g cl args Q) (hQ:∀ cl' rs,Q cl' rs→Q' cl' rs):MCtr P f g cl args Q':=
 ⟨h.1,h.2.1,fun w St us G vs h1 h2 h3 h4=>(h.2.2 w St us G vs h1 h2 h3 h4).mono fun e w' hb=>by
  obtain⟨cl',rs,rv,G',h0,hr⟩:=hb
  exact⟨cl',rs,rv,G',hQ _ _ h0,hr⟩⟩
def mi:Nat→Int→ByteArray→ByteArray
 | 0,_,out=>out
 | n+1,k,out=>if k>0 then mi n (k.tdiv 10) (strOfNums [IntKind.u8.wrap (48+k.tmod 10)]++out) else out
def Ii (k:Int):ByteArray:=if k≤0 then ByteArray.mk #[109,48] else ByteArray.mk #[109]++mi 19 k (ByteArray.mk #[])
theorem AFB (n:Int):(strOfNums [n]).size=1:=by rw[strOfNums_size]; rfl
theorem EQ (k:Int) (hk:0≤k) (hb:k≤4000000000000000000):Ctr prog 70 [.c (.v (.int .i64 k))] [.val (.c (.v (.string (Ii k))))]:=by
 refine CM call70 func70 ntmps70 results70 fun hw=>?_
 by_cases h0:k≤0
 ·simp only[go_sem,h0,Ii]
 ·simp only[go_sem,h0,Ii]
  refine AAa 0 [0,3] (A:=Nat×Int×ByteArray) (fun x=>⟨20,[(0,.c (.v (.int .i64 x.2.1))),(3,.c (.v (.string x.2.2)))],[]⟩)
   (fun x=>mi x.1 x.2.1 x.2.2=mi 19 k (ByteArray.mk #[])∧0≤x.2.1∧x.2.1.toNat<10 ^ x.1∧x.2.2.size+x.1≤19∧x.2.1≤k) (fun x=>x.1) (19,k,ByteArray.mk #[]) ⟨⟨rfl,rfl⟩,by simp[trim,CV],rfl,hk,by show k.toNat<10 ^ 19; omega,by show _≤_; simp[ByteArray.size],abO _⟩ ?_
  rintro⟨n,j,out⟩ ⟨h1,h2,h3,h4,h5⟩
  dsimp only at h1 h2 h3 h4 h5
  refine AQx (fun h=>?_) fun h=>?_
  ·have hj:0<j:=by simpa using h
   cases n with
   | zero=>simp at h3; omega
   | succ n =>
    have hm1:0≤j.tmod 10:=Int.tmod_nonneg 10 h2
    have hm2:j.tmod 10<10:=Int.tmod_lt_of_pos j AQ2
    have hd1:0≤j.tdiv 10:=Int.tdiv_nonneg h2 AQ2
    have hd2:j.tdiv 10≤j:=Int.tdiv_le_self _ h2
    have hd3:(j.tdiv 10).toNat<10 ^ n:=by
     rw[aag h2]
     rw[Nat.pow_succ] at h3
     omega
    have hb2:j.toNat<10 ^ 19:=di h3 (aaH AQ2 AQ2)
    have h10:((10:Int)=0)=False:=AQ3
    have hsz:(strOfNums [IntKind.u8.wrap (48+j.tmod 10)]).size+out.size≤maxLen:=by rw[AFB]; simp only[maxLen]; omega
    simp only[go_sem,wrap_i64 (n:=j.tmod 10) AQ2 AQ2,wrap_i64 (n:=48+j.tmod 10) AQ2 AQ2,wrap_i64 (n:=j.tdiv 10) AQ2 AQ2,hsz,h10,ak]
    refine⟨(n,j.tdiv 10,_),⟨rfl,rfl⟩,rfl,⟨?_,hd1,hd3, ?_,AQ4⟩,AQ4⟩
    ·rw[← h1]
     show _=if j>0 then _ else _
     rw[bG hj]
    ·simp only[ByteArray.size_append,AFB]; omega
  ·have hj:j=0:=by simp at h; omega
   subst hj
   have hd:∀ n out,mi n 0 out=out:=fun n out=>by cases n<;>rfl
   rw[hd] at h1
   have hsz:(#[109]:Array UInt8).size+(mi 19 k (ByteArray.mk #[])).size≤maxLen:=by rw[← h1]; show 1+_≤9223372036854775807; omega
   simp only[go_sem,h1,hsz]
theorem Dn {N ty sz:Nat} {R:List (List Cl)} {wr live:Bool} (h:JD R=true) : [(⟨ty,sz,R,wr,live⟩:Ob)].all (Aq N)=true:=by
 simp only[aW,bn,aF]
 exact vV h
def IV {α:Type} (y:Int→α→α) (c:Int→α→Int):Int→List α→List α
 | _,[]=>[]
 | k,x::xs=>y k x::IV y c (c k x) xs
def Eh {α:Type} (c:Int→α→Int):Int→List α→Int
 | k,[]=>k
 | k,x::xs=>Eh c (c k x) xs
theorem Ed {α:Type} {c:Int→α→Int} (hc:∀ k x,k≤c k x):∀ (xs:List α) (k:Int),k≤Eh c k xs
 | [],k=>abO _
 | x::xs,k=>by
  have:=Ed hc xs (c k x)
  have:=hc k x
  simp only[Eh]; omega
theorem Ib {α:Type} {c:Int→α→Int} (B:Int) (hB:0≤B):∀ (xs:List α) (_:∀ x∈xs,∀ k,c k x≤k+B) (k:Int),Eh c k xs≤k+xs.length*B
 | [],_,k=>by simp[Eh]
 | x::xs,h,k=>by
  have h1:=h x AQ3 k
  have h2:=Ib B hB xs (fun y hy=>h y ASE) (c k x)
  simp only[Eh,bz,Int.natCast_add,abm,Int.add_mul,Int.one_mul]
  omega
theorem Jm {α:Type} (y:Int→α→α) (c:Int→α→Int):∀ (xs:List α) (k:Int),(IV y c k xs).length=xs.length
 | [],k=>rfl
 | x::xs,k=>by simp[IV,Jm y c xs]
def MkX {α:Type} (y:Int→α→α) (c:Int→α→Int) (xs:List α) (k0:Int) (x:Nat×List α×Int):Prop:=
 x.1≤xs.length∧x.2.1.length=x.1∧IV y c k0 xs=x.2.1++IV y c x.2.2 (xs.drop x.1)∧Eh c k0 xs=Eh c x.2.2 (xs.drop x.1)∧k0≤x.2.2
section
variable {α:Type} {y:Int→α→α} {c:Int→α→Int} {xs:List α} {k0 k1:Int} {i:Nat} {dn:List α}
theorem MkX.start:MkX y c xs k0 (0,[],k0):=⟨au _,rfl,AQ3,AQ3,abO _⟩
theorem MkX.room (h:MkX y c xs k0 (i,dn,k1)) (hi:i<xs.length) (hc:∀ k x,k≤c k x) (f:α→List Cl) :
  ((dn++xs.drop i).map f)[i]?=some (f xs[i])∧c k1 xs[i]≤Eh c k0 xs∧k0≤k1∧i<((dn++xs.drop i).map f).length:=by
 obtain⟨a1,a2,a3,a4,a5⟩:=h
 dsimp only at *
 refine⟨?_, ?_,a5,AQ5⟩
 ·rw[lg,bf AQ2,a2,ZO,abb]
  simp[hi]
 ·rw[a4,aA hi]
  exact Ed hc _ _
theorem MkX.set (h:MkX y c xs k0 (i,dn,k1)) (hi:i<xs.length) (f:α→List Cl) (z:α):((dn++xs.drop i).map f).set i (f z)=((dn ++ [z])++xs.drop (i+1)).map f:=by
 obtain⟨a1,a2,a3,a4,a5⟩:=h
 dsimp only at *
 rw[← yI,aaK _ _ AQ2,a2,ZO,aA hi,List.set_cons_zero,aZ]
 rfl
theorem MkX.step (h:MkX y c xs k0 (i,dn,k1)) (hi:i<xs.length) (hc:∀ k x,k≤c k x):MkX y c xs k0 (i+1,dn ++ [y k1 xs[i]],c k1 xs[i]):=by
 obtain⟨a1,a2,a3,a4,a5⟩:=h
 dsimp only at *
 have:=hc k1 xs[i]
 refine⟨hi,by simp[a2], ?_, ?_,AQ4⟩
 ·rw[a3,aA hi,IV,aZ]; rfl
 ·rw[a4,aA hi,Eh]
theorem MkX.fin (h:MkX y c xs k0 (i,dn,k1)) (hi:i=xs.length):dn++xs.drop i=IV y c k0 xs∧k1=Eh c k0 xs:=by
 obtain⟨a1,a2,a3,a4,a5⟩:=h
 dsimp only at *
 subst hi
 rw[aJ] at a3 a4 ⊢
 simp only[IV,Eh,bK] at a3 a4 ⊢
 exact⟨a3.symm,a4.symm⟩
end
def HdX {α:Type} (y:Int→α→α) (c:Int→α→Int) (xs:List α) (k0:Int) (x:Nat×Int):Prop:=
 x.1≤xs.length∧(IV y c k0 xs).drop x.1=IV y c x.2 (xs.drop x.1)∧Eh c k0 xs=Eh c x.2 (xs.drop x.1)∧k0≤x.2
section
variable {α:Type} {y:Int→α→α} {c:Int→α→Int} {xs:List α} {k0 k1:Int} {i:Nat}
theorem HdX.start:HdX y c xs k0 (0,k0):=⟨au _,AQ3,AQ3,abO _⟩
theorem HdX.room (h:HdX y c xs k0 (i,k1)) (hi:i<xs.length) (hc:∀ k x,k≤c k x) (f:α→List Cl) :
  ((IV y c k0 xs).map f)[i]?=some (f (y k1 xs[i]))∧c k1 xs[i]≤Eh c k0 xs∧k0≤k1:=by
 obtain⟨a1,a2,a3,a4⟩:=h
 dsimp only at *
 refine⟨?_, ?_,a4⟩
 ·have:(IV y c k0 xs)[i]?=some (y k1 xs[i]):=by
   have h2:((IV y c k0 xs).drop i)[0]?=(IV y c k0 xs)[i]?:=by rw[abb]; rfl
   rw[← h2,a2,aA hi,IV]; rfl
  rw[lg,this]; rfl
 ·rw[a3,aA hi]
  exact Ed hc _ _
theorem HdX.step (h:HdX y c xs k0 (i,k1)) (hi:i<xs.length) (hc:∀ k x,k≤c k x):HdX y c xs k0 (i+1,c k1 xs[i]):=by
 obtain⟨a1,a2,a3,a4⟩:=h
 dsimp only at *
 have:=hc k1 xs[i]
 refine⟨hi, ?_, ?_,AQ4⟩
 ·have h2:(IV y c k0 xs).drop (i+1)=((IV y c k0 xs).drop i).drop 1:=by rw[abg]
  simp only
  rw[h2,a2,aA hi,IV]; rfl
 ·rw[a3,aA hi,Eh]
theorem HdX.fin (h:HdX y c xs k0 (i,k1)) (hi:i=xs.length):k1=Eh c k0 xs:=by
 obtain⟨a1,a2,a3,a4⟩:=h
 dsimp only at *
 subst hi
 rw[aJ] at a3
 exact a3.symm
end
theorem ACE {α:Type} {c:Int→α→Int}:∀ (xs:List α) (_:∀ x∈xs,∀ k,k≤c k x) (k:Int),k≤Eh c k xs
 | [],_,k=>abO _
 | x::xs,h,k=>by
  have h1:=ACE xs (fun y hy=>h y ASE) (c k x)
  have h2:=h x AQ3 k
  simp only[Eh]; omega
theorem AFC {α:Type} {c:Int→α→Int} {sz:α→Int→Int}:∀ (xs:List α) (_:∀ x∈xs,∀ k l,0≤sz x l→l≤1048576→c k x+64*sz x l≤k+64*l+64∧sz x l≤l) (k l:Int),0≤Z5 sz xs l→l≤1048576→Eh c k xs+64*Z5 sz xs l≤k+64*l+64*xs.length
 | [],_,k,l,_,_=>by simp[Eh,Z5]
 | x::xs,h,k,l,h0,hl=>by
  simp only[Z5] at h0 ⊢
  obtain⟨h1,h2,h3⟩:=Aa h0
  have g1:=h x AQ3 k l h1 hl
  have g2:=AFC xs (fun y hy=>h y ASE) (c k x) _ h2 AQ2
  rw[h3]
  simp only[Eh,bz,Int.natCast_add,abm]
  omega
theorem Js {α:Type} {c:Int→α→Int} {sz:α→Int→Int} (xs:List α) (h:∀ x∈xs,∀ k l,0≤sz x l→l≤1048576→c k x+64*sz x l≤k+64*l+64∧sz x l≤l) (k:Int) {l:Int} (h0:0≤DD sz xs l) (hl:l≤1048576):Eh c k xs+64*DD sz xs l≤k+64*l:=by
 unfold DD at h0 ⊢
 obtain⟨h1,h2,h3⟩:=Aa h0
 have e:=pW h1
 have g2:=AFC xs h k _ h2 AQ2
 rw[h3]; omega
theorem PY {α:Type} {c:Int→α→Int} (hc:∀ k x,c k x≤k+64) (xs:List α) (k l:Int) (h0:0≤FY xs.length l):Eh c k xs+64*FY xs.length l≤k+64*l:=by
 have e:=pW h0
 have g:=Ib (c:=c) 64 AQ2 xs (fun x _ k=>hc k x) k
 omega
def pX (k:Int) (_:Int):Int:=k
def mkY (k:Int) (_:Int):Int:=IntKind.u8.wrap k
def NH (k:Int) (_:Int):Int:=k+1
theorem Jt (k x:Int):k≤NH k x:=by unfold NH; omega
theorem PZ (k x:Int):NH k x≤k+64:=by unfold NH; omega
theorem Nb {x:Int} (h:0≤x):decide (x<0)=false:=AQ5
theorem wz {n:Int} (h : -9223372036854775808≤n:=by omega) (h2:n≤9223372036854775807:=by omega):IntKind.i64.wrap n=n:=wrap_i64 h h2
theorem Jd:((3:Int)=0)=False:=AQ3
theorem Ag (a b c:Int):a+b+c=a+(b+c):=Int.add_assoc _ _ _
def MkE {α:Type} (P:Program) (f:FuncId) (ty sz:Nat) (e:α→List Cl) (y:Int→α→α) (c:Int→α→Int) (xs:List α) (k:Int):Prop:=
 MCtr P f false [.ow ty sz (xs.map e)] [.c (.v (.int .i64 k))] (fun cl' rs=>cl' = [.ow ty sz ((IV y c k xs).map e)]∧rs = [.c (.v (.int .i64 (Eh c k xs)))])
abbrev HdE {α:Type} (P:Program) (f:FuncId) (e:α→List Cl) (y:Int→α→α) (c:Int→α→Int) (xs:List α) (k:Int):Prop:=
 Ctr P f [.c (.sl ((IV y c k xs).map e)),.c (.v (.int .i64 k))] [.val (.c (.v (.int .i64 (Eh c k xs))))]
theorem ABp {P:Program} {s:MS} {K:MS→Prop} {f:FuncId} {A B C:Prop} {args:List AV} {d:Option Nat} {α:Type} {ty sz l:Nat} {e:α→List Cl} {y:Int→α→α} {c:Int→α→Int} {xs:List α} {k:Int} (h:MkE P f ty sz e y c xs k) (hx:args=mkA false [.ref l] :: [.c (.v (.int .i64 k))])
  (ho:OwnL s.st [.ref l] [.ow ty sz (xs.map e)] [] (fun _=>True)) (hk:K (MS.put ⟨s.n,s.env,Ji s.st [.ref l] [.ow ty sz ((IV y c k xs).map e)]⟩ d (retA [.c (.v (.int .i64 (Eh c k xs)))]))):QS A (QS B (QS (MutK P f s args d K) C)):=
 ACg false h hx ho rfl (.inr rfl) fun cl' rs hM=>by
  obtain⟨rfl,rfl⟩:=hM
  exact⟨⟨rfl,⟨rfl,rfl⟩,trivial⟩,hk⟩
def mkS {α:Type} (us:List Value) (n ty sz:Nat) (e:α→List Cl) (xs:List α) (x:Nat×List α×Int):MS:=
 ⟨n,[(0,.pin (.c (.ref 0)) (mkV false us)),(1,.c (.v (.int .i64 x.2.2))),(5,.c (.v (.int .i64 x.1)))],[⟨ty,sz,(x.2.1++xs.drop x.1).map e,true,true⟩]⟩
def lK {α:Type} (n:Nat) (e:α→List Cl) (y:Int→α→α) (c:Int→α→Int) (xs:List α) (k:Int) (x:Nat×Int):MS:=
 ⟨n,[(0,.c (.sl ((IV y c k xs).map e))),(1,.c (.v (.int .i64 x.2))),(5,.c (.v (.int .i64 x.1)))],[]⟩
section
variable {α:Type} {y:Int→α→α} {c:Int→α→Int} {xs:List α} {k0 k1:Int} {i:Nat} {dn:List α}
theorem MkX.len (h:MkX y c xs k0 (i,dn,k1)):(dn++xs.drop i).length=xs.length:=by have h1:=h.1; have h2:=h.2.1; dsimp only at h1 h2; simp; omega
theorem MkX.finL (h:MkX y c xs k0 (i,dn,k1)) (hi:decide ((i:Int)<xs.length)=false):dn++xs.drop i=IV y c k0 xs∧k1=Eh c k0 xs:=h.fin (by have:=h.1; simp at hi; dsimp only at this; omega)
theorem HdX.finL (h:HdX y c xs k0 (i,k1)) (hi:decide ((i:Int)<xs.length)=false):k1=Eh c k0 xs:=h.fin (by have:=h.1; simp at hi; dsimp only at this; omega)
end
end Go.Proofs.YthmifbbmgnhddaaGreat
