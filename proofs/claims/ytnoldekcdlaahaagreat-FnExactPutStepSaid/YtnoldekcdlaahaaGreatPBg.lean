/- A part. -/
import Derived.Test.YtnoldekcdlaahaaGreatPOa
set_option linter.unusedSimpArgs false
set_option linter.unusedVariables false
set_option maxHeartbeats 1000000
set_option maxRecDepth 10000
open Go.Proofs.Tryz
namespace Go.Proofs.YtnoldekcdlaahaaGreat
open Go.Vm
theorem BL {α:Type} {f:α→List Cl} {l:List α} (h:∀ x,Fj (f x)=true):JR (l.map f)=true:=Ym fun x hx=>by
 obtain⟨y,_,rfl⟩:=sD.1 hx
 exact h y
theorem p_ {N ty sz:Nat} {R:List (List Cl)} {wr live:Bool} (h:JR R=true):Aw N ⟨ty,sz,R,wr,live⟩=true:=by
 simp only[Aw,r_]
 exact .inr (aJ.2 fun x hx=>tu (AE8 (VH h x hx)))
theorem AEb {R:List (List Cl)} {i:Nat} {x:List Cl} (h:JR R=true) (hx:Fj x=true):JR (R.set i x)=true:=Ym fun y hy=>by
 rcases aaO hy with h' | rfl
 ·exact VH h y h'
 ·exact hx
theorem set_self {R:List (List Cl)} {i:Nat} (hi:i<R.length) (x:List Cl):(R.set i x)[i]?=some x:=AP1
def MkS (ty sz:Nat) (k l l':Int) (cl':List Cl) (rs:List AV):Prop:=∃ (R:List (List Cl)) (k':Int),cl' = [.ow ty sz R]∧rs = [.c (.v (.int .i64 k'))]∧k≤k'∧k'+64*l'≤k+64*l∧JR R=true
def MkP {α:Type} (f:α→List Cl) (sz:α→Int→Int) (xs:List α) (k l lf:Int) (x:Nat×List (List Cl)×Int×Int):Prop:=
 x.1≤xs.length∧x.2.1.length=xs.length∧(∀ (j:Nat) (h:j<xs.length),x.1≤j→x.2.1[j]?=some (f xs[j]))∧JR x.2.1=true∧k≤x.2.2.1∧x.2.2.1+64*x.2.2.2≤k+64*(l-xs.length+x.1)∧XV sz (xs.drop x.1) x.2.2.2=lf∧x.2.2.2≤l
theorem ku {n:Nat} {l:Int} (h:0≤F6 n l):F6 n l=l-n:=by
 unfold F6 at h ⊢
 split at h
 ·omega
 ·rename_i h2; rw[bz h2]
theorem MkP.start {α:Type} {f:α→List Cl} {sz:α→Int→Int} {xs:List α} {k l:Int} (hf:∀ x,Fj (f x)=true) (h0:0≤DW sz xs l):MkP f sz xs k l (DW sz xs l) (0,xs.map f,k,l-xs.length):=by
 obtain⟨s1,s2,s3⟩:=AZ h0
 have e:=ku s1
 refine⟨aA _,AOR,fun j h _=>by simp[h],BL hf,sG _,AOV, ?_,AOV⟩
 simp only[aba]
 rw[← e]
 exact s3.symm
theorem MkP.room {α:Type} {f:α→List Cl} {sz:α→Int→Int} {xs:List α} {k l lf:Int} {i:Nat} {R:List (List Cl)} {k1 l1:Int} (h:MkP f sz xs k l lf (i,R,k1,l1)) (hi:i<xs.length) (h0:0≤lf) :
  0≤sz xs[i] l1∧R[i]?=some (f xs[i])∧i<R.length∧k≤k1∧k1+64*l1≤k+64*l-64∧l1≤l:=by
 obtain⟨a1,a2,a3,a4,a5,a6,a7,a8⟩:=h
 dsimp only at *
 rw[aG hi,XV] at a7
 rw[← a7] at h0
 obtain⟨s1,s2,s3⟩:=AZ h0
 exact⟨s1,a3 i hi (aT _),AOQ,a5,AOQ,a8⟩
theorem MkP.step {α:Type} {f:α→List Cl} {sz:α→Int→Int} {xs:List α} {k l lf:Int} {i:Nat} {R:List (List Cl)} {k1 l1:Int} (h:MkP f sz xs k l lf (i,R,k1,l1)) (hi:i<xs.length) (h0:0≤lf) {row:List Cl} {k2:Int} (hr:Fj row=true) (hk:k1≤k2) (hk2:k2+64*sz xs[i] l1≤k1+64*l1+64) (hl:sz xs[i] l1≤l1) :
  MkP f sz xs k l lf (i+1,R.set i row,k2,sz xs[i] l1):=by
 obtain⟨a1,a2,a3,a4,a5,a6,a7,a8⟩:=h
 dsimp only at *
 rw[aG hi,XV] at a7
 have h0':=h0
 rw[← a7] at h0'
 obtain⟨s1,s2,s3⟩:=AZ h0'
 refine⟨hi,by simpa using a2,fun j hj hij=>?_,AEb a4 hr,AOV,AOV,by simp only; rw[← s3]; exact a7,AOV⟩
 simp only at hij ⊢
 rw[List.getElem?_set_ne AOQ]
 exact a3 j hj AOQ
theorem MkP.done {α:Type} {f:α→List Cl} {sz:α→Int→Int} {xs:List α} {k l lf:Int} {i:Nat} {R:List (List Cl)} {k1 l1:Int} (ty n:Nat) (h:MkP f sz xs k l lf (i,R,k1,l1)) (hi:i=xs.length):JR R=true∧MkS ty n k l lf [.ow ty n R] [.c (.v (.int .i64 k1))]:=by
 obtain⟨a1,a2,a3,a4,a5,a6,a7,a8⟩:=h
 dsimp only at *
 subst hi
 rw[aY] at a7
 simp only[XV] at a7
 exact⟨a4,R,k1,rfl,rfl,a5,AOQ,a4⟩
theorem MCtr.mono {P:Program} {f:FuncId} {g:Bool} {cl:List Cl} {args:List AV} {Q Q':List Cl→List AV→Prop} (h:MCtr P f g cl args Q) (hQ:∀ cl' rs,Q cl' rs→Q' cl' rs):MCtr P f g cl args Q':=
 ⟨h.1,h.2.1,fun w St us G vs h1 h2 h3 h4=>(h.2.2 w St us G vs h1 h2 h3 h4).mono fun e w' hb=>by
  obtain⟨cl',rs,rv,G',h0,hr⟩:=hb
  exact⟨cl',rs,rv,G',hQ _ _ h0,hr⟩⟩
def jL:Nat→Int→ByteArray→ByteArray
 | 0,_,out=>out
 | n+1,k,out=>if k>0 then jL n (k.tdiv 10) (strOfNums [IntKind.u8.wrap (48+k.tmod 10)]++out) else out
def IJ (k:Int):ByteArray:=if k≤0 then ByteArray.mk #[109,48] else ByteArray.mk #[109]++jL 19 k (ByteArray.mk #[])
theorem ACX (n:Int):(strOfNums [n]).size=1:=by rw[strOfNums_size]; rfl
theorem ET (k:Int) (hk:0≤k) (hb:k≤4000000000000000000):Ctr prog 137 [.c (.v (.int .i64 k))] [.val (.c (.v (.string (IJ k))))]:=by
 refine CM call137 func137 ntmps137 results137 fun hw=>?_
 by_cases h0:k≤0
 ·simp only[go_sem,h0,IJ]
 ·simp only[go_sem,h0,IJ]
  refine ABf 0 [0,3] (A:=Nat×Int×ByteArray) (fun x=>⟨20,[(0,.c (.v (.int .i64 x.2.1))),(3,.c (.v (.string x.2.2)))],[]⟩)
   (fun x=>jL x.1 x.2.1 x.2.2=jL 19 k (ByteArray.mk #[])∧0≤x.2.1∧x.2.1.toNat<10 ^ x.1∧x.2.2.size+x.1≤19∧x.2.1≤k) (fun x=>x.1) (19,k,ByteArray.mk #[]) ⟨⟨rfl,rfl⟩,by simp[trim,Bi],rfl,hk,by show k.toNat<10 ^ 19; omega,by show _≤_; simp[ByteArray.size],sG _⟩ ?_
  rintro⟨n,j,out⟩ ⟨h1,h2,h3,h4,h5⟩
  dsimp only at h1 h2 h3 h4 h5
  refine AOJ (fun h=>?_) fun h=>?_
  ·have hj:0<j:=by simpa using h
   cases n with
   | zero=>simp at h3; omega
   | succ n =>
    have hm1:0≤j.tmod 10:=Int.tmod_nonneg 10 h2
    have hm2:j.tmod 10<10:=Int.tmod_lt_of_pos j AOQ
    have hd1:0≤j.tdiv 10:=Int.tdiv_nonneg h2 AOQ
    have hd2:j.tdiv 10≤j:=Int.tdiv_le_self _ h2
    have hd3:(j.tdiv 10).toNat<10 ^ n:=by
     rw[dw h2]
     rw[Nat.pow_succ] at h3
     omega
    have hb2:j.toNat<10 ^ 19:=cO h3 (aay AOQ AOQ)
    have h10:((10:Int)=0)=False:=AOR
    have hsz:(strOfNums [IntKind.u8.wrap (48+j.tmod 10)]).size+out.size≤maxLen:=by rw[ACX]; simp only[maxLen]; omega
    simp only[go_sem,wrap_i64 (n:=j.tmod 10) AOQ AOQ,wrap_i64 (n:=48+j.tmod 10) AOQ AOQ,wrap_i64 (n:=j.tdiv 10) AOQ AOQ,hsz,h10,aH]
    refine⟨(n,j.tdiv 10,_),⟨rfl,rfl⟩,rfl,⟨?_,hd1,hd3, ?_,AOV⟩,AOV⟩
    ·rw[← h1]
     show _=if j>0 then _ else _
     rw[bF hj]
    ·simp only[ByteArray.size_append,ACX]; omega
  ·have hj:j=0:=by simp at h; omega
   subst hj
   have hd:∀ n out,jL n 0 out=out:=fun n out=>by cases n<;>rfl
   rw[hd] at h1
   have hsz:(#[109]:Array UInt8).size+(jL 19 k (ByteArray.mk #[])).size≤maxLen:=by rw[← h1]; show 1+_≤9223372036854775807; omega
   simp only[go_sem,h1,hsz]
theorem Dq {N ty sz:Nat} {R:List (List Cl)} {wr live:Bool} (h:JR R=true) : [(⟨ty,sz,R,wr,live⟩:Ob)].all (Aw N)=true:=by
 simp only[bi,bJ,aN]
 exact p_ h
def IE {α:Type} (y:Int→α→α) (c:Int→α→Int):Int→List α→List α
 | _,[]=>[]
 | k,x::xs=>y k x::IE y c (c k x) xs
def D5 {α:Type} (c:Int→α→Int):Int→List α→Int
 | k,[]=>k
 | k,x::xs=>D5 c (c k x) xs
theorem Ep {α:Type} {c:Int→α→Int} (hc:∀ k x,k≤c k x):∀ (xs:List α) (k:Int),k≤D5 c k xs
 | [],k=>sG _
 | x::xs,k=>by
  have:=Ep hc xs (c k x)
  have:=hc k x
  simp only[D5]; omega
theorem F9 {α:Type} {c:Int→α→Int} (B:Int) (hB:0≤B):∀ (xs:List α) (_:∀ x∈xs,∀ k,c k x≤k+B) (k:Int),D5 c k xs≤k+xs.length*B
 | [],_,k=>by simp[D5]
 | x::xs,h,k=>by
  have h1:=h x AOR k
  have h2:=F9 B hB xs (fun y hy=>h y APi) (c k x)
  simp only[D5,aI,Int.natCast_add,Int.natCast_one,Int.add_mul,Int.one_mul]
  omega
theorem JK {α:Type} (y:Int→α→α) (c:Int→α→Int):∀ (xs:List α) (k:Int),(IE y c k xs).length=xs.length
 | [],k=>rfl
 | x::xs,k=>by simp[IE,JK y c xs]
def MkX {α:Type} (y:Int→α→α) (c:Int→α→Int) (xs:List α) (k0:Int) (x:Nat×List α×Int):Prop:=
 x.1≤xs.length∧x.2.1.length=x.1∧IE y c k0 xs=x.2.1++IE y c x.2.2 (xs.drop x.1)∧D5 c k0 xs=D5 c x.2.2 (xs.drop x.1)∧k0≤x.2.2
section
variable {α:Type} {y:Int→α→α} {c:Int→α→Int} {xs:List α} {k0 k1:Int} {i:Nat} {dn:List α}
theorem MkX.start:MkX y c xs k0 (0,[],k0):=⟨aA _,rfl,AOR,AOR,sG _⟩
theorem MkX.room (h:MkX y c xs k0 (i,dn,k1)) (hi:i<xs.length) (hc:∀ k x,k≤c k x) (f:α→List Cl) :
  ((dn++xs.drop i).map f)[i]?=some (f xs[i])∧c k1 xs[i]≤D5 c k0 xs∧k0≤k1∧i<((dn++xs.drop i).map f).length:=by
 obtain⟨a1,a2,a3,a4,a5⟩:=h
 dsimp only at *
 refine⟨?_, ?_,a5,AOS⟩
 ·rw[mW,bn AOQ,a2,jV,aaY]
  simp[hi]
 ·rw[a4,aG hi]
  exact Ep hc _ _
theorem MkX.set (h:MkX y c xs k0 (i,dn,k1)) (hi:i<xs.length) (f:α→List Cl) (z:α):((dn++xs.drop i).map f).set i (f z)=((dn ++ [z])++xs.drop (i+1)).map f:=by
 obtain⟨a1,a2,a3,a4,a5⟩:=h
 dsimp only at *
 rw[← Qh,abm _ _ AOQ,a2,jV,aG hi,List.set_cons_zero,bT]
 rfl
theorem MkX.step (h:MkX y c xs k0 (i,dn,k1)) (hi:i<xs.length) (hc:∀ k x,k≤c k x):MkX y c xs k0 (i+1,dn ++ [y k1 xs[i]],c k1 xs[i]):=by
 obtain⟨a1,a2,a3,a4,a5⟩:=h
 dsimp only at *
 have:=hc k1 xs[i]
 refine⟨hi,by simp[a2], ?_, ?_,AOV⟩
 ·rw[a3,aG hi,IE,bT]; rfl
 ·rw[a4,aG hi,D5]
theorem MkX.fin (h:MkX y c xs k0 (i,dn,k1)) (hi:i=xs.length):dn++xs.drop i=IE y c k0 xs∧k1=D5 c k0 xs:=by
 obtain⟨a1,a2,a3,a4,a5⟩:=h
 dsimp only at *
 subst hi
 rw[aY] at a3 a4 ⊢
 simp only[IE,D5,bQ] at a3 a4 ⊢
 exact⟨a3.symm,a4.symm⟩
end
def HdX {α:Type} (y:Int→α→α) (c:Int→α→Int) (xs:List α) (k0:Int) (x:Nat×Int):Prop:=
 x.1≤xs.length∧(IE y c k0 xs).drop x.1=IE y c x.2 (xs.drop x.1)∧D5 c k0 xs=D5 c x.2 (xs.drop x.1)∧k0≤x.2
section
variable {α:Type} {y:Int→α→α} {c:Int→α→Int} {xs:List α} {k0 k1:Int} {i:Nat}
theorem HdX.start:HdX y c xs k0 (0,k0):=⟨aA _,AOR,AOR,sG _⟩
theorem HdX.room (h:HdX y c xs k0 (i,k1)) (hi:i<xs.length) (hc:∀ k x,k≤c k x) (f:α→List Cl) :
  ((IE y c k0 xs).map f)[i]?=some (f (y k1 xs[i]))∧c k1 xs[i]≤D5 c k0 xs∧k0≤k1:=by
 obtain⟨a1,a2,a3,a4⟩:=h
 dsimp only at *
 refine⟨?_, ?_,a4⟩
 ·have:(IE y c k0 xs)[i]?=some (y k1 xs[i]):=by
   have h2:((IE y c k0 xs).drop i)[0]?=(IE y c k0 xs)[i]?:=by rw[aaY]; rfl
   rw[← h2,a2,aG hi,IE]; rfl
  rw[mW,this]; rfl
 ·rw[a3,aG hi]
  exact Ep hc _ _
theorem HdX.step (h:HdX y c xs k0 (i,k1)) (hi:i<xs.length) (hc:∀ k x,k≤c k x):HdX y c xs k0 (i+1,c k1 xs[i]):=by
 obtain⟨a1,a2,a3,a4⟩:=h
 dsimp only at *
 have:=hc k1 xs[i]
 refine⟨hi, ?_, ?_,AOV⟩
 ·have h2:(IE y c k0 xs).drop (i+1)=((IE y c k0 xs).drop i).drop 1:=by rw[List.drop_drop]
  simp only
  rw[h2,a2,aG hi,IE]; rfl
 ·rw[a3,aG hi,D5]
theorem HdX.fin (h:HdX y c xs k0 (i,k1)) (hi:i=xs.length):k1=D5 c k0 xs:=by
 obtain⟨a1,a2,a3,a4⟩:=h
 dsimp only at *
 subst hi
 rw[aY] at a3
 exact a3.symm
end
theorem zF {α:Type} {c:Int→α→Int}:∀ (xs:List α) (_:∀ x∈xs,∀ k,k≤c k x) (k:Int),k≤D5 c k xs
 | [],_,k=>sG _
 | x::xs,h,k=>by
  have h1:=zF xs (fun y hy=>h y APi) (c k x)
  have h2:=h x AOR k
  simp only[D5]; omega
theorem ACY {α:Type} {c:Int→α→Int} {sz:α→Int→Int}:∀ (xs:List α) (_:∀ x∈xs,∀ k l,0≤sz x l→l≤1048576→c k x+64*sz x l≤k+64*l+64∧sz x l≤l) (k l:Int),0≤XV sz xs l→l≤1048576→D5 c k xs+64*XV sz xs l≤k+64*l+64*xs.length
 | [],_,k,l,_,_=>by simp[D5,XV]
 | x::xs,h,k,l,h0,hl=>by
  simp only[XV] at h0 ⊢
  obtain⟨h1,h2,h3⟩:=AZ h0
  have g1:=h x AOR k l h1 hl
  have g2:=ACY xs (fun y hy=>h y APi) (c k x) _ h2 AOQ
  rw[h3]
  simp only[D5,aI,Int.natCast_add,Int.natCast_one]
  omega
theorem KD {α:Type} {c:Int→α→Int} {sz:α→Int→Int} (xs:List α) (h:∀ x∈xs,∀ k l,0≤sz x l→l≤1048576→c k x+64*sz x l≤k+64*l+64∧sz x l≤l) (k:Int) {l:Int} (h0:0≤DW sz xs l) (hl:l≤1048576):D5 c k xs+64*DW sz xs l≤k+64*l:=by
 unfold DW at h0 ⊢
 obtain⟨h1,h2,h3⟩:=AZ h0
 have e:=ku h1
 have g2:=ACY xs h k _ h2 AOQ
 rw[h3]; omega
theorem PL {α:Type} {c:Int→α→Int} (hc:∀ k x,c k x≤k+64) (xs:List α) (k l:Int) (h0:0≤F6 xs.length l):D5 c k xs+64*F6 xs.length l≤k+64*l:=by
 have e:=ku h0
 have g:=F9 (c:=c) 64 AOQ xs (fun x _ k=>hc k x) k
 omega
def pW (k:Int) (_:Int):Int:=k
def mkY (k:Int) (_:Int):Int:=IntKind.u8.wrap k
def J8 (k:Int) (_:Int):Int:=k+1
theorem Jf (k x:Int):k≤J8 k x:=by unfold J8; omega
theorem PM (k x:Int):J8 k x≤k+64:=by unfold J8; omega
theorem MG {x:Int} (h:0≤x):decide (x<0)=false:=AOS
theorem wz {n:Int} (h : -9223372036854775808≤n:=by omega) (h2:n≤9223372036854775807:=by omega):IntKind.i64.wrap n=n:=wrap_i64 h h2
theorem JB:((3:Int)=0)=False:=AOR
theorem Af (a b c:Int):a+b+c=a+(b+c):=Int.add_assoc _ _ _
def wI {α:Type} (P:Program) (f:FuncId) (ty sz:Nat) (e:α→List Cl) (y:Int→α→α) (c:Int→α→Int) (xs:List α) (k:Int):Prop:=
 MCtr P f false [.ow ty sz (xs.map e)] [.c (.v (.int .i64 k))] (fun cl' rs=>cl' = [.ow ty sz ((IE y c k xs).map e)]∧rs = [.c (.v (.int .i64 (D5 c k xs)))])
abbrev zG {α:Type} (P:Program) (f:FuncId) (e:α→List Cl) (y:Int→α→α) (c:Int→α→Int) (xs:List α) (k:Int):Prop:=
 Ctr P f [.c (.sl ((IE y c k xs).map e)),.c (.v (.int .i64 k))] [.val (.c (.v (.int .i64 (D5 c k xs))))]
theorem ACN {P:Program} {s:MS} {K:MS→Prop} {f:FuncId} {A B C:Prop} {args:List AV} {d:Option Nat} {α:Type} {ty sz l:Nat} {e:α→List Cl} {y:Int→α→α} {c:Int→α→Int} {xs:List α} {k:Int} (h:wI P f ty sz e y c xs k) (hx:args=mkA false [.ref l] :: [.c (.v (.int .i64 k))])
  (ho:OwnL s.st [.ref l] [.ow ty sz (xs.map e)] [] (fun _=>True)) (hk:K (MS.put ⟨s.n,s.env,JH s.st [.ref l] [.ow ty sz ((IE y c k xs).map e)]⟩ d (retA [.c (.v (.int .i64 (D5 c k xs)))]))):NM A (NM B (NM (MutK P f s args d K) C)):=
 AEP false h hx ho rfl (.inr rfl) fun cl' rs hM=>by
  obtain⟨rfl,rfl⟩:=hM
  exact⟨⟨rfl,⟨rfl,rfl⟩,trivial⟩,hk⟩
def mkS {α:Type} (us:List Value) (n ty sz:Nat) (e:α→List Cl) (xs:List α) (x:Nat×List α×Int):MS:=
 ⟨n,[(0,.pin (.c (.ref 0)) (mkV false us)),(1,.c (.v (.int .i64 x.2.2))),(5,.c (.v (.int .i64 x.1)))],[⟨ty,sz,(x.2.1++xs.drop x.1).map e,true,true⟩]⟩
def iD {α:Type} (n:Nat) (e:α→List Cl) (y:Int→α→α) (c:Int→α→Int) (xs:List α) (k:Int) (x:Nat×Int):MS:=
 ⟨n,[(0,.c (.sl ((IE y c k xs).map e))),(1,.c (.v (.int .i64 x.2))),(5,.c (.v (.int .i64 x.1)))],[]⟩
section
variable {α:Type} {y:Int→α→α} {c:Int→α→Int} {xs:List α} {k0 k1:Int} {i:Nat} {dn:List α}
theorem MkX.len (h:MkX y c xs k0 (i,dn,k1)):(dn++xs.drop i).length=xs.length:=by have h1:=h.1; have h2:=h.2.1; dsimp only at h1 h2; simp; omega
theorem MkX.finL (h:MkX y c xs k0 (i,dn,k1)) (hi:decide ((i:Int)<xs.length)=false):dn++xs.drop i=IE y c k0 xs∧k1=D5 c k0 xs:=h.fin (by have:=h.1; simp at hi; dsimp only at this; omega)
theorem HdX.finL (h:HdX y c xs k0 (i,k1)) (hi:decide ((i:Int)<xs.length)=false):k1=D5 c k0 xs:=h.fin (by have:=h.1; simp at hi; dsimp only at this; omega)
end
end Go.Proofs.YtnoldekcdlaahaaGreat
