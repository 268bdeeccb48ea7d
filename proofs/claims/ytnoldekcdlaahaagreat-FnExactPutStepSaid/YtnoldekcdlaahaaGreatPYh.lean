/- A part. -/
import Derived.Test.YtnoldekcdlaahaaGreatPYg
set_option linter.unusedSimpArgs false
set_option linter.unusedVariables false
set_option maxHeartbeats 2000000
set_option maxRecDepth 10000
open Go.Proofs.Tryz
namespace Go.Proofs.YtnoldekcdlaahaaGreat
open Go.Vm
def Fe (r:DVal×Int):List Cl:=[.v (.int .i64 r.1.ty),.v (.int .i64 r.1.n),.v (.string r.1.s),.v (.int .i64 r.2)]
theorem AB0 (r:DVal×Int):C_ (Fe r)=true:=rfl
theorem Kr (l:List (DVal×Int)):Gq (l.map Fe)=true:=AY AB0
def Nh:List (DVal×Int)→DVal→List (DVal×Int)
 | [],v=>[(v,1)]
 | [x],v=>if ND x.1 v=true then [(x.1,x.2+1)] else [x,(v,1)]
 | x::y::r,v=>x::Nh (y::r) v
theorem AFt (r:List (DVal×Int)) (v:DVal):Nh r v≠ []:=by
 cases r with
 | nil=>simp[Nh]
 | cons x r =>
  cases r with
  | nil=>simp only[Nh]; split<;>simp
  | cons y r=>simp[Nh]
theorem AD_ {l:List DVal} (h:runs l = []):l = []:=by
 cases l with
 | nil=>rfl
 | cons v l =>
  rw[runs] at h
  split at h
  ·cases h
  ·split at h<;>cases h
theorem Su (v:DVal) (l:List DVal):runs (v::l)=match runs l with
  | []=>[(v,1)]
  | (x,k)::r=>if ND v x=true then(x,k+1)::r else(v,1)::(x,k)::r:=by rw[runs]; rfl
theorem Sv (v:DVal):∀ l:List DVal,runs (l ++ [v])=Nh (runs l) v
 | []=>rfl
 | a::l=>by
  have ih:=Sv v l
  rw[aU,Su,Su,ih]
  cases hr:runs l with
  | nil =>
   have:=AD_ hr
   subst this
   simp only[Nh]
   by_cases h:ND a v=true
   ·have:=(LD a v).1 h
    subst this
    simp[h]
   ·simp[h]
  | cons y r =>
   obtain⟨x,k⟩:=y
   cases r with
   | nil =>
    simp only[Nh]
    by_cases h:ND x v=true<;>by_cases h2:ND a x=true<;>simp[h,h2,Nh]
   | cons z r =>
    rw[Nh]
    dsimp only
    by_cases h2:ND a x=true
    ·rw[bF h2,bF h2,Nh]
    ·rw[bz h2,bz h2,Nh,Nh]
theorem oU (v:DVal):∀ {rs:List (DVal×Int)} {n:Nat} (h:rs.length=n+1),Nh rs v=if ND (rs[n]' AOQ).1 v=true then rs.set n ((rs[n]' AOQ).1,(rs[n]' AOQ).2+1) else rs ++ [(v,1)]
 | [],_,h=>AOx
 | [x],n,h=>by
  have:n=0:=by simpa using h.symm
  subst this
  simp only[Nh,abu]
  rfl
 | x::y::r,n,h=>by
  obtain⟨m,rfl⟩:∃ m,n=m+1:=⟨n-1,AOc⟩
  rw[Nh,oU v (rs:=y::r) (n:=m) AOz]
  simp only[abv,List.set_cons_succ,aU]
  split<;>rfl
theorem kH (v:DVal):∀ (rs:List (DVal×Int)),∃ q,(Nh rs v).getLast?=some (v,q)
 | []=>⟨1,rfl⟩
 | [x]=>by
  simp only[Nh]
  split
  ·rename_i h
   exact⟨x.2+1,by rw[(LD _ _).1 h]; rfl⟩
  ·exact⟨1,rfl⟩
 | x::y::r=>by
  obtain⟨q,hq⟩:=kH v (y::r)
  refine⟨q, ?_⟩
  rw[Nh,List.getLast?_cons,hq]; rfl
theorem Lc:∀ {l:List DVal} {r:DVal×Int},r∈runs l→r.1∈l∧1≤r.2∧r.2≤l.length
 | [],_,h=>APh
 | v::l,r,h=>by
  rw[Su] at h
  have ih:=fun r=>Lc (l:=l) (r:=r)
  cases hr:runs l with
  | nil =>
   simp only[hr,abo] at h
   subst h
   simp only[SK,aI]
   exact⟨.inl trivial,AOQ,AOQ⟩
  | cons y q =>
   obtain⟨x,k⟩:=y
   rw[hr] at h ih
   dsimp only at h
   split at h
   ·rcases SK.1 h with rfl | h
    ·obtain⟨a1,a2,a3⟩:=ih (x,k) AOR
     simp only[SK,aI] at *
     exact⟨.inr a1,AOQ,AOQ⟩
    ·obtain⟨a1,a2,a3⟩:=ih r (by simp[h])
     simp only[SK,aI]
     exact⟨.inr a1,AOQ,AOQ⟩
   ·rcases SK.1 h with rfl | h
    ·simp only[SK,aI]
     exact⟨.inl trivial,AOQ,AOQ⟩
    ·obtain⟨a1,a2,a3⟩:=ih r h
     simp only[SK,aI]
     exact⟨.inr a1,AOQ,AOQ⟩
theorem O4:∀ l:List DVal,(runs l).length≤l.length
 | []=>aT _
 | v::l=>by
  have:=O4 l
  rw[Su]
  split
  ·simp
  ·rename_i x k r h
   rw[h] at this
   simp only[aI] at this ⊢
   split<;>simp<;>omega
theorem take_snoc {α:Type} {l:List α} {i:Nat} (h:i<l.length):l.take (i+1)=l.take i ++ [l[i]]:=aas h
theorem fB (rs:List (DVal×Int)) (v:DVal):(rs ++ [(v,1)]).map Fe=rs.map Fe ++ [[.v (.int .i64 v.ty),.v (.int .i64 v.n),.v (.string v.s),.v (.int .i64 1)]]:=by simp[Fe]
theorem uw (rs:List (DVal×Int)) (v:DVal):Gq (rs.map Fe ++ [[.v (.int .i64 v.ty),.v (.int .i64 v.n),.v (.string v.s),.v (.int .i64 1)]])=true:=by rw[← fB]; exact Kr _
theorem oV (rs:List (DVal×Int)) (n:Nat) (v:DVal) (k:Int):(rs.set n (v,k)).map Fe=(rs.map Fe).set n [.v (.int .i64 v.ty),.v (.int .i64 v.n),.v (.string v.s),.v (.int .i64 k)]:=by rw[Qh]; rfl
theorem AAd (rs:List (DVal×Int)) (n:Nat) (v:DVal) (k:Int):Gq ((rs.map Fe).set n [.v (.int .i64 v.ty),.v (.int .i64 v.n),.v (.string v.s),.v (.int .i64 k)])=true:=by rw[← oV]; exact Kr _
theorem kJ {l:List DVal} {j:Nat} (hj:j<l.length):∃ (n:Nat) (h:(runs (l.take (j+1))).length=n+1),((runs (l.take (j+1)))[n]' AOQ).1=l[j]:=by
 have hs:runs (l.take (j+1))=Nh (runs (l.take j)) l[j]:=by rw[take_snoc hj,Sv]
 obtain⟨q,hq⟩:=kH l[j] (runs (l.take j))
 rw[← hs] at hq
 have hne:runs (l.take (j+1))≠ []:=by rw[hs]; exact AFt _ _
 have hlen:0<(runs (l.take (j+1))).length:=aa3.2 hne
 refine⟨(runs (l.take (j+1))).length-1,AOQ, ?_⟩
 rw[List.getLast?_eq_getElem?,au AOQ] at hq
 rw[ry hq]
theorem yg (l:List DVal) (hl:l.length≤1048576):Ctr prog 434 [.c (.sl (l.map DVal.c))] [.val (.c (.sl ((runs l).map Fe)))]:=by
 refine CM call434 func434 ntmps434 results434 fun hw=>?_
 simp only[go_sem]
 refine ABZ [6] (A:=Nat) (fun x=>[(9,.c (.v (.int .i64 (x)))),(3,.c (.ref 0))]) (fun x=>[⟨312,4,(runs (l.take x)).map Fe,true,true⟩]) (fun x=>x≤l.length) (fun x=>l.length-x) 0 (ABJ [(0,false)] ⟨rfl,rfl,rfl,trivial⟩ rfl) (aA _) ?_
 rintro i hi
 refine AOJ (fun h=>?_) fun h=>?_
 ·have hi':i<l.length:=by simp at h; omega
  have hs:runs (l.take (i+1))=Nh (runs (l.take i)) l[i]:=by rw[take_snoc hi',Sv]
  have hrl:=O4 (l.take i)
  rw[bI] at hrl
  have hl2:(runs (l.take i)).length+1≤2147483648:=AOQ
  rcases h2:decide ((i:Int)>0) with _ | _
  ·have h2':i=0:=by simp at h2; omega
   subst h2'
   have hs2:runs (l.take (0+1)) = [(l[0],1)]:=by rw[hs]; rfl
   have hs3:(runs ([]:List DVal)).map Fe = []:=rfl
   have hs4:(runs ([]:List DVal)).length=0:=rfl
   simp only[go_sem,AA _ hi']
   refine AAm ?_
   simp only[go_sem,h2,Kr,hs4,aA,wrap_i64 (n:=((0:Nat):Int)+1) AOQ AOQ]
   exact⟨0+1,ABJ [(3,false)] ⟨rfl,rfl,rfl,trivial⟩ (by rw[hs2]; rfl),hi',AOQ⟩
  ·have h2':0<i:=by simpa using h2
   obtain⟨j,rfl⟩:∃ j,i=j+1:=⟨i-1,AOQ⟩
   have hj:j<l.length:=AOQ
   have hw1:IntKind.i64.wrap (((j+1:Nat):Int)-1)=(j:Int):=by rw[show (((j+1:Nat):Int)-1)=(j:Int) from AOQ]; exact wrap_i64 AOQ AOQ
   have e1:(l[j].ty==l[j+1].ty&&(l[j].n==l[j+1].n&&l[j].s.toList==l[j+1].s.toList))=ND l[j] l[j+1]:=rfl
   obtain⟨n,hn,hn2⟩:=kJ hj
   have hn3:n<(runs (l.take (j+1))).length:=AOQ
   rw[oU l[j+1] hn,hn2] at hs
   simp only[go_sem,AA _ hi']
   refine AAm ?_
   simp only[go_sem,h2,hw1,AA _ hj,ES,IL,e1]
   rcases h3:ND l[j] l[j+1] with _ | _
   ·rw[h3,bz AOR] at hs
    simp only[go_sem,h3,hl2,Kr,wrap_i64 (n:=((j+1:Nat):Int)+1) AOQ AOQ]
    exact⟨j+1+1,ABJ [(3,false)] ⟨rfl,rfl,uw _ _,trivial⟩ (by rw[hs,fB]; rfl),hi',AOQ⟩
   ·rw[h3,bF rfl] at hs
    have hw2:IntKind.i64.wrap (((runs (l.take (j+1))).length:Int)-1)=(n:Int):=by rw[show (((runs (l.take (j+1))).length:Int)-1)=(n:Int) from AOQ]; exact wrap_i64 AOQ AOQ
    obtain⟨b1,b2,b3⟩:=Lc (ax hn3)
    rw[bI] at b3
    simp only[go_sem,h3,hw2,hn3,AA _ hn3,Fe,Kr,hn2,wrap_i64 (n:=(runs (l.take (j+1)))[n].2+1) AOQ AOQ,wrap_i64 (n:=((j+1:Nat):Int)+1) AOQ AOQ]
    exact ANJ
 ·have hi':i=l.length:=by simp at h; omega
  subst hi'
  simp only[go_sem,bM,Kr]
  try exact AII
theorem yh (l:List DVal) (hl:l.length≤1048576):Ctr prog 426 [.c (.sl (l.map DVal.c))] [.val (.c (.sl ((runs l).map Fe)))]:=by
 refine CM call426 func426 ntmps426 results426 fun hw=>?_
 simp only[go_sem]
 refine ABZ [6] (A:=Nat) (fun x=>[(4,.c (.v (.int .i64 (x)))),(3,.c (.ref 0))]) (fun x=>[⟨312,4,(runs (l.take x)).map Fe,true,true⟩]) (fun x=>x≤l.length) (fun x=>l.length-x) 0 (ABJ [(0,false)] ⟨rfl,rfl,rfl,trivial⟩ rfl) (aA _) ?_
 rintro i hi
 refine AOJ (fun h=>?_) fun h=>?_
 ·have hi':i<l.length:=by simp at h; omega
  have hs:runs (l.take (i+1))=Nh (runs (l.take i)) l[i]:=by rw[take_snoc hi',Sv]
  have hrl:=O4 (l.take i)
  rw[bI] at hrl
  have hl2:(runs (l.take i)).length+1≤2147483648:=AOQ
  rcases i with _ | j
  ·have h2:decide ((0:Int)>0)=false:=by decide
   have hs2:runs (l.take (0+1)) = [(l[0],1)]:=by rw[hs]; rfl
   have hs4:(runs ([]:List DVal)).length=0:=rfl
   simp only[go_sem,abj,hs4,Int.ofNat_zero,abH]
   refine AAm ?_
   simp only[go_sem,abj,hs4,h2,Int.ofNat_zero,abH,AA _ hi',Kr,aA,wrap_i64 (n:=(0:Int)+1) AOQ AOQ]
   exact⟨0+1,ABJ [(2,false)] ⟨rfl,rfl,rfl,trivial⟩ (by rw[hs2]; rfl),hi',AOQ⟩
  ·have hj:j<l.length:=by omega
   obtain⟨n,hn,hn2⟩:=kJ hj
   have hn3:n<(runs (l.take (j+1))).length:=AOQ
   rw[oU l[j+1] hn,hn2] at hs
   have h2:decide (((runs (l.take (j+1))).length:Int)>0)=true:=by rw[aZ]; omega
   have hw2:IntKind.i64.wrap (((runs (l.take (j+1))).length:Int)-1)=(n:Int):=by rw[show (((runs (l.take (j+1))).length:Int)-1)=(n:Int) from AOQ]; exact wrap_i64 AOQ AOQ
   have e1:(l[j].ty==l[j+1].ty&&(l[j].n==l[j+1].n&&l[j].s.toList==l[j+1].s.toList))=ND l[j] l[j+1]:=rfl
   simp only[go_sem]
   refine AAm ?_
   simp only[go_sem,h2,hw2,hn3,AA _ hn3,AA _ hi',Fe,hn2,ES,IL,e1]
   rcases h3:ND l[j] l[j+1] with _ | _
   ·rw[h3,bz AOR] at hs
    simp only[go_sem,h3,hl2,AA _ hi',Kr,wrap_i64 (n:=((j+1:Nat):Int)+1) AOQ AOQ]
    exact⟨j+1+1,ABJ [(2,false)] ⟨rfl,rfl,uw _ _,trivial⟩ (by rw[hs,fB]; rfl),hi',AOQ⟩
   ·rw[h3,bF rfl] at hs
    obtain⟨b1,b2,b3⟩:=Lc (ax hn3)
    rw[bI] at b3
    simp only[go_sem,h3,hw2,hn3,AA _ hn3,AA _ hi',Fe,Kr,hn2,wrap_i64 (n:=(runs (l.take (j+1)))[n].2+1) AOQ AOQ,wrap_i64 (n:=((j+1:Nat):Int)+1) AOQ AOQ]
    exact ANJ
 ·have hi':i=l.length:=by simp at h; omega
  subst hi'
  simp only[go_sem,bM,Kr]
  try exact AII
theorem Pz (v:DVal) (k:Int) (r:List (DVal×Int)) (n:Nat):IV ((v,k)::r) n=if k<1∨k>64-n then none else(IV r (n+k.toNat)).map fun l=>List.replicate k.toNat v++l:=rfl
theorem P5 {α:Type} {l:List α} {i:Nat} (h:i<l.length):l.drop i=l[i]::l.drop (i+1):=aG h
theorem uy (out:List DVal) (j:Nat) (v:DVal):(out++List.replicate (j+1) v).map DVal.c=(out++List.replicate j v).map DVal.c ++ [v.c]:=by
 rw[List.replicate_succ',← bT,GZ]
theorem AEA (out:List DVal) (j:Nat) (v:DVal):Gq ((out++List.replicate j v).map DVal.c ++ [v.c])=true:=by rw[← GZ]; exact Pq _
theorem oW (r:List (DVal×Int)) (hl:r.length≤1048576):Ctr prog 420 [.c (.sl (r.map Fe))] [.val (.c (.sl ((spread r).map DVal.c)))]:=by
 refine CM call420 func420 ntmps420 results420 fun hw=>?_
 simp only[go_sem]
 refine ABZ [7] (A:=Nat×List DVal) (fun x=>[(10,.c (.v (.int .i64 (x.1)))),(3,.c (.ref 0))]) (fun x=>[⟨64,3,x.2.map DVal.c,true,true⟩]) (fun x=>x.1≤r.length∧x.2.length≤64∧(IV (r.drop x.1) x.2.length).map (fun y=>x.2++y)=IV r 0) (fun x=>r.length-x.1) (0,[]) (ABJ [(0,false)] ⟨rfl,rfl,rfl,trivial⟩ rfl) ⟨aA _,aA _,AOR⟩ ?_
 rintro⟨i,out⟩ ⟨hi,hll,hp⟩
 dsimp only at hi hll hp
 refine AOJ (fun h=>?_) fun h=>?_
 ·have hi':i<r.length:=by simp at h; omega
  rw[P5 hi',show r[i]=(r[i].1,r[i].2) from rfl,Pz] at hp
  rcases h2:decide (r[i].2<1) with _ | _
  rotate_left
  ·rw[bF (.inl APG)] at hp
   simp only[WB] at hp
   have e:spread r = []:=APT
   rw[e]
   simp only[go_sem,AA _ hi',Fe,h2,di]
  have h2':1≤r[i].2:=AOh
  have hw1:IntKind.i64.wrap (64-(out.length:Int))=64-(out.length:Int):=wrap_i64 AOQ AOQ
  rcases h3:decide (r[i].2>64-(out.length:Int)) with _ | _
  rotate_left
  ·rw[bF (.inr AOm)] at hp
   simp only[WB] at hp
   have e:spread r = []:=APT
   rw[e]
   simp only[go_sem,AA _ hi',Fe,h2,hw1,h3,di]
  have h3':r[i].2≤64-(out.length:Int):=APC
  obtain⟨K,hK⟩:=aQ (show 0≤r[i].2 from AOQ)
  rw[bz AOQ,hK,bW] at hp
  rw[hK] at h2 h3 h2' h3'
  simp only[go_sem,AA _ hi',Fe,hK,h2,hw1,h3]
  refine ABZ [20] (A:=Nat) (fun x=>[(6,.c (.v (.int .i64 (x)))),(3,.c (.ref 0))]) (fun x=>[⟨64,3,(out++List.replicate x r[i].1).map DVal.c,true,true⟩,⟨312,4,[Fe (r[i].1,(K:Int))],true,true⟩]) (fun x=>x≤K) (fun x=>K-x) 0 (ABJ [(0,false),(1,false)] ⟨rfl,rfl,Pq _,rfl,trivial⟩ (by simp only[List.replicate_zero,bQ]; rfl)) (aA _) ?_
  rintro j hj
  have hl2:out.length+j+1≤2147483648:=AOQ
  simp only[go_sem,Fe]
  refine ABG (fun h=>?_) (fun h=>?_)
  ·have hj':j<K:=by simp[Fe] at h; omega
   simp only[go_sem,Fe,hl2,bU,wrap_i64 (n:=(j:Int)+1) AOQ AOQ]
   exact⟨j+1,ABJ [(3,false),(1,false)] ⟨rfl,rfl,AEA _ _ _,rfl,trivial⟩ (by rw[uy]; rfl),hj',AOQ⟩
  ·have hj':j=K:=by simp[Fe] at h; omega
   exact ALD
 ·have hi':i=r.length:=by simp at h; omega
  subst hi'
  rw[aY] at hp
  simp only[IV,bY,bQ] at hp
  have e:spread r=out:=APT
  rw[e]
  simp only[go_sem]
  try exact AII
end Go.Proofs.YtnoldekcdlaahaaGreat
