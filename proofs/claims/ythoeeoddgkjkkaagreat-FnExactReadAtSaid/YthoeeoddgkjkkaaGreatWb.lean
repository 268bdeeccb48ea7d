/- Plain law: numbers in bytes: what is read back is what is written. -/
import Derived.Test.YthoeeoddgkjkkaaGreatDa
import Derived.Test.YthoeeoddgkjkkaaGreatIa
namespace Go.Proofs.YthoeeoddgkjkkaaGreat
set_option linter.unusedSimpArgs false
set_option linter.unusedVariables false
open Go.Vm
set_option maxHeartbeats 2000000
def isByte (c:Int):Prop:=0≤c∧c<256
def AY (b:List Int):Prop:=∀ c∈b,isByte c
theorem OU {b:List Int} (h:AY b) {k:Nat} {c:Int} (hk:b[k]?=some c):isByte c:=h c (List.mem_of_getElem? hk)
def zig (n:Int):Int:=if n<0 then -2*n-1 else 2*n
def zag (x:Int):Int:=if x%2=1 then -((x+1)/2) else x/2
theorem pg {x:Int} (h:0≤x):zig (zag x)=x:=by
 unfold zig zag
 split
 ·rw[if_pos (by omega)]; omega
 ·rw[if_neg (by omega)]; omega
theorem pq {x:Int} (h:0≤x) (h2:x≤2000000000) : -1000000000≤zag x∧zag x≤1000000000:=by
 unfold zag
 split<;>constructor<;>omega
def UA:Nat→Int→List Int
 | 0,x=>[x]
 | f+1,x=>if x≥128 then(x%128+128)::UA f (x/128) else [x]
def Dh (n:Int):List Int:=UA 4 (zig n)
def Gv (b:List Int) (p:Nat):Nat→Int→Nat→Option (Int×Nat)
 | 0,_,_=>none
 | f+1,x,i=>match b[p+i]? with
  | none=>none
  | some c=>if c≥128 then Gv b p f (x+(c%128)*128 ^ i) (i+1) else
   if(0<i∧c=0)∨x+(c%128)*128 ^ i>2000000000 then none else some (zag (x+(c%128)*128 ^ i),p+i+1)
def A8 (b:List Int) (p:Int):Option (Int×Nat):=if 0≤p then Gv b p.toNat 5 0 0 else none
theorem jc {b:List Int} (hb:AY b) (p:Nat):∀ (f:Nat) (x:Int) (i:Nat) (n:Int) (q:Nat),0≤x→Gv b p (f+1) x i=some (n,q) →
  ∃ y:Int,0≤y∧(0<i→0<y)∧x+y*128 ^ i≤2000000000∧n=zag (x+y*128 ^ i)∧p+i<q∧q≤b.length∧(b.drop (p+i)).take (q-(p+i))=UA f y:=by
 intro f
 induction f with
 | zero =>
  intro x i n q hx h
  simp only[Gv] at h
  cases hc:b[p+i]? with
  | none=>simp[hc] at h
  | some c =>
   simp only[hc] at h
   obtain⟨c0,c1⟩:=OU hb hc
   split at h
   ·cases h
   ·rename_i hlt
    split at h
    ·cases h
    ·rename_i hno
     simp only[Option.some.injEq,Prod.mk.injEq] at h
     obtain⟨rfl,rfl⟩:=h
     have hm:c%128=c:=by omega
     rw[hm] at hno ⊢
     have hl:=(List.getElem?_eq_some_iff.1 hc).1
     refine⟨c,c0,fun hi=>?_,by omega,rfl,by omega,by omega, ?_⟩
     ·have:¬ (0<i∧c=0):=fun hh=>hno (.inl hh)
      omega
     ·rw[List.drop_eq_getElem_cons hl]
      have e1:p+i+1-(p+i)=1:=by omega
      have e2:b[p+i]=c:=(List.getElem?_eq_some_iff.1 hc).2
      rw[e1,e2]; simp[UA]
 | succ f ih =>
  intro x i n q hx h
  rw[Gv] at h
  cases hc:b[p+i]? with
  | none=>simp[hc] at h
  | some c =>
   simp only[hc] at h
   obtain⟨c0,c1⟩:=OU hb hc
   have hl:=(List.getElem?_eq_some_iff.1 hc).1
   have e2:b[p+i]=c:=(List.getElem?_eq_some_iff.1 hc).2
   have hp:(0:Int)≤128 ^ i:=Int.pow_nonneg (by omega)
   split at h
   ·rename_i hge
    have hm0:0≤c%128*128 ^ i:=Int.mul_nonneg (by omega) hp
    obtain⟨y,y0,y1,y2,y3,y4,y5,y6⟩:=ih _ (i+1) n q (by omega) h
    have y1:=y1 (by omega)
    have e3:x+c%128*128 ^ i+y*128 ^ (i+1)=x+(c%128+y*128)*128 ^ i:=by
     rw[Int.pow_succ,Int.add_mul,Int.mul_assoc y 128,Int.mul_comm 128 (128 ^ i)]; omega
    rw[e3] at y2 y3
    refine⟨c%128+y*128,by omega,fun _=>by omega,y2,y3,by omega,y5, ?_⟩
    rw[List.drop_eq_getElem_cons hl,e2]
    have e4:q-(p+i)=(q-(p+(i+1)))+1:=by omega
    rw[e4,List.take_succ_cons]
    have e5:p+i+1=p+(i+1):=by omega
    rw[e5,y6,UA,if_pos (by omega)]
    congr 1
    ·omega
    ·congr 1; omega
   ·rename_i hlt
    split at h
    ·cases h
    ·rename_i hno
     simp only[Option.some.injEq,Prod.mk.injEq] at h
     obtain⟨rfl,rfl⟩:=h
     have hm:c%128=c:=by omega
     rw[hm] at hno ⊢
     refine⟨c,c0,fun hi=>?_,by omega,rfl,by omega,by omega, ?_⟩
     ·have:¬ (0<i∧c=0):=fun hh=>hno (.inl hh)
      omega
     ·rw[List.drop_eq_getElem_cons hl,e2]
      have e1:p+i+1-(p+i)=1:=by omega
      rw[e1]
      simp[UA,show ¬ c≥128 by omega]
theorem FH {b:List Int} (hb:AY b) {p n:Int} {q:Nat} (h:A8 b p=some (n,q)) :
  0≤p∧p<q∧q≤b.length∧ -1000000000≤n∧n≤1000000000∧(b.drop p.toNat).take (q-p.toNat)=Dh n:=by
 unfold A8 at h
 split at h
 ·rename_i hp
  obtain⟨y,y0,_,y2,y3,y4,y5,y6⟩:=jc hb p.toNat 4 0 0 n q (Int.le_refl _) h
  simp only[Int.pow_zero,Int.mul_one,Int.zero_add] at y2 y3
  have:=pq y0 y2
  refine⟨hp,by omega,y5,by omega,by omega, ?_⟩
  rw[Dh,y3,pg y0]
  simpa using y6
 ·cases h
end Go.Proofs.YthoeeoddgkjkkaaGreat
/- Plain law: values in bytes,and plain columns. -/
namespace Go.Proofs.YthoeeoddgkjkkaaGreat
set_option linter.unusedSimpArgs false
set_option linter.unusedVariables false
open Go.Vm
set_option maxHeartbeats 2000000
theorem Mc (b:List Int) {p q r:Nat} (h1:p≤q) (h2:q≤r):(b.drop p).take (r-p)=(b.drop p).take (q-p)++(b.drop q).take (r-q):=by
 have e1:r-p=(q-p)+(r-q):=by omega
 have e2:p+(q-p)=q:=by omega
 rw[e1,List.take_add,List.drop_drop,e2]
def Zc (s:ByteArray):List Int:=s.data.toList.map fun x=>(x.toNat:Int)
theorem mX (s:ByteArray):(Zc s).length=s.size:=by simp only[Zc,List.length_map]; rfl
theorem Xb {l:List Int} (h:AY l):Zc (strOfNums l)=l:=by
 unfold Zc
 rw[strOfNums_data,List.map_map]
 conv=>rhs; rw[← List.map_id l]
 refine List.map_congr_left fun c hc=>?_
 obtain⟨h1,h2⟩:=h c hc
 simp only[Function.comp,id_eq,UInt8.toNat_ofNat']
 omega
theorem Md {b:List Int} (h:AY b) (p n:Nat):AY ((b.drop p).take n):=fun c hc=>h c (List.mem_of_mem_drop (List.mem_of_mem_take hc))
def PU (v:DVal):List Int:=if v.ty=1 then Dh v.n else(v.s.size:Int)::Zc v.s
noncomputable def D6 (b:List Int) (p ty:Int):Option (DVal×Nat):=
 if ty=1 then(A8 b p).map fun x=>(⟨1,x.1,ByteArray.empty⟩,x.2) else
 if ty=2∧0≤p then match b[p.toNat]? with
  | none=>none
  | some k=>if p.toNat+1+k.toNat≤b.length then(if BD ⟨2,0,strOfNums ((b.drop (p.toNat+1)).take k.toNat)⟩=true then some (⟨2,0,strOfNums ((b.drop (p.toNat+1)).take k.toNat)⟩,p.toNat+1+k.toNat) else none) else none
 else none
theorem Vp (n:Int) (h : -1000000000≤n∧n≤1000000000):BD ⟨1,n,ByteArray.empty⟩=true:=by
 simp only[BD,if_true,C9,BQ]
 simp[h.1,h.2]
theorem jd {b:List Int} (hb:AY b) {p ty:Int} {v:DVal} {q:Nat} (h:D6 b p ty=some (v,q)) :
  0≤p∧p<q∧q≤b.length∧v.ty=ty∧(ty=1∨ty=2)∧BD v=true∧(b.drop p.toNat).take (q-p.toNat)=PU v:=by
 unfold D6 at h
 split at h
 ·rename_i hty
  cases hn:A8 b p with
  | none=>simp[hn] at h
  | some x =>
   obtain⟨n,q'⟩:=x
   simp only[hn,Option.map_some,Option.some.injEq,Prod.mk.injEq] at h
   obtain⟨rfl,rfl⟩:=h
   obtain⟨h1,h2,h3,h4,h5,h6⟩:=FH hb hn
   exact⟨h1,h2,h3,hty.symm,.inl hty,Vp n ⟨h4,h5⟩,by simpa [PU] using h6⟩
 ·split at h
  ·rename_i hp
   cases hk:b[p.toNat]? with
   | none=>simp[hk] at h
   | some k =>
    simp only[hk] at h
    obtain⟨k0,k1⟩:=OU hb hk
    split at h
    ·rename_i hlen
     split at h
     ·rename_i hv
      simp only[Option.some.injEq,Prod.mk.injEq] at h
      obtain⟨rfl,rfl⟩:=h
      have hl:=(List.getElem?_eq_some_iff.1 hk).1
      have e2:b[p.toNat]=k:=(List.getElem?_eq_some_iff.1 hk).2
      refine⟨hp.2,by omega,hlen,hp.1.symm,.inr hp.1,hv, ?_⟩
      rw[List.drop_eq_getElem_cons hl,e2]
      have e1:p.toNat+1+k.toNat-p.toNat=k.toNat+1:=by omega
      rw[e1,List.take_succ_cons]
      simp only[PU,show ¬ (2:Int)=1 by omega,if_false,Xb (Md hb _ _),strOfNums_size]
      congr 1
      simp only[List.length_take,List.length_drop]
      omega
     ·cases h
    ·cases h
  ·cases h
noncomputable def BJ (b:List Int) (ty:Int):Nat→Nat→Option (List DVal×Nat)
 | 0,p=>some ([],p)
 | k+1,p=>match D6 b p ty with
  | none=>none
  | some (v,q)=>(BJ b ty k q).map fun x=>(v::x.1,x.2)
def Gw (l:List DVal):List Int:=(l.map PU).flatten
theorem GZ {b:List Int} (hb:AY b) {ty:Int}:∀ (k p:Nat) (l:List DVal) (q:Nat),p≤b.length→BJ b ty k p=some (l,q) →
  p≤q∧q≤b.length∧l.length=k∧(∀ v∈l,BD v=true∧v.ty=ty∧(ty=1∨ty=2))∧(b.drop p).take (q-p)=Gw l
 | 0,p,l,q,hp,h=>by
  simp only[BJ,Option.some.injEq,Prod.mk.injEq] at h
  obtain⟨rfl,rfl⟩:=h
  exact⟨Nat.le_refl _,hp,rfl,by simp,by simp[Gw]⟩
 | k+1,p,l,q,hp,h=>by
  rw[BJ] at h
  cases hv:D6 b p ty with
  | none=>simp[hv] at h
  | some x =>
   obtain⟨v,m⟩:=x
   simp only[hv] at h
   cases hr:BJ b ty k m with
   | none=>simp[hr] at h
   | some y =>
    obtain⟨l',q'⟩:=y
    simp only[hr,Option.map_some,Option.some.injEq,Prod.mk.injEq] at h
    obtain⟨rfl,rfl⟩:=h
    obtain⟨a1,a2,a3,a4,a5,a6,a7⟩:=jd hb hv
    obtain⟨c1,c2,c3,c4,c5⟩:=GZ hb k m l' q' a3 hr
    refine⟨by omega,c2,by simp[c3],fun x hx=>?_, ?_⟩
    ·rcases List.mem_cons.1 hx with rfl | hx
     ·exact⟨a6,a4,a5⟩
     ·exact c4 x hx
    ·rw[Mc b (p:=p) (q:=m) (r:=q') (by omega) c1,c5]
     have:(b.drop p).take (m-p)=PU v:=by simpa using a7
     rw[this]; rfl
noncomputable def typeOf (l:List DVal):Int:=match l with
 | []=>0
 | v::r=>if l.length≤64∧∀ x∈l,BD x=true∧x.ty=v.ty then v.ty else 0
theorem Me {l:List DVal} {ty:Int} (h1:1≤l.length) (h2:l.length≤64) (h:∀ v∈l,BD v=true∧v.ty=ty):typeOf l=ty:=by
 cases l with
 | nil=>simp at h1
 | cons v r =>
  have hv:=(h v (by simp)).2
  show (if(v::r).length≤64∧∀ x∈(v::r),BD x=true∧x.ty=v.ty then v.ty else 0)=ty
  rw[if_pos ⟨h2,fun x hx=>⟨(h x hx).1,by rw[(h x hx).2,hv]⟩⟩,hv]
noncomputable def DK (l:List DVal):List Int:=if typeOf l=0 then [] else Gw l
noncomputable def EK (b:List Int) (ty:Int) (k:Int):Option (List DVal):=
 if 1≤k∧k≤64 then match BJ b ty k.toNat 0 with
  | none=>none
  | some (l,q)=>if q=b.length then some l else none
 else none
noncomputable def again (b:List Int) (k:Int) (l:List DVal) (e:List Int):Option (List DVal):=if 1≤k∧k≤64∧(l.length:Int)=k∧b=e then some l else none
noncomputable def Ju (b:List Int) (ty:Int) (k:Int):Option (List DVal):=
 if 1≤k∧k≤64 then again b k (((BJ b ty k.toNat 0).map Prod.fst).getD []) (DK (((BJ b ty k.toNat 0).map Prod.fst).getD [])) else none
theorem RS {b:List Int} (hb:AY b) (ty k:Int):Ju b ty k=EK b ty k:=by
 unfold Ju EK
 by_cases hk:1≤k∧k≤64
 ·rw[if_pos hk,if_pos hk]
  cases hv:BJ b ty k.toNat 0 with
  | none =>
   simp only[Option.map_none,Option.getD_none,again]
   rw[if_neg]
   simp only[List.length_nil]
   omega
  | some x =>
   obtain⟨l,q⟩:=x
   obtain⟨_,c2,c3,c4,c5⟩:=GZ hb k.toNat 0 l q (Nat.zero_le _) hv
   have h0:0<l.length:=by omega
   obtain⟨v0,hv0⟩:∃ v,v∈l:=⟨l[0],List.getElem_mem h0⟩
   have hty:=(c4 v0 hv0).2.2
   have ht:typeOf l=ty:=Me (by omega) (by omega) fun v hv=>⟨(c4 v hv).1,(c4 v hv).2.1⟩
   have he:DK l=b.take q:=by
    unfold DK
    rw[if_neg (by rw[ht]; omega),← c5]; simp
   simp only[Option.map_some,Option.getD_some,again,he]
   by_cases hq:q=b.length
   ·rw[if_pos hq,if_pos ⟨hk.1,hk.2,by omega,by rw[hq,List.take_length]⟩]
   ·rw[if_neg hq,if_neg]
    rintro⟨_,_,_,h4⟩
    have:=congrArg List.length h4
    simp only[List.length_take] at this
    omega
 ·rw[if_neg hk,if_neg hk]
theorem Zd {b:List Int} (hb:AY b) {ty k:Int} {l:List DVal} (h:EK b ty k=some l):1≤k∧k≤64∧(l.length:Int)=k:=by
 unfold EK at h
 split at h
 ·rename_i hk
  cases hv:BJ b ty k.toNat 0 with
  | none=>simp[hv] at h
  | some x =>
   obtain⟨l',q⟩:=x
   simp only[hv] at h
   split at h
   ·simp only[Option.some.injEq] at h
    subst h
    have:=(GZ hb k.toNat 0 _ q (Nat.zero_le _) hv).2.2.1
    omega
   ·cases h
 ·cases h
end Go.Proofs.YthoeeoddgkjkkaaGreat
