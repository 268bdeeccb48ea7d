/- A part. -/
import Derived.Test.YthmifbbmgnhddaaGreatWa
import Derived.Test.YthmifbbmgnhddaaGreatIa
import Derived.Test.YthmifbbmgnhddaaGreatDk
import Derived.Lib.SlicesCompact
import Derived.Sort.Statements
import Derived.Shelf.SlSortCmp.NoneTotal
set_option linter.unusedSimpArgs false
set_option linter.unusedVariables false
set_option maxHeartbeats 4000000
set_option maxRecDepth 100000
open Go.Proofs.Tryz
namespace Go.Proofs.YthmifbbmgnhddaaGreat
open Go.Vm
section
variable {p q r:Prop}
theorem AN_(h:p:=by
 clear hr
 go_enter func399,ntmps399
 go_wp2
 go_ret
 exact⟨rfl,0,_,by rw[alloc_eq_grow,alloc_eq_grow,grow_grow]; rfl⟩):p:=h
theorem ASi(h:p:=by kernel_rfl):p:=h
end
theorem Ug (b:List Int) {p q r:Nat} (h1:p≤q) (h2:q≤r):(b.drop p).take (r-p)=(b.drop p).take (q-p)++(b.drop q).take (r-q):=by
 have e1:r-p=(q-p)+(r-q):=AQ2
 grind [abg]
def AAG (s:ByteArray):List Int:=s.data.toList.map fun x=>(x.toNat:Int)
theorem AG6 (s:ByteArray):(AAG s).length=s.size:=by simp only[AAG,ae]; rfl
theorem uw {l:List Int} (h:Af l):AAG (strOfNums l)=l:=by
 unfold AAG
 rw[strOfNums_data,List.map_map]
 conv=>rhs; rw[← List.map_id l]
 refine aaW fun c hc=>?_
 obtain⟨h1,h2⟩:=h c hc
 simp_all<;>omega
theorem Uh {b:List Int} (h:Af b) (p n:Nat):Af ((b.drop p).take n):=fun c hc=>h c (aaM (aaz hc))
def X0 (v:DVal):List Int:=if v.ty=1 then FX v.n else(v.s.size:Int)::AAG v.s
noncomputable def GK (b:List Int) (p ty:Int):Option (DVal×Nat):=
 if ty=1 then(BU b p).map fun x=>(⟨1,x.1,ByteArray.empty⟩,x.2) else
 if ty=2∧0≤p then match b[p.toNat]? with
  | none=>none
  | some k=>if p.toNat+1+k.toNat≤b.length then(if BO ⟨2,0,strOfNums ((b.drop (p.toNat+1)).take k.toNat)⟩=true then some (⟨2,0,strOfNums ((b.drop (p.toNat+1)).take k.toNat)⟩,p.toNat+1+k.toNat) else none) else none
 else none
theorem pK (n:Int) (h : -1000000000≤n∧n≤1000000000):BO ⟨1,n,ByteArray.empty⟩=true:=by
 simp only[BO,bH,EN,Ad]
 simp_all
theorem AEw {b:List Int} (hb:Af b) {p ty:Int} {v:DVal} {q:Nat} (h:GK b p ty=some (v,q)) :
  0≤p∧p<q∧q≤b.length∧v.ty=ty∧(ty=1∨ty=2)∧BO v=true∧(b.drop p.toNat).take (q-p.toNat)=X0 v:=by
 unfold GK at h
 split at h
 ·rename_i hty
  cases hn:BU b p with
  | none=>grind
  | some x =>
   obtain⟨n,q'⟩:=x
   simp only[hn,dm,ai,bU] at h
   obtain⟨rfl,rfl⟩:=h
   obtain⟨h1,h2,h3,h4,h5,h6⟩:=Ig hb hn
   exact⟨h1,h2,h3,hty.symm,.inl hty,pK n ⟨h4,h5⟩,by simpa [X0] using h6⟩
 ·split at h
  ·rename_i hp
   cases hk:b[p.toNat]? with
   | none=>grind
   | some k =>
    simp only[hk] at h
    obtain⟨k0,k1⟩:=Vl hb hk
    split at h
    ·rename_i hlen
     split at h
     ·rename_i hv
      simp only[ai,bU] at h
      obtain⟨rfl,rfl⟩:=h
      have hl:=(aP.1 hk).1
      have e2:b[p.toNat]=k:=(aP.1 hk).2
      refine⟨hp.2,AQ2,hlen,hp.1.symm,.inr hp.1,hv, ?_⟩
      rw[aA hl,e2]
      have e1:p.toNat+1+k.toNat-p.toNat=k.toNat+1:=AQ2
      rw[e1,cu]
      simp only[X0,show ¬ (2:Int)=1 from AQ2,aY,uw (Uh hb _ _),strOfNums_size]
      grind
     ·cases h
    ·cases h
  ·cases h
noncomputable def Bq (b:List Int) (ty:Int):Nat→Nat→Option (List DVal×Nat)
 | 0,p=>some ([],p)
 | k+1,p=>match GK b p ty with
  | none=>none
  | some (v,q)=>(Bq b ty k q).map fun x=>(v::x.1,x.2)
def Ky (l:List DVal):List Int:=(l.map X0).flatten
theorem J6 {b:List Int} (hb:Af b) {ty:Int}:∀ (k p:Nat) (l:List DVal) (q:Nat),p≤b.length→Bq b ty k p=some (l,q) →
  p≤q∧q≤b.length∧l.length=k∧(∀ v∈l,BO v=true∧v.ty=ty∧(ty=1∨ty=2))∧(b.drop p).take (q-p)=Ky l
 | 0,p,l,q,hp,h=>by
  simp only[Bq,ai,bU] at h
  obtain⟨rfl,rfl⟩:=h
  exact⟨aI _,hp,rfl,AQ3,by simp[Ky]⟩
 | k+1,p,l,q,hp,h=>by
  rw[Bq] at h
  cases hv:GK b p ty with
  | none=>grind
  | some x =>
   obtain⟨v,m⟩:=x
   simp only[hv] at h
   cases hr:Bq b ty k m with
   | none=>grind
   | some y =>
    obtain⟨l',q'⟩:=y
    simp only[hr,dm,ai,bU] at h
    obtain⟨rfl,rfl⟩:=h
    obtain⟨a1,a2,a3,a4,a5,a6,a7⟩:=AEw hb hv
    obtain⟨c1,c2,c3,c4,c5⟩:=J6 hb k m l' q' a3 hr
    refine⟨AQ2,c2,by simp[c3],fun x hx=>?_, ?_⟩
    ·grind
    ·rw[Ug b (p:=p) (q:=m) (r:=q') AQ2 c1,c5]
     have:(b.drop p).take (m-p)=X0 v:=by simpa using a7
     rw[this]; rfl
noncomputable def typeOf (l:List DVal):Int:=match l with
 | []=>0
 | v::r=>if l.length≤64∧∀ x∈l,BO x=true∧x.ty=v.ty then v.ty else 0
theorem Ui {l:List DVal} {ty:Int} (h1:1≤l.length) (h2:l.length≤64) (h:∀ v∈l,BO v=true∧v.ty=ty):typeOf l=ty:=by
 cases l with
 | nil=>simp at h1
 | cons v r =>
  have hv:=(h v AQ3).2
  show (if(v::r).length≤64∧∀ x∈(v::r),BO x=true∧x.ty=v.ty then v.ty else 0)=ty
  grind
noncomputable def En (l:List DVal):List Int:=if typeOf l=0 then [] else Ky l
noncomputable def Gx (b:List Int) (ty:Int) (k:Int):Option (List DVal):=
 if 1≤k∧k≤64 then match Bq b ty k.toNat 0 with
  | none=>none
  | some (l,q)=>if q=b.length then some l else none
 else none
noncomputable def again (b:List Int) (k:Int) (l:List DVal) (e:List Int):Option (List DVal):=if 1≤k∧k≤64∧(l.length:Int)=k∧b=e then some l else none
noncomputable def QQ (b:List Int) (ty:Int) (k:Int):Option (List DVal):=
 if 1≤k∧k≤64 then again b k (((Bq b ty k.toNat 0).map Prod.fst).getD []) (En (((Bq b ty k.toNat 0).map Prod.fst).getD [])) else none
theorem Zv {b:List Int} (hb:Af b) (ty k:Int):QQ b ty k=Gx b ty k:=by
 unfold QQ Gx
 by_cases hk:1≤k∧k≤64
 ·rw[bG hk,bG hk]
  cases hv:Bq b ty k.toNat 0 with
  | none =>
   simp only[X6,aaF,again]
   grind
  | some x =>
   obtain⟨l,q⟩:=x
   obtain⟨_,c2,c3,c4,c5⟩:=J6 hb k.toNat 0 l q (au _) hv
   have h0:0<l.length:=AQ2
   obtain⟨v0,hv0⟩:∃ v,v∈l:=⟨l[0],aj h0⟩
   have hty:=(c4 v0 hv0).2.2
   have ht:typeOf l=ty:=Ui AQ2 AQ2 fun v hv=>⟨(c4 v hv).1,(c4 v hv).2.1⟩
   have he:En l=b.take q:=by
    unfold En
    rw[bu AQ2,← c5]; simp
   simp only[dm,ak,again,he]
   grind
 grind
theorem AAH {b:List Int} (hb:Af b) {ty k:Int} {l:List DVal} (h:Gx b ty k=some l):1≤k∧k≤64∧(l.length:Int)=k:=by
 unfold Gx at h
 split at h
 ·rename_i hk
  cases hv:Bq b ty k.toNat 0 with
  | none=>grind
  | some x =>
   obtain⟨l',q⟩:=x
   simp only[hv] at h
   split at h
   ·simp only[ai] at h
    subst h
    have:=(J6 hb k.toNat 0 _ q (au _) hv).2.2.1
    omega
   ·cases h
 ·cases h
theorem AEx {b:List Int} {k:Int} {l l':List DVal} {e:List Int} (h:again b k l e=some l'):l'=l∧1≤k∧k≤64∧(l.length:Int)=k∧b=e:=by
 unfold again at h
 grind
theorem kw {v:DVal} (h:BO v=true):v.ty=1∨v.ty=2:=by
 unfold BO at h
 grind
theorem AG7 (l:List DVal):typeOf l=0∨typeOf l=1∨typeOf l=2:=by
 cases l with
 | nil=>exact .inl rfl
 | cons v r =>
  show (if(v::r).length≤64∧∀ x∈(v::r),BO x=true∧x.ty=v.ty then v.ty else 0)=0∨(if(v::r).length≤64∧∀ x∈(v::r),BO x=true∧x.ty=v.ty then v.ty else 0)=1∨(if(v::r).length≤64∧∀ x∈(v::r),BO x=true∧x.ty=v.ty then v.ty else 0)=2
  grind [kw]
def runs:List DVal→List (DVal×Int)
 | []=>[]
 | v::l=>match runs l with
  | []=>[(v,1)]
  | (x,k)::r=>if LG v x=true then(x,k+1)::r else(v,1)::(x,k)::r
def Ir:List (DVal×Int)→Nat→Option (List DVal)
 | [],_=>some []
 | (v,k)::r,n=>if k<1∨k>64-n then none else(Ir r (n+k.toNat)).map fun l=>List.replicate k.toNat v++l
def spread (r:List (DVal×Int)):List DVal:=(Ir r 0).getD []
noncomputable def Fh (l:List DVal):List Int:=if typeOf l=0 then [] else FX (runs l).length++((runs l).map fun r=>FX r.2++X0 r.1).flatten
noncomputable def Jr (b:List Int) (ty:Int):Nat→Nat→Option (List (DVal×Int))
 | 0,_=>some []
 | n+1,p=>match BU b p with
  | none=>none
  | some (m,q)=>match GK b q ty with
   | none=>none
   | some (v,q')=>(Jr b ty n q').map fun r=>(v,m)::r
noncomputable def EW (b:List Int) (ty k:Int):Option (List DVal):=match BU b 0 with
 | none=>none
 | some (n,p)=>if 1≤n∧n≤64 then match Jr b ty n.toNat p with
   | none=>none
   | some r=>again b k (spread r) (Fh (spread r))
  else none
def Fb (b:List Int) (n:Int):Int:=if n<0 then 0 else match b[(n/8).toNat]? with
 | some c=>c/2 ^ (n%8).toNat%2
 | none=>0
def GL (k w:Int):Int:=if(0≤k∧k≤64)∧0≤w∧w≤31 then(k*w+7)/8 else 0
def O0 (b:List Int) (o:Int):Nat→Int
 | 0=>0
 | j+1=>O0 b o j+Fb b (o+j)*2 ^ j
noncomputable def unpack (b:List Int) (w k:Int):Option (List Int):=
 if((0≤w∧w≤31)∧(0≤k∧k≤64)∧(b.length:Int)=GL k w)∧(∀ n∈List.range (8*b.length),k*w≤(n:Int)→Fb b (n:Int)=0) then some ((List.range k.toNat).map fun(i:Nat)=>O0 b ((i:Int)*w) w.toNat) else none
theorem O1 {b:List Int} {w k:Int} {o:List Int} (h:unpack b w k=some o):(o.length:Int)=k:=by
 unfold unpack at h
 grind
def HY:Nat→Int→Int
 | 0,_=>0
 | f+1,x=>if x>0 then HY f (x/2)+1 else 0
def A8 (n:Int):Int:=if 0≤n∧n≤2147483647 then HY 32 n else 0
def DI (l:List Int):Int:=l.foldl (fun w n=>max w (A8 n)) 0
def FO (l:List Int) (w:Int) (n:Nat):Int:=match l[n/w.toNat]? with
 | some x=>x/2 ^ (n%w.toNat)%2
 | none=>0
def Gy (l:List Int) (w:Int) (m:Nat):Nat→Int
 | 0=>0
 | t+1=>Gy l w m t+FO l w (8*m+t)*2 ^ t
noncomputable def Eo (l:List Int) (w:Int):List Int:=
 if(0≤w∧w≤31)∧∀ n∈l,(0≤n∧n≤2147483647)∧A8 n≤w then(List.range ((l.length*w.toNat+7)/8)).map fun m=>Gy l w m 8 else []
def ins (v:DVal):List DVal→List DVal
 | []=>[v]
 | x::r=>if Dj x v=true then x::ins v r else if LG x v=true then x::r else v::x::r
def DJ (l:List DVal):List DVal:=l.foldl (fun d v=>ins v d) []
theorem ADN (v:DVal):∀ d:List DVal,(ins v d).length≤d.length+1
 | []=>aI _
 | x::r=>by
  simp only[ins]
  have:=ADN v r
  grind
theorem QR (l:List DVal):(DJ l).length≤l.length:=by
 have key:∀ (l d:List DVal),(l.foldl (fun d v=>ins v d) d).length≤d.length+l.length:=by
  intro l
  induction l with
  | nil=>intro d; simp
  | cons v l ih =>
   grind [ADN,bz]
 simpa [DJ] using key l []
def placeOf (v:DVal):List DVal→Nat→Option Int
 | [],_=>none
 | x::r,i=>if LG x v=true then some (i:Int) else placeOf v r (i+1)
def places (d:List DVal):List DVal→Option (List Int)
 | []=>some []
 | v::l=>match placeOf v d 0,places d l with
  | some i,some r=>some (i::r)
  | _,_=>none
def picked (d:List DVal):List Int→Option (List DVal)
 | []=>some []
 | i::l=>if 0≤i then match d[i.toNat]?,picked d l with
   | some v,some r=>some (v::r)
   | _,_=>none
  else none
theorem O3 {d:List DVal}:∀ {o:List Int} {l:List DVal},picked d o=some l→l.length=o.length
 | [],l,h=>by simp only[picked,ai] at h; subst h; rfl
 | i::o,l,h=>by
  simp only[picked] at h
  split at h
  ·split at h
   ·rename_i v r h1 h2
    simp only[ai] at h
    subst h
    simp[O3 h2]
   ·cases h
  ·cases h
noncomputable def EX (l:List DVal):List Int:=if typeOf l=0 then [] else FX (DJ l).length++(Ky (DJ l)++Eo ((places (DJ l) l).getD []) (A8 ((DJ l).length-1)))
theorem AG8:∀ (f g:Nat) (x y:Int) (r s:List Int),0≤x→x<128 ^ (f+1)→0≤y→y<128 ^ (g+1)→jX f x++r=jX g y++s→x=y:=by
 have hd:∀ (g:Nat) (y:Int),0≤y→y<128 ^ (g+1)→∃ c t,jX g y=c::t∧(y<128→c=y∧t = [])∧(y≥128→∃ g',g=g'+1∧c=y%128+128∧t=jX g' (y/128)):=by
  intro g y h0 h1
  cases g with
  | zero=>exact⟨y,[],rfl,fun _=>⟨rfl,rfl⟩,fun h=>AQ2⟩
  | succ g =>
   by_cases h:y≥128
   ·exact⟨_,_,by rw[jX,bG h],fun h2=>AQ2,fun _=>⟨g,rfl,rfl,rfl⟩⟩
   ·exact⟨y,[],by rw[jX,bu h],fun _=>⟨rfl,rfl⟩,fun h2=>AQ2⟩
 intro f
 induction f with
 | zero =>
  intro g x y r s hx hx2 hy hy2 h
  obtain⟨c,t,e1,e2,e3⟩:=hd g y hy hy2
  simp only[abp,Int.pow_zero,Int.one_mul,Ry] at hx2
  rw[e1] at h
  simp only[jX,aT,aG,List.cons.injEq] at h
  grind
 | succ f ih =>
  grind
theorem Yp {n:Int} (h : -1000000000≤n) (h2:n≤1000000000):0≤zig n∧zig n<128 ^ 5:=by
 unfold zig
 omega
theorem AIg {n m:Int} (h:zig n=zig m):n=m:=by
 unfold zig at h
 omega
theorem AEy {n m:Int} {r s:List Int} (hn : -1000000000≤n∧n≤1000000000) (hm : -1000000000≤m∧m≤1000000000) (h:FX n++r=FX m++s):n=m:=
 AIg (AG8 4 4 _ _ r s (Yp hn.1 hn.2).1 (Yp hn.1 hn.2).2 (Yp hm.1 hm.2).1 (Yp hm.1 hm.2).2 h)
noncomputable def GV (b:List Int) (ty k:Int):Option (List DVal):=match BU b 0 with
 | none=>none
 | some (n,p)=>if(1≤k∧k≤64)∧1≤n∧n≤k then match Bq b ty n.toNat p with
   | none=>none
   | some (d,q)=>match unpack (b.drop q) (A8 (n-1)) k with
    | none=>none
    | some o=>match picked d o with
     | none=>none
     | some l=>if EX l=b then some l else none
  else none
noncomputable def Kz (b:List Int) (ty k:Int):Option (List DVal):=match BU b 0 with
 | none=>none
 | some (n,p)=>if 1≤n∧n≤64 then match Bq b ty n.toNat p with
   | none=>none
   | some (d,q)=>match unpack (b.drop q) (A8 (n-1)) k with
    | none=>none
    | some o=>again b k ((picked d o).getD []) (EX ((picked d o).getD []))
  else none
theorem X3 {b:List Int} (hb:Af b) {n:Int} {p:Nat} (h:BU b 0=some (n,p)):(-1000000000≤n∧n≤1000000000)∧b=FX n++b.drop p∧b≠ []:=by
 obtain⟨_,h2,h3,h4,h5,h6⟩:=Ig hb h
 refine⟨⟨h4,h5⟩, ?_, ?_⟩
 ·have e:b.take p=FX n:=by simpa using h6
  rw[← e]; simp
 grind
theorem kz {b:List Int} (hb:Af b) (ty k:Int):Kz b ty k=GV b ty k:=by
 unfold Kz GV
 cases hn:BU b 0 with
 | none=>rfl
 | some x =>
  obtain⟨n,p⟩:=x
  obtain⟨hnr,hbn,hne⟩:=X3 hb hn
  dsimp only
  by_cases h1:1≤n∧n≤64
  ·rw[bG h1]
   cases hd:Bq b ty n.toNat p with
   | none=>simp
   | some y =>
    obtain⟨d,q⟩:=y
    dsimp only
    cases hu:unpack (b.drop q) (A8 (n-1)) k with
    | none=>simp
    | some o =>
     have hol:=O1 hu
     dsimp only
     by_cases h2:(1≤k∧k≤64)∧1≤n∧n≤k
     ·rw[bG h2]
      cases hp:picked d o with
      | none =>
       simp only[aaF,again]
       grind
      | some l =>
       have:=O3 hp
       simp only[ak,again]
       grind
     ·rw[bu h2]
      unfold again
      rw[bu]
      rintro⟨k1,k2,k3,k4⟩
      have hnk:k<n:=AQ2
      generalize hl:(picked d o).getD []=l at k3 k4
      unfold EX at k4
      split at k4
      ·exact hne k4
      ·have:=QR l
       have e:=AEy hnr ⟨AQ2,AQ2⟩ (hbn.symm.trans k4)
       omega
  grind
def Cc:List DVal→Int
 | []=>0
 | v::l=>l.foldl (fun n x=>min n x.n) v.n
noncomputable def offsets (l:List DVal):List Int:=if typeOf l≠1 then [] else l.map fun v=>v.n-Cc l
noncomputable def Di (l:List DVal):List Int:=if typeOf l≠1 then [] else FX (Cc l)++(DI (offsets l)::Eo (offsets l) (DI (offsets l)))
def raised (base:Int) (l:List Int):Option (List DVal):=
 if(-1000000000≤base∧base≤1000000000)∧∀ x∈l,(0≤x∧x≤2000000000)∧base+x≤1000000000 then some (l.map fun x=>⟨1,base+x,ByteArray.empty⟩) else none
theorem RY {base:Int} {o:List Int} {l:List DVal} (h:raised base o=some l):l.length=o.length:=by
 unfold raised at h
 grind
noncomputable def Ep (b:List Int) (k:Int):Option (List DVal):=match BU b 0 with
 | none=>none
 | some (base,p)=>match b[p]? with
  | none=>none
  | some w=>if 1≤k∧k≤64 then match unpack (b.drop (p+1)) w k with
    | none=>none
    | some o=>match raised base o with
     | none=>none
     | some l=>if Di l=b then some l else none
   else none
noncomputable def JR (b:List Int) (k:Int):Option (List DVal):=match BU b 0 with
 | none=>none
 | some (base,p)=>match b[p]? with
  | none=>none
  | some w=>match unpack (b.drop (p+1)) w k with
    | none=>none
    | some o=>again b k ((raised base o).getD []) (Di ((raised base o).getD []))
theorem Zw (b:List Int) (k:Int):JR b k=Ep b k:=by
 unfold JR Ep
 cases hn:BU b 0 with
 | none=>rfl
 | some x =>
  obtain⟨base,p⟩:=x
  dsimp only
  cases hw:b[p]? with
  | none=>rfl
  | some w =>
   dsimp only
   cases hu:unpack (b.drop (p+1)) w k with
   | none=>simp
   | some o =>
    have hol:=O1 hu
    dsimp only
    by_cases h2:1≤k∧k≤64
    ·rw[bG h2]
     cases hp:raised base o with
     | none =>
      simp only[aaF,again]
      grind
     | some l =>
      have:=RY hp
      simp only[ak,again]
      grind
    ·rw[bu h2]
     unfold again
     grind
theorem AG9:∀ l:List UInt8,Op.bytesLess l l=false
 | []=>rfl
 | x::l=>by simp[Op.bytesLess,AG9 l]
theorem AAI:∀ {a b c:List UInt8},Op.bytesLess a b=true→Op.bytesLess b c=true→Op.bytesLess a c=true
 | [],[],_,h,_=>AQ2
 | [],_::_,[],_,h=>by simp[Op.bytesLess] at h
 | [],_::_,_::_,_,_=>by simp[Op.bytesLess]
 | _::_,[],_,h,_=>by simp[Op.bytesLess] at h
 | _::_,_::_,[],_,h=>by simp[Op.bytesLess] at h
 | x::a,y::b,z::c,h1,h2=>by
  simp only[Op.bytesLess,aaY,az,bC,nz] at h1 h2 ⊢
  rcases h1 with h1 | ⟨rfl,h1⟩
  ·grind
  ·rcases h2 with h2 | ⟨rfl,h2⟩
   ·exact .inl h2
   ·exact .inr ⟨rfl,AAI h1 h2⟩
theorem AG_:∀ (a b:List UInt8),Op.bytesLess a b=true∨a=b∨Op.bytesLess b a=true
 | [],[]=>.inr (.inl rfl)
 | [],_::_=>.inl (by simp[Op.bytesLess])
 | _::_,[]=>.inr (.inr (by simp[Op.bytesLess]))
 | x::a,y::b=>by
  simp only[Op.bytesLess,aaY,az,bC,nz,List.cons.injEq]
  have ht:x<y∨x=y∨y<x:=by
   rcases Nat.lt_trichotomy x.toNat y.toNat with h | h | h
   ·grind
   ·grind
   ·grind
  rcases ht with h | rfl | h
  ·grind
  ·rcases AG_ a b with h | rfl | h
   ·grind
   ·grind
   grind
  grind
theorem uy {s t:ByteArray} (h:s.toList=t.toList):s=t:=by
 rw[ByteArray.toList_eq,ByteArray.toList_eq] at h
 obtain⟨⟨x⟩⟩:=s
 simp_all
theorem Uj (a b:DVal):Dj a b=true↔a.ty<b.ty∨(a.ty=b.ty∧(a.n<b.n∨(a.n=b.n∧Op.bytesLess a.s.toList b.s.toList=true))):=by
 unfold Dj
 grind
theorem L_ (a b:DVal):LG a b=true↔a=b:=by
 unfold LG
 simp only[az,nz]
 constructor
 ·rintro⟨h1,h2,h3⟩
  cases a; cases b
  grind [uy]
 grind
theorem Yq (a:DVal):Dj a a=false:=by
 grind [Uj,AG9]
theorem PX {a b c:DVal} (h1:Dj a b=true) (h2:Dj b c=true):Dj a c=true:=by
 grind [Uj,AAI]
theorem Uk (a b:DVal):Dj a b=true∨a=b∨Dj b a=true:=by
 rw[← L_,Uj,Uj]
 unfold LG
 grind [Int.lt_trichotomy,AG_]
def K_ (l:List DVal):Prop:=l.Pairwise fun a b=>Dj a b=true
theorem uz (v x:DVal):∀ d:List DVal,x∈ins v d↔x=v∨x∈d
 | []=>by simp[ins]
 | y::r=>by
  simp only[ins]
  split
  ·simp only[Rx,uz v x r]
   grind
  grind [L_]
theorem lC (v:DVal):∀ d:List DVal,K_ d→K_ (ins v d)
 | [],_=>by simp[ins,K_]
 | y::r,h=>by
  obtain⟨h1,h2⟩:=abq.1 h
  simp only[ins]
  split
  ·rename_i hl
   refine abq.2 ⟨fun z hz=>?_,lC v r h2⟩
   grind [uz]
  ·rename_i hl
   split
   ·exact h
   ·rename_i he
    have hv:Dj v y=true:=by
     rcases Uk v y with g | g | g
     ·exact g
     ·grind [L_]
     ·grind
    refine abq.2 ⟨fun z hz=>?_,h⟩
    grind [PX]
theorem AAJ (l:List DVal):K_ (DJ l):=by
 have key:∀ (l d:List DVal),K_ d→K_ (l.foldl (fun d v=>ins v d) d):=by
  intro l
  induction l with
  | nil=>grind
  | cons v l ih=>grind [lC]
 exact key l [] List.Pairwise.nil
theorem ND (l:List DVal) (x:DVal):x∈DJ l↔x∈l:=by
 have key:∀ (l d:List DVal),x∈l.foldl (fun d v=>ins v d) d↔x∈l∨x∈d:=by
  intro l
  induction l with
  | nil=>intro d; simp
  | cons v l ih =>
   grind [uz]
 simpa [DJ] using key l []
theorem pM:∀ {a b:List DVal},K_ a→K_ b→(∀ x,x∈a↔x∈b)→a=b
 | [],[],_,_,_=>rfl
 | [],y::b,_,_,h=>by have:=(h y).2 AQ3; simp at this
 | x::a,[],_,_,h=>by have:=(h x).1 AQ3; simp at this
 | x::a,y::b,ha,hb,h=>by
  obtain⟨a1,a2⟩:=abq.1 ha
  obtain⟨b1,b2⟩:=abq.1 hb
  have hxy:x=y:=by
   rcases Rx.1 ((h x).1 AQ3) with g | g
   ·exact g
   ·rcases Rx.1 ((h y).2 AQ3) with k | k
    ·exact k.symm
    grind [PX,Yq]
  subst hxy
  have:a=b:=pM a2 b2 fun z=>by
   grind [Yq]
  rw[this]
open Go.Lib
def EK (v:DVal):List Value:=[.int .i64 v.ty,.int .i64 v.n,.string v.s]
instance:Inhabited DVal:=⟨⟨0,0,ByteArray.empty⟩⟩
instance:DecidableEq DVal:=fun a b=>decidable_of_iff (LG a b=true) (L_ a b)
theorem ACA (d:Array DVal) (x:DVal):∀ m,x∈compactUpTo d m↔∃ j,j<m∧d[j]! = x
 | 0=>by simp[compactUpTo]
 | m+1=>by
  rw[compactUpTo_succ,lN,ACA d x m]
  constructor
  ·grind
  ·rintro⟨j,hj,h⟩
   by_cases e:j=m
   ·subst e
    rcases hk:keeps d j with _ | _
    ·left
     have h0:¬ (j=0∨d[j]!≠d[j-1]!):=by simpa [keeps] using hk
     grind
    grind
   grind
theorem pO (d:Array DVal) (hs:∀ i j,i<j→j<d.size→Dj d[j]! d[i]! = false):∀ m,m≤d.size→K_ (compactUpTo d m)
 | 0,_=>by simp[compactUpTo,K_]
 | m+1,hm=>by
  rw[compactUpTo_succ]
  have ih:=pO d hs m AQ2
  rcases hk:keeps d m with _ | _
  ·grind
  ·unfold K_
   simp only[bH]
   rw[aa9]
   refine⟨ih,AQ3,fun x hx y hy=>?_⟩
   rw[aay.1 hy]
   obtain⟨j,hj,rfl⟩:=(ACA d x m).1 hx
   have h1:=hs j m hj AQ2
   rcases Uk d[j]! d[m]! with h | h | h
   ·exact h
   ·exfalso
    have h0:m=0∨d[m]!≠d[m-1]!:=by simpa [keeps] using hk
    rcases h0 with h0 | h0
    ·omega
    ·apply h0
     rcases bZ j (m-1) with h4 | h4
     ·grind [Uk]
     grind
   grind
theorem AIh {l:List DVal} {d:Array DVal} (hp:Go.Sort.PermIn 0 l.length l.toArray d) (hs:∀ i j,i<j→j<d.size→Dj d[j]! d[i]! = false):compactUpTo d d.size=DJ l:=by
 refine pM (pO d hs _ (aI _)) (AAJ l) fun x=>?_
 rw[ND,ACA]
 obtain⟨h1,_,h3⟩:=hp
 grind [abC]
theorem AKp (op:BinOp) (a b:Operand) (x y:DVal) (w:World):Sem.run prog (eqGuard op 66 a b (.agg (EK x).toArray) (.agg (EK y).toArray)) w = .ok () w:=by
 have hg:prog.eqGuardType prog.depth 66=false:=ASi
 simp[eqGuard,run_program,hg]
theorem eqB (x y:DVal) (w:World):Sem.run prog (binOp .eql 66 (.agg (EK x).toArray) (.agg (EK y).toArray)) w = .ok (.bool (LG x y)) w∧Sem.run prog (binOp .neq 66 (.agg (EK x).toArray) (.agg (EK y).toArray)) w = .ok (.bool (!LG x y)) w:=by
 have h:=yK (P:=prog) (w:=w) (T:=66) (ks:=[.int .i64,.int .i64,.str]) (cs:=x.c) (ds:=y.c) (r:=LG x y) (us:=EK x) (vs:=EK y) ASi (by simp[DVal.c_eq,Dx,G9,LG]) (fun k c hk=>by
  match k with
  | 0 | 1 | 2=>cases hk; rfl
  | k+3=>simp[DVal.c_eq] at hk) (fun k c hk=>by
  match k with
  | 0 | 1 | 2=>cases hk; rfl
  | k+3=>simp[DVal.c_eq] at hk) (x:=.tmp 0) (y:=.tmp 0)
 grind [Sem.run_bind,AKp,Result.andThen_ok]
theorem ADO (x y:DVal):decide (x=y)=LG x y:=by
 grind [aaD,L_]
theorem ANz (x y:DVal) (w:World):Sem.run prog (binOp .eql 66 (.agg (EK x).toArray) (.agg (EK y).toArray)) w = .ok (.bool (decide (x=y))) w:=by rw[ADO]; exact(eqB x y w).1
theorem AN0 (x y:DVal) (w:World):Sem.run prog (binOp .neq 66 (.agg (EK x).toArray) (.agg (EK y).toArray)) w = .ok (.bool (!decide (x=y))) w:=by rw[ADO]; exact(eqB x y w).2
open Go.Proofs Go.Shelf Go.RowKit Go.Sort
theorem ADP (x y:DVal) (W:World):Calls prog 399 #[.agg #[.int .i64 x.ty,.int .i64 x.n,.string x.s],.agg #[.int .i64 y.ty,.int .i64 y.n,.string y.s]] W fun e w'=>e = .returned (.bool (Dj x y))∧∃ q os',w'=grow (W.drewN q) os':=by
 obtain⟨xt,xn,xs⟩:=x
 obtain⟨yt,yn,ys⟩:=y
 have hr:Dj ⟨xt,xn,xs⟩ ⟨yt,yn,ys⟩=if xt=yt then(if xn=yn then Op.bytesLess xs.toList ys.toList else decide (xn<yn)) else decide (xt<yt):=by
  simp only[Dj]
  by_cases h1:xt=yt<;>by_cases h2:xn=yn<;>simp[h1,h2]
 by_cases h1:xt=yt
 ·subst h1
  by_cases h2:xn=yn
  ·subst h2
   rw[hr,bG rfl,bG rfl]
   exact AN_
  ·rw[hr,bG rfl,bu h2]
   exact AN_
 ·rw[hr,bu h1]
  exact AN_
theorem lF (w:World) (os:Array Obj):∀ n,(grow w os).drewN n=grow (w.drewN n) os
 | 0=>rfl
 | n+1=>by
  show ((grow w os).drewN n).drew=_
  rw[lF w os n]; rfl
theorem dD (w:World) (os os':Array Obj) (n:Nat):grow ((grow w os).drewN n) os'=grow (w.drewN n) (os++os'):=by rw[lF,grow_grow]
theorem Dy {W w':World} {A B:Array Value} {T:TypeId} (hw:∃ q os',w'=grow (((W.alloc (.cells A T)).alloc (.cells B T)).drewN q) os') (j:Nat) (v:Value) :
  (A[j]?=some v→w'.cell? ⟨W.heap.size,j,none⟩=some v)∧(B[j]?=some v→w'.cell? ⟨W.heap.size+1,j,none⟩=some v):=by
 obtain⟨q,os',rfl⟩:=hw
 have s1:(W.alloc (.cells A T)).heap.size=W.heap.size+1:=by show (W.heap.push _).size=_; simp
 have s2:((W.alloc (.cells A T)).alloc (.cells B T)).heap.size=W.heap.size+2:=by show ((W.heap.push _).push _).size=_; simp
 constructor
 ·intro h
  rw[Go.Sort.cell?_grow _ _ _ (by rw[World.heap_drewN,s2]; simp),World.cell?_drewN,alloc_eq_grow (W.alloc _),Go.Sort.cell?_grow _ _ _ (by rw[s1]; simp)]
  show (match (W.heap.push (Obj.cells A T))[W.heap.size]? with | some (.cells cs _ _)=>cs[j]? | _=>none)=some v
  simp[h]
 ·intro h
  rw[Go.Sort.cell?_grow _ _ _ (by rw[World.heap_drewN,s2]; simp),World.cell?_drewN,← s1]
  generalize W.alloc (.cells A T)=W1
  show (match (W1.heap.push (Obj.cells B T))[W1.heap.size]? with | some (.cells cs _ _)=>cs[j]? | _=>none)=some v
  simp[h]
theorem NE {w0 w1 w2:World} (h1:∃ q os,w1=Go.Sort.grow (w0.drewN q) os) (h2:∃ q os,w2=Go.Sort.grow (w1.drewN q) os):∃ q os,w2=Go.Sort.grow (w0.drewN q) os:=by
 obtain⟨q1,o1,rfl⟩:=h1
 obtain⟨q2,o2,rfl⟩:=h2
 exact⟨q1+q2,o1++o2,by rw[dD,World.drewN_drewN]⟩
theorem Yr (W:World) (A B:Obj):∃ q os,(W.alloc A).alloc B=Go.Sort.grow (W.drewN q) os:=⟨0,#[A] ++ #[B],by rw[alloc_eq_grow,alloc_eq_grow,grow_grow]; rfl⟩
def ACB (x y:DVal):Int:=if Dj x y=true then -1 else if Dj y x=true then 1 else 0
theorem AKq (x y:DVal) (W:World):Calls prog 459 #[.agg #[.int .i64 x.ty,.int .i64 x.n,.string x.s],.agg #[.int .i64 y.ty,.int .i64 y.n,.string y.s]] W fun e w'=>e = .returned (.int .i64 (ACB x y))∧∃ q os',w'=grow (W.drewN q) os':=by
 have h1:=ADP x y
 have h2:=ADP y x
 unfold ACB
 generalize Dj x y=a at h1 ⊢
 generalize Dj y x=b at h2 ⊢
 obtain⟨xt,xn,xs⟩:=x
 obtain⟨yt,yn,ys⟩:=y
 cases a with
 | true =>
  simp only[bH]
  go_enter func459,ntmps459
  go_wp2_with (go_at_call 399; first | (have hm:=HW.out; clear hm; refine(h2 _).mono ?_; rintro e w' ⟨rfl,hw2⟩) | (refine(h1 _).mono ?_; rintro e w' ⟨rfl,hw⟩; have c0:=(Dy hw 0 (.int .i64 xt)).1 rfl; have c1:=(Dy hw 1 (.int .i64 xn)).1 rfl; have c2:=(Dy hw 2 (.string xs)).1 rfl; have d0:=(Dy hw 0 (.int .i64 yt)).2 rfl; have d1:=(Dy hw 1 (.int .i64 yn)).2 rfl; have d2:=(Dy hw 2 (.string ys)).2 rfl; have HW:Aside _:=hw; clear hw))
  go_ret
  exact⟨rfl,NE (Yr _ _ _) HW⟩
 | false =>
  cases b with
  | true =>
   simp only[bH,aY,ay]
   go_enter func459,ntmps459
   go_wp2_with (go_at_call 399; first | (have hm:=HW.out; clear hm; refine(h2 _).mono ?_; rintro e w' ⟨rfl,hw2⟩) | (refine(h1 _).mono ?_; rintro e w' ⟨rfl,hw⟩; have c0:=(Dy hw 0 (.int .i64 xt)).1 rfl; have c1:=(Dy hw 1 (.int .i64 xn)).1 rfl; have c2:=(Dy hw 2 (.string xs)).1 rfl; have d0:=(Dy hw 0 (.int .i64 yt)).2 rfl; have d1:=(Dy hw 1 (.int .i64 yn)).2 rfl; have d2:=(Dy hw 2 (.string ys)).2 rfl; have HW:Aside _:=hw; clear hw))
   go_ret
   exact⟨rfl,NE (NE (Yr _ _ _) HW) hw2⟩
  | false =>
   simp only[aY,ay]
   go_enter func459,ntmps459
   go_wp2_with (go_at_call 399; first | (have hm:=HW.out; clear hm; refine(h2 _).mono ?_; rintro e w' ⟨rfl,hw2⟩) | (refine(h1 _).mono ?_; rintro e w' ⟨rfl,hw⟩; have c0:=(Dy hw 0 (.int .i64 xt)).1 rfl; have c1:=(Dy hw 1 (.int .i64 xn)).1 rfl; have c2:=(Dy hw 2 (.string xs)).1 rfl; have d0:=(Dy hw 0 (.int .i64 yt)).2 rfl; have d1:=(Dy hw 1 (.int .i64 yn)).2 rfl; have d2:=(Dy hw 2 (.string ys)).2 rfl; have HW:Aside _:=hw; clear hw))
   go_ret
   exact⟨rfl,NE (NE (Yr _ _ _) HW) hw2⟩
theorem X4 (x y:DVal):ltOf ACB x y=Dj x y:=by
 unfold ltOf ACB
 by_cases h1:Dj x y=true
 ·simp[h1]
 ·by_cases h2:Dj y x=true<;>simp[h1,h2]
theorem AN1:SWO (ltOf ACB) where
 irrefl x:=by rw[X4]; exact Yq x
 trans x y z h1 h2:=by rw[X4] at *; exact PX h1 h2
 ntrans x y z h1 h2:=by
  rw[X4] at *
  rw[Bool.eq_false_iff] at *
  intro h3
  rcases Uk x y with h | h | h
  ·exact h1 h
  ·subst h; exact h2 h3
  ·exact h2 (PX h h3)
theorem AIi (blk off size:Nat) (w:World):CmpLays prog 459 #[] EK 3 ACB blk off size w:=fun _ _ _ _ x y=>AKq x y _
def AAK:Go.Shelf.Ren:=⟨fun | 6=>458 | 15=>445 | 14=>462 | 28=>456 | 29=>457 | 20=>464 | 21=>465 | 22=>466 | 23=>467 | 24=>468 | 25=>469 | 26=>470 | 27=>471 | 46=>472 | 47=>473 | 48=>474 | 49=>475 | 50=>476 | 57=>477 | n=>n,fun | 22=>50 | 24=>66 | 25=>359 | 3=>3 | 39=>322 | 0=>0 | 53=>355 | 55=>357 | 4=>4 | 46=>363 | 45=>362 | 50=>268 | 5=>5 | 9=>9 | 66=>368 | 70=>372 | 76=>374 | 77=>375 | n=>n,fun n=>n⟩
theorem ADQ:SlLaysF0.n6 prog AAK where
 mixed:=ASi
 f6:=⟨f458.name,YL ASi,func458.trans (congrArg some ASi)⟩
 f14:=⟨f462.name,YL ASi,func462.trans (congrArg some ASi)⟩
 f15:=func445.trans (congrArg some ASi)
 f20:=⟨f464.name,YL ASi,func464.trans (congrArg some ASi)⟩
 f21:=⟨f465.name,YL ASi,func465.trans (congrArg some ASi)⟩
 f22:=⟨f466.name,YL ASi,func466.trans (congrArg some ASi)⟩
 f23:=⟨f467.name,YL ASi,func467.trans (congrArg some ASi)⟩
 f24:=⟨f468.name,YL ASi,func468.trans (congrArg some ASi)⟩
 f25:=⟨f469.name,YL ASi,func469.trans (congrArg some ASi)⟩
 f26:=⟨f470.name,YL ASi,func470.trans (congrArg some ASi)⟩
 f27:=⟨f471.name,YL ASi,func471.trans (congrArg some ASi)⟩
 f28:=func456.trans (congrArg some ASi)
 f29:=func457.trans (congrArg some ASi)
 f46:=⟨f472.name,YL ASi,func472.trans (congrArg some ASi)⟩
 f47:=func473.trans (congrArg some ASi)
 f48:=func474.trans (congrArg some ASi)
 f49:=⟨f475.name,YL ASi,func475.trans (congrArg some ASi)⟩
 f50:=⟨f476.name,YL ASi,func476.trans (congrArg some ASi)⟩
 f57:=⟨f477.name,YL ASi,func477.trans (congrArg some ASi)⟩
 t0:=underlying0
 a0:=isAgg0
 z0:=sizeOf0
 v0:=zeroValue0
 t3:=underlying3
 a3:=isAgg3
 z3:=sizeOf3
 v3:=zeroValue3
 t4:=underlying4
 a4:=isAgg4
 z4:=sizeOf4
 v4:=zeroValue4
 t5:=underlying5
 a5:=isAgg5
 z5:=sizeOf5
 v5:=zeroValue5
 t9:=underlying9
 a9:=isAgg9
 z9:=sizeOf9
 v9:=zeroValue9
 t22:=underlying50
 a22:=isAgg50
 z22:=sizeOf50
 v22:=zeroValue50
 t25:=underlying359
 a25:=isAgg359
 z25:=sizeOf359
 v25:=zeroValue359
 t39:=underlying322
 a39:=isAgg322
 z39:=sizeOf322
 v39:=zeroValue322
 t45:=underlying362
 a45:=isAgg362
 z45:=sizeOf362
 v45:=zeroValue362
 t46:=underlying363
 a46:=isAgg363
 z46:=sizeOf363
 v46:=zeroValue363
 t50:=underlying268
 a50:=isAgg268
 z50:=sizeOf268
 v50:=zeroValue268
 t53:=underlying355
 a53:=isAgg355
 z53:=sizeOf355
 v53:=zeroValue355
 t55:=underlying357
 a55:=isAgg357
 z55:=sizeOf357
 v55:=zeroValue357
 t66:=underlying368
 a66:=isAgg368
 z66:=sizeOf368
 v66:=zeroValue368
 t70:=underlying372
 a70:=isAgg372
 z70:=sizeOf372
 v70:=zeroValue372
 t76:=underlying374
 a76:=isAgg374
 z76:=sizeOf374
 v76:=zeroValue374
 t77:=underlying375
 a77:=isAgg375
 z77:=sizeOf375
 v77:=zeroValue375
theorem NF {w:World} {blk off:Nat} {d:Array DVal} (h:HoldsK EK 3 w blk off d) {i:Nat} (hi:i<d.size) :
  w.cell? ⟨blk,off+i*3,none⟩=some (.int .i64 d[i]!.ty)∧w.cell? ⟨blk,off+i*3+1,none⟩=some (.int .i64 d[i]!.n)∧w.cell? ⟨blk,off+i*3+2,none⟩=some (.string d[i]!.s):=
 ⟨(HoldsK.cell h hi (show 0<3 from AQ2)).1,(HoldsK.cell h hi (show 1<3 from AQ2)).1,(HoldsK.cell h hi (show 2<3 from AQ2)).1⟩
theorem u_ {w:World} {blk off:Nat} {d:Array DVal} (h:HoldsK EK 3 w blk off d) {i:Nat} (hi:i<d.size) :
  w.frozen? ⟨blk,off+i*3,none⟩=false∧w.frozen? ⟨blk,off+i*3+1,none⟩=false∧w.frozen? ⟨blk,off+i*3+2,none⟩=false:=
 ⟨(HoldsK.cell h hi (show 0<3 from AQ2)).2,(HoldsK.cell h hi (show 1<3 from AQ2)).2,(HoldsK.cell h hi (show 2<3 from AQ2)).2⟩
theorem AAL (d:Array DVal) (i:Nat) (hi:i<d.size) (x:DVal):setMany (flatK EK 3 d) (i*3) (EK x)=flatK EK 3 (d.setIfInBounds i x):=by
 refine ext_get! AQ3 fun t ht=>?_
 have ht':t<d.size*3:=by simpa using ht
 rw[get_setMany _ _ _ t (by simpa using ht'),get_flatK _ _ d t ht',get_flatK _ _ (d.setIfInBounds i x) t (by simpa using ht')]
 show (if i*3≤t∧t<i*3+3 then _ else _)=_
 by_cases e:t/3=i
 ·rw[bG AQ2]
  subst e
  rw[getElem!_set_same _ _ _ hi,show t-t/3*3=t%3 from AQ2]
 ·rw[bu AQ2]
  congr 2
  have hlt:t/3<d.size:=AQ2
  simp[Array.getElem!_eq_getD,Array.getD,Array.getElem_setIfInBounds,Ne.symm e,hlt]
theorem AAM {w wr:World} {q blk off:Nat} {dk:Array DVal} (hwr:wr=putRowK EK 3 (Sort.ahead w q) blk off dk) {i:Nat} (hi:i<dk.size) (x:DVal) :
  (wr.setCells blk (off+i*3) (EK x)).drew=putRowK EK 3 (Sort.ahead w (q+1)) blk off (dk.setIfInBounds i x):=by
 rw[hwr]
 unfold putRowK
 rw[setCells_putRow _ _ _ _ _ _ (by simp[EK]; omega),AAL dk i hi x]
 rfl
theorem AEz {w:World} {blk off:Nat} {dk:Array DVal} (h:HoldsK EK 3 w blk off dk) {i n c:Nat} {ty:TypeId} (hi:i+n=dk.size) (hn:0<n) :
  ∃ zs:List Value,zs.length=n*3∧(Builtin.clear_ #[50] ty #[.slice (some ⟨blk,off+i*3,none⟩) n c]).run prog w = .ok (.tuple #[]) (w.setCells blk (off+i*3) zs):=by
 refine⟨(Builtin.zeroCells #[.int .i64 0,.int .i64 0,.string ⟨#[]⟩] n).toList,by simp[Builtin.zeroCells], ?_⟩
 have hst:=stores_of_holds prog h (i*3) (Builtin.zeroCells #[.int .i64 0,.int .i64 0,.string ⟨#[]⟩] n).toList (by simp[Builtin.zeroCells,size_flatK]; omega) (by
  intro v hv
  simp only[Builtin.zeroCells,Array.toList_map,UT] at hv
  obtain⟨t,_,rfl⟩:=hv
  have h3:t%3<3:=Nat.mod_lt _ AQ2
  show (#[Value.int .i64 0,Value.int .i64 0,Value.string ⟨#[]⟩][t%3]!).oneCell'=true
  rcases(show t%3=0∨t%3=1∨t%3=2 from AQ2) with e | e | e<;>rw[e]<;>rfl)
 obtain⟨m,rfl⟩:∃ m,n=m+1:=⟨n-1,AQ2⟩
 have hz:=zeroValue66
 simp[Builtin.clear_,run_underlying underlying50,hz,Value.cells,hst]
theorem vC (blk off cap:Nat) (d:Array DVal) (w:World) (hH:HoldsK EK 3 w blk off d) (hsz:d.size≤1048576) (hcap:d.size≤cap) :
  Calls prog 460 #[.slice (some ⟨blk,off,none⟩) d.size cap] w fun e w'=>e = .returned (.slice (some ⟨blk,off,none⟩) (compactUpTo d d.size).length cap)∧∃ q F,w'=putRow id (Sort.ahead w q) blk off F∧F.size=d.size*3∧∀ j,j<(compactUpTo d d.size).length→∀ c,c<3→F[j*3+c]! = (EK (compactUpTo d d.size)[j]!)[c]!:=by
 have same:∀ q,(∀ j,j<d.size→keeps d j=true)→(compactUpTo d d.size).length=d.size∧∃ F,w.drewN q=putRow id (Sort.ahead w q) blk off F∧F.size=d.size*3∧∀ j,j<(compactUpTo d d.size).length→∀ c,c<3→F[j*3+c]! = (EK (compactUpTo d d.size)[j]!)[c]!:=by
  intro q hall
  have e:compactUpTo d d.size=d.toList:=by rw[compactUpTo_all d _ hall,range_map_get]
  rw[e]
  refine⟨AQ3,flatK EK 3 d,(putRow_self id (Sort.ahead w q) blk off _ (holds_ahead id w q blk off _ hH)).symm,AQ3,fun j hj c hc=>?_⟩
  have hj':j<d.size:=ASR
  rw[get_flatK _ _ _ _ AQ2,show (j*3+c)/3=j from AQ2,show (j*3+c)%3=c from AQ2]
  congr 2
  simp[hj']
 have HS:Aside _:=same
 clear same
 have mixed:prog.follows .mixedOrders=true:=ASi
 have aE:=isAgg66
 have zE:=sizeOf66
 by_cases h2:d.size<2
 ·have HH:Aside _:=hH
  clear hH
  go_enter func460,ntmps460
  go_wp2
  go_ret
  obtain⟨e1,F,e2,e3,e4⟩:=HS.out 0 (fun j hj=>keeps_lt_one d j AQ2)
  exact⟨by rw[e1]; rfl,0,F,e2,e3,e4⟩
 ·go_enter func460,ntmps460
  go_wp2
  go_loopg [3] d.size (fun g s3 wr=>∃ k q:Nat,1≤k∧k≤d.size∧d.size-k≤g∧s3 = .int .i64 k∧wr=w.drewN q∧∀ j,j<k→keeps d j=true)
  case atStart=>exact⟨1,0,aI _,AQ2,AQ2,rfl,rfl,keeps_lt_one d⟩
  case round =>
   obtain⟨k,q,hk1,hk,hg,rfl,rfl,hall⟩:=hrel
   by_cases hlt:k<d.size
   ·obtain⟨c10,c11,c12⟩:=NF hH hlt
    obtain⟨c00,c01,c02⟩:=NF hH (show k-1<d.size from AQ2)
    have A:Aside (∀ j,j<k→keeps d j=true):=hall
    have HH:Aside _:=hH
    clear hall hH
    generalize hx:d[k]! = x at c10 c11 c12
    generalize hy:d[k-1]! = y at c00 c01 c02
    have B:Aside (d[k]! = x∧d[k-1]! = y):=⟨hx,hy⟩
    clear hx hy
    have hgd:=fun(op:BinOp) (a b:Operand) (w:World)=>AKp op a b x y w
    have heq:=fun(w:World)=>ANz x y w
    by_cases hdup:x=y
    ·subst hdup
     simp only[decide_true] at heq
     obtain⟨xt,xn,xs⟩:=x
     simp only[EK] at hgd heq
     go_wp2_with fail
     go_region_o
     go_wp2
     clear c10 c11 c12 c00 c01 c02 hgd heq
     go_loopg [3,5] d.size (fun g s3 s5 wr=>∃ (kk k2 q2:Nat) (dk:Array DVal),s3 = .int .i64 kk∧s5 = .int .i64 k2∧1≤k2∧k+k2≤d.size∧d.size-(k+k2)≤g∧wr=putRowK EK 3 (Sort.ahead w q2) blk off dk∧CompInv d (k+k2) kk dk)
     case atStart=>exact⟨k,1,q+1,d,rfl,rfl,aI _,AQ2,AQ2,(putRowK_self EK 3 (Sort.ahead w (q+1)) blk off d (holdsK_ahead EK 3 w (q+1) blk off d HH.out)).symm,CompInv.start A.out (keeps_neg AQ2 (by rw[B.out.1,B.out.2]))⟩
     case round =>
      obtain⟨kk,k2,q2,dk,rfl,rfl,h1,hle,hg2,hwr,hI⟩:=hrel
      have hkk:=hI.lt
      have hds:=hI.size
      have hHk:HoldsK EK 3 wr blk off dk:=by rw[hwr]; exact holdsK_putRowK EK 3 _ blk off d dk (holdsK_ahead EK 3 w q2 blk off d HH.out) hds
      have W2:Aside (wr=putRowK EK 3 (Sort.ahead w q2) blk off dk):=hwr
      have I2:Aside (CompInv d (k+k2) kk dk):=hI
      clear hwr
      by_cases hlt2:k+k2<d.size
      ·obtain⟨m0,m1,m2⟩:=NF hHk (show k+k2<dk.size from AQ2)
       obtain⟨p0,p1,p2⟩:=NF hHk (show k+k2-1<dk.size from AQ2)
       obtain⟨k0,k1,k3⟩:=NF hHk (show kk<dk.size from AQ2)
       obtain⟨f0,f1,f2⟩:=u_ hHk (show kk<dk.size from AQ2)
       rw[hI.high (k+k2) AQ2,show off+(k+k2)*3=off+k*3+k2*3 from AQ2] at m0 m1 m2
       rw[hI.high (k+k2-1) AQ2,show off+(k+k2-1)*3=off+k*3+(k2-1)*3 from AQ2] at p0 p1 p2
       clear hI
       have HHk:Aside _:=hHk
       clear hHk
       generalize hu:d[k+k2]! = u at m0 m1 m2
       generalize hv:d[k+k2-1]! = v at p0 p1 p2
       generalize dk[kk]! = old at k0 k1 k3
       have C:Aside (d[k+k2]! = u∧d[k+k2-1]! = v):=⟨hu,hv⟩
       clear hu hv
       have hgd:=fun(op:BinOp) (a b:Operand) (w:World)=>AKp op a b u v w
       have hne:=fun(w:World)=>AN0 u v w
       by_cases huv:u=v
       ·subst huv
        simp only[decide_true] at hne
        obtain⟨ut,un,us⟩:=u
        simp only[EK] at hgd hne
        go_wp2_with fail
        go_region_o
        go_wp2
        go_roundg (d.size-(k+(k2+1)))
        case measure=>omega
        case rel=>exact⟨kk,k2+1,q2+1,dk,rfl,by go_num,AQ2,AQ2,aI _,by rw[W2.out]; rfl,I2.out.skip (keeps_neg AQ2 (by rw[C.out.1,C.out.2]))⟩
       ·simp only[huv,abU] at hne
        have CC:Aside (u≠v):=huv
        clear huv
        have hst:=AAM W2.out (show kk<dk.size from AQ2) u
        have HST:Aside _:=hst
        clear hst
        obtain⟨ut,un,us⟩:=u
        obtain⟨vt,vn,vs⟩:=v
        simp only[EK] at hgd hne
        go_wp2_with fail
        go_region_o
        go_wp2
        go_roundg (d.size-(k+(k2+1)))
        case measure=>omega
        case rel=>exact⟨kk+1,k2+1,q2+1,dk.setIfInBounds kk ⟨ut,un,us⟩,by go_num,by go_num,AQ2,AQ2,aI _,HST.out,by have:=I2.out.keep hlt2 (keeps_pos (by rw[C.out.1,C.out.2]; exact CC.out)); rwa [C.out.1] at this⟩
      ·have hend:k+k2=d.size:=by omega
       have HHk:Aside _:=hHk
       have hcl:=fun ty=>AEz (ty:=ty) (c:=cap-kk) hHk (show kk+(d.size-kk)=dk.size from AQ2) AQ2
       clear hHk hI
       obtain⟨zs,hz1,hz2⟩:∃ zs:List Value,zs.length=(d.size-kk)*3∧∀ ty,(Builtin.clear_ #[50] ty #[.slice (some ⟨blk,off+kk*3,none⟩) (d.size-kk) (cap-kk)]).run prog wr = .ok (.tuple #[]) (wr.setCells blk (off+kk*3) zs):=by
        obtain⟨zs,q1,q2⟩:=hcl 0
        exact⟨zs,q1,fun _=>q2⟩
       clear hcl
       go_wp2
       go_ret
       have hI:=I2.out
       rw[hend] at hI
       refine⟨by rw[hI.len]; rfl,q2,setMany (flatK EK 3 dk) (kk*3) zs, ?_,by simp[hds],fun j hj c hc=>?_⟩
       ·rw[W2.out]
        unfold putRowK
        exact setCells_putRow _ _ _ _ _ _ (by simp[hz1,hds]; omega)
       ·rw[hI.len] at hj
        rw[get_setMany _ _ _ _ (by simp[hds]; omega),bu AQ2,get_flatK _ _ _ _ AQ2,show (j*3+c)/3=j from AQ2,show (j*3+c)%3=c from AQ2]
        have:=hI.low j hj
        rw[getElem!_pos (compactUpTo d d.size) j (by rw[hI.len]; exact hj)]
        rw[aC (by rw[hI.len]; exact hj)] at this
        rw[yH this]
    ·simp only[hdup,abU] at heq
     have BB:Aside (x≠y∧d[k]! = x∧d[k-1]! = y):=⟨hdup,B.out⟩
     clear hdup B
     obtain⟨xt,xn,xs⟩:=x
     obtain⟨yt,yn,ys⟩:=y
     simp only[EK] at hgd heq
     go_wp2_with fail
     go_region_o
     go_wp2
     go_roundg (d.size-(k+1))
     case measure=>omega
     case rel =>
      refine⟨k+1,q+1,AQ2,AQ2,aI _,by go_num,rfl,fun j hj=>?_⟩
      by_cases e:j=k
      ·subst e
       exact keeps_pos (by rw[BB.out.2.1,BB.out.2.2]; exact BB.out.1)
      ·exact A.out j AQ2
   ·have:k=d.size:=by omega
    subst this
    have HH:Aside _:=hH
    clear hH
    go_wp2
    go_ret
    obtain⟨e1,F,e2,e3,e4⟩:=HS.out q hall
    exact⟨by rw[e1]; rfl,q,F,e2,e3,e4⟩
end Go.Proofs.YthmifbbmgnhddaaGreat
