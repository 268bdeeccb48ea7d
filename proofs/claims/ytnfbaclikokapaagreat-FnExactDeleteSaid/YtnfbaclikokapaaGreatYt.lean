/- A part. -/
import Derived.Test.YtnfbaclikokapaaGreatWb
import Derived.Test.YtnfbaclikokapaaGreatDk
import Derived.Lib.SlicesCompact
import Derived.Sort.Statements
import Derived.Shelf.SlSortCmp.NoneTotal
set_option linter.unusedSimpArgs false
set_option linter.unusedVariables false
set_option maxHeartbeats 2000000
set_option maxRecDepth 100000
open Go.Proofs.Tryz
namespace Go.Proofs.YtnfbaclikokapaaGreat
open Go.Vm
theorem zV {b:List Int} {k:Int} {l l':List DVal} {e:List Int} (h:again b k l e=some l'):l'=l∧1≤k∧k≤64∧(l.length:Int)=k∧b=e:=by
 unfold again at h
 split at h
 ·rename_i h1
  simp only[ah] at h
  exact⟨h.symm,h1⟩
 ·cases h
theorem Y0 {v:DVal} (h:BD v=true):v.ty=1∨v.ty=2:=by
 unfold BD at h
 split at h
 ·left; assumption
 ·simp only[ak,ZZ] at h
  exact .inr h.1.1.1
theorem ABs (l:List DVal):typeOf l=0∨typeOf l=1∨typeOf l=2:=by
 cases l with
 | nil=>exact .inl rfl
 | cons v r =>
  show (if(v::r).length≤64∧∀ x∈(v::r),BD x=true∧x.ty=v.ty then v.ty else 0)=0∨(if(v::r).length≤64∧∀ x∈(v::r),BD x=true∧x.ty=v.ty then v.ty else 0)=1∨(if(v::r).length≤64∧∀ x∈(v::r),BD x=true∧x.ty=v.ty then v.ty else 0)=2
  split
  ·rename_i h
   exact .inr (Y0 (h.2 v (by simp)).1)
  ·exact .inl rfl
def runs:List DVal→List (DVal×Int)
 | []=>[]
 | v::l=>match runs l with
  | []=>[(v,1)]
  | (x,k)::r=>if LC v x=true then(x,k+1)::r else(v,1)::(x,k)::r
def Gz:List (DVal×Int)→Nat→Option (List DVal)
 | [],_=>some []
 | (v,k)::r,n=>if k<1∨k>64-n then none else(Gz r (n+k.toNat)).map fun l=>List.replicate k.toNat v++l
def spread (r:List (DVal×Int)):List DVal:=(Gz r 0).getD []
noncomputable def ET (l:List DVal):List Int:=if typeOf l=0 then [] else EM (runs l).length++((runs l).map fun r=>EM r.2++UB r.1).flatten
noncomputable def IP (b:List Int) (ty:Int):Nat→Nat→Option (List (DVal×Int))
 | 0,_=>some []
 | n+1,p=>match BN b p with
  | none=>none
  | some (m,q)=>match Ec b q ty with
   | none=>none
   | some (v,q')=>(IP b ty n q').map fun r=>(v,m)::r
noncomputable def Dn (b:List Int) (ty k:Int):Option (List DVal):=match BN b 0 with
 | none=>none
 | some (n,p)=>if 1≤n∧n≤64 then match IP b ty n.toNat p with
   | none=>none
   | some r=>again b k (spread r) (ET (spread r))
  else none
def EP (b:List Int) (n:Int):Int:=if n<0 then 0 else match b[(n/8).toNat]? with
 | some c=>c/2 ^ (n%8).toNat%2
 | none=>0
def Ed (k w:Int):Int:=if(0≤k∧k≤64)∧0≤w∧w≤31 then(k*w+7)/8 else 0
def Lp (b:List Int) (o:Int):Nat→Int
 | 0=>0
 | j+1=>Lp b o j+EP b (o+j)*2 ^ j
noncomputable def unpack (b:List Int) (w k:Int):Option (List Int):=
 if((0≤w∧w≤31)∧(0≤k∧k≤64)∧(b.length:Int)=Ed k w)∧(∀ n∈List.range (8*b.length),k*w≤(n:Int)→EP b (n:Int)=0) then some ((List.range k.toNat).map fun(i:Nat)=>Lp b ((i:Int)*w) w.toNat) else none
theorem Lr {b:List Int} {w k:Int} {o:List Int} (h:unpack b w k=some o):(o.length:Int)=k:=by
 unfold unpack at h
 split at h
 ·rename_i h1
  simp only[ah] at h
  subst h
  simp only[ae,List.length_range]
  omega
 ·cases h
def FW:Nat→Int→Int
 | 0,_=>0
 | f+1,x=>if x>0 then FW f (x/2)+1 else 0
def Aj (n:Int):Int:=if 0≤n∧n≤2147483647 then FW 32 n else 0
def CE (l:List Int):Int:=l.foldl (fun w n=>max w (Aj n)) 0
def EH (l:List Int) (w:Int) (n:Nat):Int:=match l[n/w.toNat]? with
 | some x=>x/2 ^ (n%w.toNat)%2
 | none=>0
def FN (l:List Int) (w:Int) (m:Nat):Nat→Int
 | 0=>0
 | t+1=>FN l w m t+EH l w (8*m+t)*2 ^ t
noncomputable def Dx (l:List Int) (w:Int):List Int:=
 if(0≤w∧w≤31)∧∀ n∈l,(0≤n∧n≤2147483647)∧Aj n≤w then(List.range ((l.length*w.toNat+7)/8)).map fun m=>FN l w m 8 else []
def ins (v:DVal):List DVal→List DVal
 | []=>[v]
 | x::r=>if EN x v=true then x::ins v r else if LC x v=true then x::r else v::x::r
def CG (l:List DVal):List DVal:=l.foldl (fun d v=>ins v d) []
theorem xO (v:DVal):∀ d:List DVal,(ins v d).length≤d.length+1
 | []=>aN _
 | x::r=>by
  simp only[ins]
  have:=xO v r
  repeat' split
  all_goals simp only[bU]; omega
theorem Nr (l:List DVal):(CG l).length≤l.length:=by
 have key:∀ (l d:List DVal),(l.foldl (fun d v=>ins v d) d).length≤d.length+l.length:=by
  intro l
  induction l with
  | nil=>intro d; simp
  | cons v l ih =>
   intro d
   have:=xO v d
   have:=ih (ins v d)
   simp only[abn,bU]; omega
 simpa [CG] using key l []
def placeOf (v:DVal):List DVal→Nat→Option Int
 | [],_=>none
 | x::r,i=>if LC x v=true then some (i:Int) else placeOf v r (i+1)
def places (d:List DVal):List DVal→Option (List Int)
 | []=>some []
 | v::l=>match placeOf v d 0,places d l with
  | some i,some r=>some (i::r)
  | _,_=>none
def picked (d:List DVal):List Int→Option (List DVal)
 | []=>some []
 | i::l=>if 0≤i then match d[i.toNat]?,picked d l with
   | some v,some r=>some (v::r)
   | _,_=>none
  else none
theorem Ls {d:List DVal}:∀ {o:List Int} {l:List DVal},picked d o=some l→l.length=o.length
 | [],l,h=>by simp only[picked,ah] at h; subst h; rfl
 | i::o,l,h=>by
  simp only[picked] at h
  split at h
  ·split at h
   ·rename_i v r h1 h2
    simp only[ah] at h
    subst h
    simp[Ls h2]
   ·cases h
  ·cases h
noncomputable def DV (l:List DVal):List Int:=if typeOf l=0 then [] else EM (CG l).length++(I_ (CG l)++Dx ((places (CG l) l).getD []) (Aj ((CG l).length-1)))
theorem ABt:∀ (f g:Nat) (x y:Int) (r s:List Int),0≤x→x<128 ^ (f+1)→0≤y→y<128 ^ (g+1)→YR f x++r=YR g y++s→x=y:=by
 have hd:∀ (g:Nat) (y:Int),0≤y→y<128 ^ (g+1)→∃ c t,YR g y=c::t∧(y<128→c=y∧t = [])∧(y≥128→∃ g',g=g'+1∧c=y%128+128∧t=YR g' (y/128)):=by
  intro g y h0 h1
  cases g with
  | zero=>exact⟨y,[],rfl,fun _=>⟨rfl,rfl⟩,fun h=>by simp at h1; omega⟩
  | succ g =>
   by_cases h:y≥128
   ·exact⟨_,_,by rw[YR,bz h],fun h2=>by omega,fun _=>⟨g,rfl,rfl,rfl⟩⟩
   ·exact⟨y,[],by rw[YR,aV h],fun _=>⟨rfl,rfl⟩,fun h2=>by omega⟩
 intro f
 induction f with
 | zero =>
  intro g x y r s hx hx2 hy hy2 h
  obtain⟨c,t,e1,e2,e3⟩:=hd g y hy hy2
  simp only[wB,Int.pow_zero,Int.one_mul,Zj] at hx2
  rw[e1] at h
  simp only[YR,aK,aI,List.cons.injEq] at h
  by_cases h2:y<128
  ·have:=(e2 h2).1; omega
  ·obtain⟨g',_,e4,_⟩:=e3 (by omega)
   omega
 | succ f ih =>
  intro g x y r s hx hx2 hy hy2 h
  obtain⟨c,t,e1,e2,e3⟩:=hd (f+1) x hx hx2
  obtain⟨c',t',d1,d2,d3⟩:=hd g y hy hy2
  rw[e1,d1] at h
  simp only[aK,List.cons.injEq] at h
  obtain⟨hc,ht⟩:=h
  by_cases h1:x<128
  ·by_cases h2:y<128
   ·have:=(e2 h1).1; have:=(d2 h2).1; omega
   ·obtain⟨g',_,e4,_⟩:=d3 (by omega)
    have:=(e2 h1).1; omega
  ·obtain⟨f',e5,e6,e7⟩:=e3 (by omega)
   by_cases h2:y<128
   ·have:=(d2 h2).1; omega
   ·obtain⟨g',d5,d6,d7⟩:=d3 (by omega)
    have hf:f'=f:=by omega
    subst hf
    subst d5
    rw[e7,d7] at ht
    have e8:x/128<128 ^ (f'+1):=by
     rw[wB] at hx2
     exact Int.ediv_lt_of_lt_mul (by omega) hx2
    have e9:y/128<128 ^ (g'+1):=by
     rw[wB] at hy2
     exact Int.ediv_lt_of_lt_mul (by omega) hy2
    have:=ih g' (x/128) (y/128) r s (by omega) e8 (by omega) e9 ht
    omega
theorem VO {n:Int} (h : -1000000000≤n) (h2:n≤1000000000):0≤zig n∧zig n<128 ^ 5:=by
 unfold zig
 have:(128:Int) ^ 5=34359738368:=by decide
 split<;>constructor<;>omega
theorem ADF {n m:Int} (h:zig n=zig m):n=m:=by
 unfold zig at h
 split at h<;>split at h<;>omega
theorem zW {n m:Int} {r s:List Int} (hn : -1000000000≤n∧n≤1000000000) (hm : -1000000000≤m∧m≤1000000000) (h:EM n++r=EM m++s):n=m:=
 ADF (ABt 4 4 _ _ r s (VO hn.1 hn.2).1 (VO hn.1 hn.2).2 (VO hm.1 hm.2).1 (VO hm.1 hm.2).2 h)
noncomputable def Eg (b:List Int) (ty k:Int):Option (List DVal):=match BN b 0 with
 | none=>none
 | some (n,p)=>if(1≤k∧k≤64)∧1≤n∧n≤k then match Ba b ty n.toNat p with
   | none=>none
   | some (d,q)=>match unpack (b.drop q) (Aj (n-1)) k with
    | none=>none
    | some o=>match picked d o with
     | none=>none
     | some l=>if DV l=b then some l else none
  else none
noncomputable def JC (b:List Int) (ty k:Int):Option (List DVal):=match BN b 0 with
 | none=>none
 | some (n,p)=>if 1≤n∧n≤64 then match Ba b ty n.toNat p with
   | none=>none
   | some (d,q)=>match unpack (b.drop q) (Aj (n-1)) k with
    | none=>none
    | some o=>again b k ((picked d o).getD []) (DV ((picked d o).getD []))
  else none
theorem UQ {b:List Int} (hb:AY b) {n:Int} {p:Nat} (h:BN b 0=some (n,p)):(-1000000000≤n∧n≤1000000000)∧b=EM n++b.drop p∧b≠ []:=by
 obtain⟨_,h2,h3,h4,h5,h6⟩:=Gm hb h
 refine⟨⟨h4,h5⟩, ?_, ?_⟩
 ·have e:b.take p=EM n:=by simpa using h6
  rw[← e]; simp
 ·intro e; rw[e] at h3; simp at h3; omega
theorem Y1 {b:List Int} (hb:AY b) (ty k:Int):JC b ty k=Eg b ty k:=by
 unfold JC Eg
 cases hn:BN b 0 with
 | none=>rfl
 | some x =>
  obtain⟨n,p⟩:=x
  obtain⟨hnr,hbn,hne⟩:=UQ hb hn
  dsimp only
  by_cases h1:1≤n∧n≤64
  ·rw[bz h1]
   cases hd:Ba b ty n.toNat p with
   | none=>simp
   | some y =>
    obtain⟨d,q⟩:=y
    dsimp only
    cases hu:unpack (b.drop q) (Aj (n-1)) k with
    | none=>simp
    | some o =>
     have hol:=Lr hu
     dsimp only
     by_cases h2:(1≤k∧k≤64)∧1≤n∧n≤k
     ·rw[bz h2]
      cases hp:picked d o with
      | none =>
       simp only[qy,again]
       rw[aV]
       simp only[X5]; omega
      | some l =>
       have:=Ls hp
       simp only[aJ,again]
       by_cases h3:DV l=b
       ·rw[bz h3,bz ⟨h2.1.1,h2.1.2,by omega,h3.symm⟩]
       ·rw[aV h3,aV fun h4=>h3 h4.2.2.2.symm]
     ·rw[aV h2]
      unfold again
      rw[aV]
      rintro⟨k1,k2,k3,k4⟩
      have hnk:k<n:=by omega
      generalize hl:(picked d o).getD []=l at k3 k4
      unfold DV at k4
      split at k4
      ·exact hne k4
      ·have:=Nr l
       have e:=zW hnr ⟨by omega,by omega⟩ (hbn.symm.trans k4)
       omega
  ·rw[aV h1,aV (by omega)]
def Bq:List DVal→Int
 | []=>0
 | v::l=>l.foldl (fun n x=>min n x.n) v.n
noncomputable def offsets (l:List DVal):List Int:=if typeOf l≠1 then [] else l.map fun v=>v.n-Bq l
noncomputable def CU (l:List DVal):List Int:=if typeOf l≠1 then [] else EM (Bq l)++(CE (offsets l)::Dx (offsets l) (CE (offsets l)))
def raised (base:Int) (l:List Int):Option (List DVal):=
 if(-1000000000≤base∧base≤1000000000)∧∀ x∈l,(0≤x∧x≤2000000000)∧base+x≤1000000000 then some (l.map fun x=>⟨1,base+x,ByteArray.empty⟩) else none
theorem Oh {base:Int} {o:List Int} {l:List DVal} (h:raised base o=some l):l.length=o.length:=by
 unfold raised at h
 split at h
 ·simp only[ah] at h
  subst h; simp
 ·cases h
noncomputable def Dy (b:List Int) (k:Int):Option (List DVal):=match BN b 0 with
 | none=>none
 | some (base,p)=>match b[p]? with
  | none=>none
  | some w=>if 1≤k∧k≤64 then match unpack (b.drop (p+1)) w k with
    | none=>none
    | some o=>match raised base o with
     | none=>none
     | some l=>if CU l=b then some l else none
   else none
noncomputable def H5 (b:List Int) (k:Int):Option (List DVal):=match BN b 0 with
 | none=>none
 | some (base,p)=>match b[p]? with
  | none=>none
  | some w=>match unpack (b.drop (p+1)) w k with
    | none=>none
    | some o=>again b k ((raised base o).getD []) (CU ((raised base o).getD []))
theorem WF (b:List Int) (k:Int):H5 b k=Dy b k:=by
 unfold H5 Dy
 cases hn:BN b 0 with
 | none=>rfl
 | some x =>
  obtain⟨base,p⟩:=x
  dsimp only
  cases hw:b[p]? with
  | none=>rfl
  | some w =>
   dsimp only
   cases hu:unpack (b.drop (p+1)) w k with
   | none=>simp
   | some o =>
    have hol:=Lr hu
    dsimp only
    by_cases h2:1≤k∧k≤64
    ·rw[bz h2]
     cases hp:raised base o with
     | none =>
      simp only[qy,again]
      rw[aV]
      simp only[X5]; omega
     | some l =>
      have:=Oh hp
      simp only[aJ,again]
      by_cases h3:CU l=b
      ·rw[bz h3,bz ⟨h2.1,h2.2,by omega,h3.symm⟩]
      ·rw[aV h3,aV fun h4=>h3 h4.2.2.2.symm]
    ·rw[aV h2]
     unfold again
     rw[aV fun h3=>h2 ⟨h3.1,h3.2.1⟩]
theorem ABu:∀ l:List UInt8,Op.bytesLess l l=false
 | []=>rfl
 | x::l=>by simp[Op.bytesLess,ABu l]
theorem qM:∀ {a b c:List UInt8},Op.bytesLess a b=true→Op.bytesLess b c=true→Op.bytesLess a c=true
 | [],[],_,h,_=>by simp[Op.bytesLess] at h
 | [],_::_,[],_,h=>by simp[Op.bytesLess] at h
 | [],_::_,_::_,_,_=>by simp[Op.bytesLess]
 | _::_,[],_,h,_=>by simp[Op.bytesLess] at h
 | _::_,_::_,[],_,h=>by simp[Op.bytesLess] at h
 | x::a,y::b,z::c,h1,h2=>by
  simp only[Op.bytesLess,sV,ak,bf,ZZ] at h1 h2 ⊢
  rcases h1 with h1 | ⟨rfl,h1⟩
  ·rcases h2 with h2 | ⟨rfl,h2⟩
   ·exact .inl (UInt8.lt_trans h1 h2)
   ·exact .inl h1
  ·rcases h2 with h2 | ⟨rfl,h2⟩
   ·exact .inl h2
   ·exact .inr ⟨rfl,qM h1 h2⟩
theorem ABv:∀ (a b:List UInt8),Op.bytesLess a b=true∨a=b∨Op.bytesLess b a=true
 | [],[]=>.inr (.inl rfl)
 | [],_::_=>.inl (by simp[Op.bytesLess])
 | _::_,[]=>.inr (.inr (by simp[Op.bytesLess]))
 | x::a,y::b=>by
  simp only[Op.bytesLess,sV,ak,bf,ZZ,List.cons.injEq]
  have ht:x<y∨x=y∨y<x:=by
   rcases Nat.lt_trichotomy x.toNat y.toNat with h | h | h
   ·exact .inl (UInt8.lt_iff_toNat_lt.2 h)
   ·exact .inr (.inl (UInt8.toNat_inj.1 h))
   ·exact .inr (.inr (UInt8.lt_iff_toNat_lt.2 h))
  rcases ht with h | rfl | h
  ·exact .inl (.inl h)
  ·rcases ABv a b with h | rfl | h
   ·exact .inl (.inr ⟨rfl,h⟩)
   ·exact .inr (.inl ⟨rfl,rfl⟩)
   ·exact .inr (.inr (.inr ⟨rfl,h⟩))
  ·exact .inr (.inr (.inl h))
theorem kK {s t:ByteArray} (h:s.toList=t.toList):s=t:=by
 rw[ByteArray.toList_eq,ByteArray.toList_eq] at h
 obtain⟨⟨x⟩⟩:=s
 obtain⟨⟨y⟩⟩:=t
 simp at h
 rw[h]
theorem Qs (a b:DVal):EN a b=true↔a.ty<b.ty∨(a.ty=b.ty∧(a.n<b.n∨(a.n=b.n∧Op.bytesLess a.s.toList b.s.toList=true))):=by
 unfold EN
 by_cases h1:a.ty=b.ty
 ·by_cases h2:a.n=b.n
  ·simp[h1,h2]
  ·simp[h1,h2]
 ·simp[h1]
theorem JD (a b:DVal):LC a b=true↔a=b:=by
 unfold LC
 simp only[ak,ZZ]
 constructor
 ·rintro⟨h1,h2,h3⟩
  cases a; cases b
  simp only at h1 h2 h3
  subst h1; subst h2
  congr 1
  exact kK h3
 ·rintro rfl; exact⟨rfl,rfl,rfl⟩
theorem Qu (a:DVal):EN a a=false:=by
 cases h:EN a a with
 | false=>rfl
 | true =>
  rw[Qs] at h
  rcases h with h | ⟨_,h | ⟨_,h⟩⟩
  ·omega
  ·omega
  ·rw[ABu] at h; cases h
theorem Mc {a b c:DVal} (h1:EN a b=true) (h2:EN b c=true):EN a c=true:=by
 rw[Qs] at *
 rcases h1 with h1 | ⟨e1,h1⟩<;>rcases h2 with h2 | ⟨e2,h2⟩
 ·exact .inl (by omega)
 ·exact .inl (by omega)
 ·exact .inl (by omega)
 ·refine .inr ⟨by omega, ?_⟩
  rcases h1 with h1 | ⟨f1,h1⟩<;>rcases h2 with h2 | ⟨f2,h2⟩
  ·exact .inl (by omega)
  ·exact .inl (by omega)
  ·exact .inl (by omega)
  ·exact .inr ⟨by omega,qM h1 h2⟩
theorem Qv (a b:DVal):EN a b=true∨a=b∨EN b a=true:=by
 rw[← JD,Qs,Qs]
 unfold LC
 simp only[ak,ZZ]
 rcases Int.lt_trichotomy a.ty b.ty with h | h | h
 ·exact .inl (.inl h)
 ·rcases Int.lt_trichotomy a.n b.n with g | g | g
  ·exact .inl (.inr ⟨h,.inl g⟩)
  ·rcases ABv a.s.toList b.s.toList with k | k | k
   ·exact .inl (.inr ⟨h,.inr ⟨g,k⟩⟩)
   ·exact .inr (.inl ⟨h,g,k⟩)
   ·exact .inr (.inr (.inr ⟨h.symm,.inr ⟨g.symm,k⟩⟩))
  ·exact .inr (.inr (.inr ⟨h.symm,.inl g⟩))
 ·exact .inr (.inr (.inl h))
def JE (l:List DVal):Prop:=l.Pairwise fun a b=>EN a b=true
theorem kL (v x:DVal):∀ d:List DVal,x∈ins v d↔x=v∨x∈d
 | []=>by simp[ins]
 | y::r=>by
  simp only[ins]
  split
  ·simp only[cZ,kL v x r]
   constructor
   ·rintro(h | h | h)
    ·exact .inr (.inl h)
    ·exact .inl h
    ·exact .inr (.inr h)
   ·rintro(h | h | h)
    ·exact .inr (.inl h)
    ·exact .inl h
    ·exact .inr (.inr h)
  ·split
   ·rename_i h
    have:=(JD y v).1 h
    subst this
    simp
   ·simp
theorem Y2 (v:DVal):∀ d:List DVal,JE d→JE (ins v d)
 | [],_=>by simp[ins,JE]
 | y::r,h=>by
  obtain⟨h1,h2⟩:=abz.1 h
  simp only[ins]
  split
  ·rename_i hl
   refine abz.2 ⟨fun z hz=>?_,Y2 v r h2⟩
   rcases(kL v z r).1 hz with rfl | hz
   ·exact hl
   ·exact h1 z hz
  ·rename_i hl
   split
   ·exact h
   ·rename_i he
    have hv:EN v y=true:=by
     rcases Qv v y with g | g | g
     ·exact g
     ·exact absurd ((JD y v).2 g.symm) he
     ·exact absurd g hl
    refine abz.2 ⟨fun z hz=>?_,h⟩
    rcases cZ.1 hz with rfl | hz
    ·exact hv
    ·exact Mc hv (h1 z hz)
theorem qN (l:List DVal):JE (CG l):=by
 have key:∀ (l d:List DVal),JE d→JE (l.foldl (fun d v=>ins v d) d):=by
  intro l
  induction l with
  | nil=>intro d h; exact h
  | cons v l ih=>intro d h; exact ih _ (Y2 v d h)
 exact key l [] List.Pairwise.nil
theorem J5 (l:List DVal) (x:DVal):x∈CG l↔x∈l:=by
 have key:∀ (l d:List DVal),x∈l.foldl (fun d v=>ins v d) d↔x∈l∨x∈d:=by
  intro l
  induction l with
  | nil=>intro d; simp
  | cons v l ih =>
   intro d
   rw[abn,ih,kL,cZ]
   constructor
   ·rintro(h | h | h)
    ·exact .inl (.inr h)
    ·exact .inl (.inl h)
    ·exact .inr h
   ·rintro((h | h) | h)
    ·exact .inr (.inl h)
    ·exact .inl h
    ·exact .inr (.inr h)
 simpa [CG] using key l []
theorem fG:∀ {a b:List DVal},JE a→JE b→(∀ x,x∈a↔x∈b)→a=b
 | [],[],_,_,_=>rfl
 | [],y::b,_,_,h=>by have:=(h y).2 (by simp); simp at this
 | x::a,[],_,_,h=>by have:=(h x).1 (by simp); simp at this
 | x::a,y::b,ha,hb,h=>by
  obtain⟨a1,a2⟩:=abz.1 ha
  obtain⟨b1,b2⟩:=abz.1 hb
  have hxy:x=y:=by
   rcases cZ.1 ((h x).1 (by simp)) with g | g
   ·exact g
   ·rcases cZ.1 ((h y).2 (by simp)) with k | k
    ·exact k.symm
    ·have:=Mc (b1 x g) (a1 y k)
     rw[Qu] at this; cases this
  subst hxy
  have:a=b:=fG a2 b2 fun z=>by
   have hz:=h z
   simp only[cZ] at hz
   constructor
   ·intro g
    rcases hz.1 (.inr g) with k | k
    ·subst k; have:=a1 _ g; rw[Qu] at this; cases this
    ·exact k
   ·intro g
    rcases hz.2 (.inr g) with k | k
    ·subst k; have:=b1 _ g; rw[Qu] at this; cases this
    ·exact k
  rw[this]
open Go.Lib
def DT (v:DVal):List Value:=[.int .i64 v.ty,.int .i64 v.n,.string v.s]
instance:Inhabited DVal:=⟨⟨0,0,ByteArray.empty⟩⟩
instance:DecidableEq DVal:=fun a b=>decidable_of_iff (LC a b=true) (JD a b)
theorem ui (d:Array DVal) (x:DVal):∀ m,x∈compactUpTo d m↔∃ j,j<m∧d[j]! = x
 | 0=>by simp[compactUpTo]
 | m+1=>by
  rw[compactUpTo_succ,yU,ui d x m]
  constructor
  ·rintro(⟨j,hj,h⟩ | h)
   ·exact⟨j,by omega,h⟩
   ·split at h
    ·exact⟨m,by omega,(aaT.1 h).symm⟩
    ·cases h
  ·rintro⟨j,hj,h⟩
   by_cases e:j=m
   ·subst e
    rcases hk:keeps d j with _ | _
    ·left
     have h0:¬ (j=0∨d[j]!≠d[j-1]!):=by simpa [keeps] using hk
     by_cases h1:j=0
     ·exact absurd (.inl h1) h0
     ·refine⟨j-1,by omega, ?_⟩
      have h2:d[j]! = d[j-1]!:=by
       by_cases h3:d[j]! = d[j-1]!
       ·exact h3
       ·exact absurd (.inr h3) h0
      rw[← h2]; exact h
    ·right
     simp[h]
   ·left
    exact⟨j,by omega,h⟩
theorem fH (d:Array DVal) (hs:∀ i j,i<j→j<d.size→EN d[j]! d[i]! = false):∀ m,m≤d.size→JE (compactUpTo d m)
 | 0,_=>by simp[compactUpTo,JE]
 | m+1,hm=>by
  rw[compactUpTo_succ]
  have ih:=fH d hs m (by omega)
  rcases hk:keeps d m with _ | _
  ·simpa using ih
  ·unfold JE
   simp only[bD]
   rw[List.pairwise_append]
   refine⟨ih,by simp,fun x hx y hy=>?_⟩
   rw[aaT.1 hy]
   obtain⟨j,hj,rfl⟩:=(ui d x m).1 hx
   have h1:=hs j m hj (by omega)
   rcases Qv d[j]! d[m]! with h | h | h
   ·exact h
   ·exfalso
    have h0:m=0∨d[m]!≠d[m-1]!:=by simpa [keeps] using hk
    rcases h0 with h0 | h0
    ·omega
    ·apply h0
     rcases bI j (m-1) with h4 | h4
     ·have h2:=hs j (m-1) h4 (by omega)
      have h3:=hs (m-1) m (by omega) (by omega)
      rw[h] at h2
      rcases Qv d[m]! d[m-1]! with h5 | h5 | h5
      ·rw[h3] at h5; cases h5
      ·exact h5
      ·rw[h2] at h5; cases h5
     ·have:j=m-1:=by omega
      subst this
      exact h.symm
   ·rw[h1] at h; cases h
theorem ADG {l:List DVal} {d:Array DVal} (hp:Go.Sort.PermIn 0 l.length l.toArray d) (hs:∀ i j,i<j→j<d.size→EN d[j]! d[i]! = false):compactUpTo d d.size=CG l:=by
 refine fG (fH d hs _ (aN _)) (qN l) fun x=>?_
 rw[J5,ui]
 obtain⟨h1,_,h3⟩:=hp
 have h1':d.size=l.length:=by simpa using h1
 have h4:d.toList.Perm l:=by
  have e1:d.extract 0 l.length=d:=by rw[← h1']; simp
  rw[e1] at h3
  simpa using h3
 rw[← h4.mem_iff]
 constructor
 ·rintro⟨j,hj,rfl⟩
  rw[getElem!_pos d j hj]
  simp
 ·intro hx
  obtain⟨j,hj,rfl⟩:=aaz.1 hx
  have hj':j<d.size:=by simpa using hj
  exact⟨j,hj',by rw[getElem!_pos d j hj']; simp⟩
theorem ADH (op:BinOp) (a b:Operand) (x y:DVal) (w:World):Sem.run prog (eqGuard op 68 a b (.agg (DT x).toArray) (.agg (DT y).toArray)) w = .ok () w:=by
 have hg:prog.eqGuardType prog.depth 68=false:=by kernel_rfl
 simp[eqGuard,run_program,hg]
theorem eqB (x y:DVal) (w:World):Sem.run prog (binOp .eql 68 (.agg (DT x).toArray) (.agg (DT y).toArray)) w = .ok (.bool (LC x y)) w∧Sem.run prog (binOp .neq 68 (.agg (DT x).toArray) (.agg (DT y).toArray)) w = .ok (.bool (!LC x y)) w:=by
 have h:=nT (P:=prog) (w:=w) (T:=68) (ks:=[.int .i64,.int .i64,.str]) (cs:=x.c) (ds:=y.c) (r:=LC x y) (us:=DT x) (vs:=DT y) (by kernel_rfl) (by simp[DVal.c_eq,Dc,Gs,LC]) (fun k c hk=>by
  match k with
  | 0 | 1 | 2=>cases hk; rfl
  | k+3=>simp[DVal.c_eq] at hk) (fun k c hk=>by
  match k with
  | 0 | 1 | 2=>cases hk; rfl
  | k+3=>simp[DVal.c_eq] at hk) (x:=.tmp 0) (y:=.tmp 0)
 constructor
 ·have:=h.1
  rw[Sem.run_bind,ADH,Result.andThen_ok] at this
  exact this
 ·have:=h.2
  rw[Sem.run_bind,ADH,Result.andThen_ok] at this
  exact this
theorem xP (x y:DVal):decide (x=y)=LC x y:=by
 rcases h:LC x y with _ | _
 ·simp only[aaN]
  intro e
  rw[← JD] at e
  rw[h] at e; cases e
 ·simp only[bf]
  exact(JD x y).1 h
theorem AIF (x y:DVal) (w:World):Sem.run prog (binOp .eql 68 (.agg (DT x).toArray) (.agg (DT y).toArray)) w = .ok (.bool (decide (x=y))) w:=by rw[xP]; exact(eqB x y w).1
theorem AIG (x y:DVal) (w:World):Sem.run prog (binOp .neq 68 (.agg (DT x).toArray) (.agg (DT y).toArray)) w = .ok (.bool (!decide (x=y))) w:=by rw[xP]; exact(eqB x y w).2
open Go.Proofs Go.Shelf Go.RowKit Go.Sort
theorem xQ (x y:DVal) (W:World):Calls prog 340 #[.agg #[.int .i64 x.ty,.int .i64 x.n,.string x.s],.agg #[.int .i64 y.ty,.int .i64 y.n,.string y.s]] W fun e w'=>e = .returned (.bool (EN x y))∧∃ q os',w'=grow (W.drewN q) os':=by
 obtain⟨xt,xn,xs⟩:=x
 obtain⟨yt,yn,ys⟩:=y
 have hr:EN ⟨xt,xn,xs⟩ ⟨yt,yn,ys⟩=if xt=yt then(if xn=yn then Op.bytesLess xs.toList ys.toList else decide (xn<yn)) else decide (xt<yt):=by
  simp only[EN]
  by_cases h1:xt=yt<;>by_cases h2:xn=yn<;>simp[h1,h2]
 by_cases h1:xt=yt
 ·subst h1
  by_cases h2:xn=yn
  ·subst h2
   rw[hr,bz rfl,bz rfl]
   clear hr
   go_enter func340,ntmps340
   go_wp2
   go_ret
   exact⟨rfl,0,_,by rw[alloc_eq_grow,alloc_eq_grow,grow_grow]; rfl⟩
  ·rw[hr,bz rfl,aV h2]
   clear hr
   go_enter func340,ntmps340
   go_wp2
   go_ret
   exact⟨rfl,0,_,by rw[alloc_eq_grow,alloc_eq_grow,grow_grow]; rfl⟩
 ·rw[hr,aV h1]
  clear hr
  go_enter func340,ntmps340
  go_wp2
  go_ret
  exact⟨rfl,0,_,by rw[alloc_eq_grow,alloc_eq_grow,grow_grow]; rfl⟩
theorem Y3 (w:World) (os:Array Obj):∀ n,(grow w os).drewN n=grow (w.drewN n) os
 | 0=>rfl
 | n+1=>by
  show ((grow w os).drewN n).drew=_
  rw[Y3 w os n]; rfl
theorem Wn (w:World) (os os':Array Obj) (n:Nat):grow ((grow w os).drewN n) os'=grow (w.drewN n) (os++os'):=by rw[Y3,grow_grow]
theorem DC {W w':World} {A B:Array Value} {T:TypeId} (hw:∃ q os',w'=grow (((W.alloc (.cells A T)).alloc (.cells B T)).drewN q) os') (j:Nat) (v:Value) :
  (A[j]?=some v→w'.cell? ⟨W.heap.size,j,none⟩=some v)∧(B[j]?=some v→w'.cell? ⟨W.heap.size+1,j,none⟩=some v):=by
 obtain⟨q,os',rfl⟩:=hw
 have s1:(W.alloc (.cells A T)).heap.size=W.heap.size+1:=by show (W.heap.push _).size=_; simp
 have s2:((W.alloc (.cells A T)).alloc (.cells B T)).heap.size=W.heap.size+2:=by show ((W.heap.push _).push _).size=_; simp
 constructor
 ·intro h
  rw[Go.Sort.cell?_grow _ _ _ (by rw[World.heap_drewN,s2]; simp),World.cell?_drewN,alloc_eq_grow (W.alloc _),Go.Sort.cell?_grow _ _ _ (by rw[s1]; simp)]
  show (match (W.heap.push (Obj.cells A T))[W.heap.size]? with | some (.cells cs _ _)=>cs[j]? | _=>none)=some v
  simp[h]
 ·intro h
  rw[Go.Sort.cell?_grow _ _ _ (by rw[World.heap_drewN,s2]; simp),World.cell?_drewN,← s1]
  generalize W.alloc (.cells A T)=W1
  show (match (W1.heap.push (Obj.cells B T))[W1.heap.size]? with | some (.cells cs _ _)=>cs[j]? | _=>none)=some v
  simp[h]
theorem J6 {w0 w1 w2:World} (h1:∃ q os,w1=Go.Sort.grow (w0.drewN q) os) (h2:∃ q os,w2=Go.Sort.grow (w1.drewN q) os):∃ q os,w2=Go.Sort.grow (w0.drewN q) os:=by
 obtain⟨q1,o1,rfl⟩:=h1
 obtain⟨q2,o2,rfl⟩:=h2
 exact⟨q1+q2,o1++o2,by rw[Wn,World.drewN_drewN]⟩
theorem VP (W:World) (A B:Obj):∃ q os,(W.alloc A).alloc B=Go.Sort.grow (W.drewN q) os:=⟨0,#[A] ++ #[B],by rw[alloc_eq_grow,alloc_eq_grow,grow_grow]; rfl⟩
def uj (x y:DVal):Int:=if EN x y=true then -1 else if EN y x=true then 1 else 0
theorem AE6 (x y:DVal) (W:World):Calls prog 336 #[.agg #[.int .i64 x.ty,.int .i64 x.n,.string x.s],.agg #[.int .i64 y.ty,.int .i64 y.n,.string y.s]] W fun e w'=>e = .returned (.int .i64 (uj x y))∧∃ q os',w'=grow (W.drewN q) os':=by
 have h1:=xQ x y
 have h2:=xQ y x
 unfold uj
 generalize EN x y=a at h1 ⊢
 generalize EN y x=b at h2 ⊢
 obtain⟨xt,xn,xs⟩:=x
 obtain⟨yt,yn,ys⟩:=y
 cases a with
 | true =>
  simp only[bD]
  go_enter func336,ntmps336
  go_wp2_with (go_at_call 340; first | (have hm:=HW.out; clear hm; refine(h2 _).mono ?_; rintro e w' ⟨rfl,hw2⟩) | (refine(h1 _).mono ?_; rintro e w' ⟨rfl,hw⟩; have c0:=(DC hw 0 (.int .i64 xt)).1 rfl; have c1:=(DC hw 1 (.int .i64 xn)).1 rfl; have c2:=(DC hw 2 (.string xs)).1 rfl; have d0:=(DC hw 0 (.int .i64 yt)).2 rfl; have d1:=(DC hw 1 (.int .i64 yn)).2 rfl; have d2:=(DC hw 2 (.string ys)).2 rfl; have HW:Aside _:=hw; clear hw))
  go_ret
  exact⟨rfl,J6 (VP _ _ _) HW⟩
 | false =>
  cases b with
  | true =>
   simp only[bD,aT,aC]
   go_enter func336,ntmps336
   go_wp2_with (go_at_call 340; first | (have hm:=HW.out; clear hm; refine(h2 _).mono ?_; rintro e w' ⟨rfl,hw2⟩) | (refine(h1 _).mono ?_; rintro e w' ⟨rfl,hw⟩; have c0:=(DC hw 0 (.int .i64 xt)).1 rfl; have c1:=(DC hw 1 (.int .i64 xn)).1 rfl; have c2:=(DC hw 2 (.string xs)).1 rfl; have d0:=(DC hw 0 (.int .i64 yt)).2 rfl; have d1:=(DC hw 1 (.int .i64 yn)).2 rfl; have d2:=(DC hw 2 (.string ys)).2 rfl; have HW:Aside _:=hw; clear hw))
   go_ret
   exact⟨rfl,J6 (J6 (VP _ _ _) HW) hw2⟩
  | false =>
   simp only[aT,aC]
   go_enter func336,ntmps336
   go_wp2_with (go_at_call 340; first | (have hm:=HW.out; clear hm; refine(h2 _).mono ?_; rintro e w' ⟨rfl,hw2⟩) | (refine(h1 _).mono ?_; rintro e w' ⟨rfl,hw⟩; have c0:=(DC hw 0 (.int .i64 xt)).1 rfl; have c1:=(DC hw 1 (.int .i64 xn)).1 rfl; have c2:=(DC hw 2 (.string xs)).1 rfl; have d0:=(DC hw 0 (.int .i64 yt)).2 rfl; have d1:=(DC hw 1 (.int .i64 yn)).2 rfl; have d2:=(DC hw 2 (.string ys)).2 rfl; have HW:Aside _:=hw; clear hw))
   go_ret
   exact⟨rfl,J6 (J6 (VP _ _ _) HW) hw2⟩
theorem UR (x y:DVal):ltOf uj x y=EN x y:=by
 unfold ltOf uj
 by_cases h1:EN x y=true
 ·simp[h1]
 ·by_cases h2:EN y x=true<;>simp[h1,h2]
theorem AIH:SWO (ltOf uj) where
 irrefl x:=by rw[UR]; exact Qu x
 trans x y z h1 h2:=by rw[UR] at *; exact Mc h1 h2
 ntrans x y z h1 h2:=by
  rw[UR] at *
  rw[Bool.eq_false_iff] at *
  intro h3
  rcases Qv x y with h | h | h
  ·exact h1 h
  ·subst h; exact h2 h3
  ·exact h2 (Mc h h3)
theorem ADI (blk off size:Nat) (w:World):CmpLays prog 336 #[] DT 3 uj blk off size w:=fun _ _ _ _ x y=>AE6 x y _
def qO:Go.Shelf.Ren:=⟨fun | 6=>335 | 15=>322 | 14=>339 | 28=>333 | 29=>334 | 20=>342 | 21=>343 | 22=>344 | 23=>345 | 24=>346 | 25=>347 | 26=>348 | 27=>349 | 46=>350 | 47=>351 | 48=>352 | 49=>353 | 50=>354 | 57=>355 | n=>n,fun | 22=>54 | 24=>68 | 25=>303 | 3=>3 | 39=>296 | 0=>0 | 53=>299 | 55=>301 | 4=>4 | 46=>307 | 45=>306 | 50=>311 | 5=>5 | 9=>9 | 66=>313 | 70=>317 | 76=>319 | 77=>320 | n=>n,fun n=>n⟩
theorem xR:SlLaysF0.n6 prog qO where
 mixed:=by kernel_rfl
 f6:=⟨f335.name,Zg (by kernel_rfl),func335.trans (congrArg some (by kernel_rfl))⟩
 f14:=⟨f339.name,Zg (by kernel_rfl),func339.trans (congrArg some (by kernel_rfl))⟩
 f15:=func322.trans (congrArg some (by kernel_rfl))
 f20:=⟨f342.name,Zg (by kernel_rfl),func342.trans (congrArg some (by kernel_rfl))⟩
 f21:=⟨f343.name,Zg (by kernel_rfl),func343.trans (congrArg some (by kernel_rfl))⟩
 f22:=⟨f344.name,Zg (by kernel_rfl),func344.trans (congrArg some (by kernel_rfl))⟩
 f23:=⟨f345.name,Zg (by kernel_rfl),func345.trans (congrArg some (by kernel_rfl))⟩
 f24:=⟨f346.name,Zg (by kernel_rfl),func346.trans (congrArg some (by kernel_rfl))⟩
 f25:=⟨f347.name,Zg (by kernel_rfl),func347.trans (congrArg some (by kernel_rfl))⟩
 f26:=⟨f348.name,Zg (by kernel_rfl),func348.trans (congrArg some (by kernel_rfl))⟩
 f27:=⟨f349.name,Zg (by kernel_rfl),func349.trans (congrArg some (by kernel_rfl))⟩
 f28:=func333.trans (congrArg some (by kernel_rfl))
 f29:=func334.trans (congrArg some (by kernel_rfl))
 f46:=⟨f350.name,Zg (by kernel_rfl),func350.trans (congrArg some (by kernel_rfl))⟩
 f47:=func351.trans (congrArg some (by kernel_rfl))
 f48:=func352.trans (congrArg some (by kernel_rfl))
 f49:=⟨f353.name,Zg (by kernel_rfl),func353.trans (congrArg some (by kernel_rfl))⟩
 f50:=⟨f354.name,Zg (by kernel_rfl),func354.trans (congrArg some (by kernel_rfl))⟩
 f57:=⟨f355.name,Zg (by kernel_rfl),func355.trans (congrArg some (by kernel_rfl))⟩
 t0:=underlying0
 a0:=isAgg0
 z0:=sizeOf0
 v0:=zeroValue0
 t3:=underlying3
 a3:=isAgg3
 z3:=sizeOf3
 v3:=zeroValue3
 t4:=underlying4
 a4:=isAgg4
 z4:=sizeOf4
 v4:=zeroValue4
 t5:=underlying5
 a5:=isAgg5
 z5:=sizeOf5
 v5:=zeroValue5
 t9:=underlying9
 a9:=isAgg9
 z9:=sizeOf9
 v9:=zeroValue9
 t22:=underlying54
 a22:=isAgg54
 z22:=sizeOf54
 v22:=zeroValue54
 t25:=underlying303
 a25:=isAgg303
 z25:=sizeOf303
 v25:=zeroValue303
 t39:=underlying296
 a39:=isAgg296
 z39:=sizeOf296
 v39:=zeroValue296
 t45:=underlying306
 a45:=isAgg306
 z45:=sizeOf306
 v45:=zeroValue306
 t46:=underlying307
 a46:=isAgg307
 z46:=sizeOf307
 v46:=zeroValue307
 t50:=underlying311
 a50:=isAgg311
 z50:=sizeOf311
 v50:=zeroValue311
 t53:=underlying299
 a53:=isAgg299
 z53:=sizeOf299
 v53:=zeroValue299
 t55:=underlying301
 a55:=isAgg301
 z55:=sizeOf301
 v55:=zeroValue301
 t66:=underlying313
 a66:=isAgg313
 z66:=sizeOf313
 v66:=zeroValue313
 t70:=underlying317
 a70:=isAgg317
 z70:=sizeOf317
 v70:=zeroValue317
 t76:=underlying319
 a76:=isAgg319
 z76:=sizeOf319
 v76:=zeroValue319
 t77:=underlying320
 a77:=isAgg320
 z77:=sizeOf320
 v77:=zeroValue320
end Go.Proofs.YtnfbaclikokapaaGreat
