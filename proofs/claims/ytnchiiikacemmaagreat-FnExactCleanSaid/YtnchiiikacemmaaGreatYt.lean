/- A part. -/
import Derived.Test.YtnchiiikacemmaaGreatWb
import Derived.Test.YtnchiiikacemmaaGreatAa
import Derived.Lib.SlicesCompact
import Derived.Sort.Statements
import Derived.Shelf.SlSortCmp.NoneTotal
set_option linter.unusedSimpArgs false
set_option linter.unusedVariables false
set_option maxHeartbeats 2000000
set_option maxRecDepth 100000
open Go.Proofs.Tryz
namespace Go.Proofs.YtnchiiikacemmaaGreat
open Go.Vm
theorem AAF {b:List Int} {k:Int} {l l':List DVal} {e:List Int} (h:again b k l e=some l'):l'=l∧1≤k∧k≤64∧(l.length:Int)=k∧b=e:=by
 unfold again at h
 split at h
 ·rename_i h1
  simp only[ah] at h
  exact⟨h.symm,h1⟩
 ·cases h
theorem Y9 {v:DVal} (h:BF v=true):v.ty=1∨v.ty=2:=by
 unfold BF at h
 split at h
 ·left; assumption
 ·simp only[ax,Zi] at h
  exact .inr h.1.1.1
theorem AB6 (l:List DVal):typeOf l=0∨typeOf l=1∨typeOf l=2:=by
 cases l with
 | nil=>exact .inl rfl
 | cons v r =>
  show (if(v::r).length≤64∧∀ x∈(v::r),BF x=true∧x.ty=v.ty then v.ty else 0)=0∨(if(v::r).length≤64∧∀ x∈(v::r),BF x=true∧x.ty=v.ty then v.ty else 0)=1∨(if(v::r).length≤64∧∀ x∈(v::r),BF x=true∧x.ty=v.ty then v.ty else 0)=2
  split
  ·rename_i h
   exact .inr (Y9 (h.2 v (by simp)).1)
  ·exact .inl rfl
def runs:List DVal→List (DVal×Int)
 | []=>[]
 | v::l=>match runs l with
  | []=>[(v,1)]
  | (x,k)::r=>if KX v x=true then(x,k+1)::r else(v,1)::(x,k)::r
def G9:List (DVal×Int)→Nat→Option (List DVal)
 | [],_=>some []
 | (v,k)::r,n=>if k<1∨k>64-n then none else(G9 r (n+k.toNat)).map fun l=>List.replicate k.toNat v++l
def spread (r:List (DVal×Int)):List DVal:=(G9 r 0).getD []
noncomputable def EZ (l:List DVal):List Int:=if typeOf l=0 then [] else EO (runs l).length++((runs l).map fun r=>EO r.2++UG r.1).flatten
noncomputable def IP (b:List Int) (ty:Int):Nat→Nat→Option (List (DVal×Int))
 | 0,_=>some []
 | n+1,p=>match BK b p with
  | none=>none
  | some (m,q)=>match Ei b q ty with
   | none=>none
   | some (v,q')=>(IP b ty n q').map fun r=>(v,m)::r
noncomputable def Dt (b:List Int) (ty k:Int):Option (List DVal):=match BK b 0 with
 | none=>none
 | some (n,p)=>if 1≤n∧n≤64 then match IP b ty n.toNat p with
   | none=>none
   | some r=>again b k (spread r) (EZ (spread r))
  else none
def ET (b:List Int) (n:Int):Int:=if n<0 then 0 else match b[(n/8).toNat]? with
 | some c=>c/2 ^ (n%8).toNat%2
 | none=>0
def Ej (k w:Int):Int:=if(0≤k∧k≤64)∧0≤w∧w≤31 then(k*w+7)/8 else 0
def LM (b:List Int) (o:Int):Nat→Int
 | 0=>0
 | j+1=>LM b o j+ET b (o+j)*2 ^ j
noncomputable def unpack (b:List Int) (w k:Int):Option (List Int):=
 if((0≤w∧w≤31)∧(0≤k∧k≤64)∧(b.length:Int)=Ej k w)∧(∀ n∈List.range (8*b.length),k*w≤(n:Int)→ET b (n:Int)=0) then some ((List.range k.toNat).map fun(i:Nat)=>LM b ((i:Int)*w) w.toNat) else none
theorem LP {b:List Int} {w k:Int} {o:List Int} (h:unpack b w k=some o):(o.length:Int)=k:=by
 unfold unpack at h
 split at h
 ·rename_i h1
  simp only[ah] at h
  subst h
  simp only[ae,List.length_range]
  omega
 ·cases h
def FV:Nat→Int→Int
 | 0,_=>0
 | f+1,x=>if x>0 then FV f (x/2)+1 else 0
def Ai (n:Int):Int:=if 0≤n∧n≤2147483647 then FV 32 n else 0
def CJ (l:List Int):Int:=l.foldl (fun w n=>max w (Ai n)) 0
def EK (l:List Int) (w:Int) (n:Nat):Int:=match l[n/w.toNat]? with
 | some x=>x/2 ^ (n%w.toNat)%2
 | none=>0
def FO (l:List Int) (w:Int) (m:Nat):Nat→Int
 | 0=>0
 | t+1=>FO l w m t+EK l w (8*m+t)*2 ^ t
noncomputable def Dz (l:List Int) (w:Int):List Int:=
 if(0≤w∧w≤31)∧∀ n∈l,(0≤n∧n≤2147483647)∧Ai n≤w then(List.range ((l.length*w.toNat+7)/8)).map fun m=>FO l w m 8 else []
def ins (v:DVal):List DVal→List DVal
 | []=>[v]
 | x::r=>if EP x v=true then x::ins v r else if KX x v=true then x::r else v::x::r
def CO (l:List DVal):List DVal:=l.foldl (fun d v=>ins v d) []
theorem yE (v:DVal):∀ d:List DVal,(ins v d).length≤d.length+1
 | []=>aK _
 | x::r=>by
  simp only[ins]
  have:=yE v r
  repeat' split
  all_goals simp only[bY]; omega
theorem NP (l:List DVal):(CO l).length≤l.length:=by
 have key:∀ (l d:List DVal),(l.foldl (fun d v=>ins v d) d).length≤d.length+l.length:=by
  intro l
  induction l with
  | nil=>intro d; simp
  | cons v l ih =>
   intro d
   have:=yE v d
   have:=ih (ins v d)
   simp only[abj,bY]; omega
 simpa [CO] using key l []
def placeOf (v:DVal):List DVal→Nat→Option Int
 | [],_=>none
 | x::r,i=>if KX x v=true then some (i:Int) else placeOf v r (i+1)
def places (d:List DVal):List DVal→Option (List Int)
 | []=>some []
 | v::l=>match placeOf v d 0,places d l with
  | some i,some r=>some (i::r)
  | _,_=>none
def picked (d:List DVal):List Int→Option (List DVal)
 | []=>some []
 | i::l=>if 0≤i then match d[i.toNat]?,picked d l with
   | some v,some r=>some (v::r)
   | _,_=>none
  else none
theorem LQ {d:List DVal}:∀ {o:List Int} {l:List DVal},picked d o=some l→l.length=o.length
 | [],l,h=>by simp only[picked,ah] at h; subst h; rfl
 | i::o,l,h=>by
  simp only[picked] at h
  split at h
  ·split at h
   ·rename_i v r h1 h2
    simp only[ah] at h
    subst h
    simp[LQ h2]
   ·cases h
  ·cases h
noncomputable def Df (l:List DVal):List Int:=if typeOf l=0 then [] else EO (CO l).length++(I5 (CO l)++Dz ((places (CO l) l).getD []) (Ai ((CO l).length-1)))
theorem AB7:∀ (f g:Nat) (x y:Int) (r s:List Int),0≤x→x<128 ^ (f+1)→0≤y→y<128 ^ (g+1)→Ya f x++r=Ya g y++s→x=y:=by
 have hd:∀ (g:Nat) (y:Int),0≤y→y<128 ^ (g+1)→∃ c t,Ya g y=c::t∧(y<128→c=y∧t = [])∧(y≥128→∃ g',g=g'+1∧c=y%128+128∧t=Ya g' (y/128)):=by
  intro g y h0 h1
  cases g with
  | zero=>exact⟨y,[],rfl,fun _=>⟨rfl,rfl⟩,fun h=>by simp at h1; omega⟩
  | succ g =>
   by_cases h:y≥128
   ·exact⟨_,_,by rw[Ya,aX h],fun h2=>by omega,fun _=>⟨g,rfl,rfl,rfl⟩⟩
   ·exact⟨y,[],by rw[Ya,aV h],fun _=>⟨rfl,rfl⟩,fun h2=>by omega⟩
 intro f
 induction f with
 | zero =>
  intro g x y r s hx hx2 hy hy2 h
  obtain⟨c,t,e1,e2,e3⟩:=hd g y hy hy2
  simp only[ww,Int.pow_zero,Int.one_mul,oJ] at hx2
  rw[e1] at h
  simp only[Ya,bH,bi,List.cons.injEq] at h
  by_cases h2:y<128
  ·have:=(e2 h2).1; omega
  ·obtain⟨g',_,e4,_⟩:=e3 (by omega)
   omega
 | succ f ih =>
  intro g x y r s hx hx2 hy hy2 h
  obtain⟨c,t,e1,e2,e3⟩:=hd (f+1) x hx hx2
  obtain⟨c',t',d1,d2,d3⟩:=hd g y hy hy2
  rw[e1,d1] at h
  simp only[bH,List.cons.injEq] at h
  obtain⟨hc,ht⟩:=h
  by_cases h1:x<128
  ·by_cases h2:y<128
   ·have:=(e2 h1).1; have:=(d2 h2).1; omega
   ·obtain⟨g',_,e4,_⟩:=d3 (by omega)
    have:=(e2 h1).1; omega
  ·obtain⟨f',e5,e6,e7⟩:=e3 (by omega)
   by_cases h2:y<128
   ·have:=(d2 h2).1; omega
   ·obtain⟨g',d5,d6,d7⟩:=d3 (by omega)
    have hf:f'=f:=by omega
    subst hf
    subst d5
    rw[e7,d7] at ht
    have e8:x/128<128 ^ (f'+1):=by
     rw[ww] at hx2
     exact Int.ediv_lt_of_lt_mul (by omega) hx2
    have e9:y/128<128 ^ (g'+1):=by
     rw[ww] at hy2
     exact Int.ediv_lt_of_lt_mul (by omega) hy2
    have:=ih g' (x/128) (y/128) r s (by omega) e8 (by omega) e9 ht
    omega
theorem VO {n:Int} (h : -1000000000≤n) (h2:n≤1000000000):0≤zig n∧zig n<128 ^ 5:=by
 unfold zig
 have:(128:Int) ^ 5=34359738368:=by decide
 split<;>constructor<;>omega
theorem ADY {n m:Int} (h:zig n=zig m):n=m:=by
 unfold zig at h
 split at h<;>split at h<;>omega
theorem AAG {n m:Int} {r s:List Int} (hn : -1000000000≤n∧n≤1000000000) (hm : -1000000000≤m∧m≤1000000000) (h:EO n++r=EO m++s):n=m:=
 ADY (AB7 4 4 _ _ r s (VO hn.1 hn.2).1 (VO hn.1 hn.2).2 (VO hm.1 hm.2).1 (VO hm.1 hm.2).2 h)
noncomputable def Em (b:List Int) (ty k:Int):Option (List DVal):=match BK b 0 with
 | none=>none
 | some (n,p)=>if(1≤k∧k≤64)∧1≤n∧n≤k then match Ba b ty n.toNat p with
   | none=>none
   | some (d,q)=>match unpack (b.drop q) (Ai (n-1)) k with
    | none=>none
    | some o=>match picked d o with
     | none=>none
     | some l=>if Df l=b then some l else none
  else none
noncomputable def I9 (b:List Int) (ty k:Int):Option (List DVal):=match BK b 0 with
 | none=>none
 | some (n,p)=>if 1≤n∧n≤64 then match Ba b ty n.toNat p with
   | none=>none
   | some (d,q)=>match unpack (b.drop q) (Ai (n-1)) k with
    | none=>none
    | some o=>again b k ((picked d o).getD []) (Df ((picked d o).getD []))
  else none
theorem UW {b:List Int} (hb:AQ b) {n:Int} {p:Nat} (h:BK b 0=some (n,p)):(-1000000000≤n∧n≤1000000000)∧b=EO n++b.drop p∧b≠ []:=by
 obtain⟨_,h2,h3,h4,h5,h6⟩:=Gq hb h
 refine⟨⟨h4,h5⟩, ?_, ?_⟩
 ·have e:b.take p=EO n:=by simpa using h6
  rw[← e]; simp
 ·intro e; rw[e] at h3; simp at h3; omega
theorem Y_ {b:List Int} (hb:AQ b) (ty k:Int):I9 b ty k=Em b ty k:=by
 unfold I9 Em
 cases hn:BK b 0 with
 | none=>rfl
 | some x =>
  obtain⟨n,p⟩:=x
  obtain⟨hnr,hbn,hne⟩:=UW hb hn
  dsimp only
  by_cases h1:1≤n∧n≤64
  ·rw[aX h1]
   cases hd:Ba b ty n.toNat p with
   | none=>simp
   | some y =>
    obtain⟨d,q⟩:=y
    dsimp only
    cases hu:unpack (b.drop q) (Ai (n-1)) k with
    | none=>simp
    | some o =>
     have hol:=LP hu
     dsimp only
     by_cases h2:(1≤k∧k≤64)∧1≤n∧n≤k
     ·rw[aX h2]
      cases hp:picked d o with
      | none =>
       simp only[rV,again]
       rw[aV]
       simp only[oI]; omega
      | some l =>
       have:=LQ hp
       simp only[aS,again]
       by_cases h3:Df l=b
       ·rw[aX h3,aX ⟨h2.1.1,h2.1.2,by omega,h3.symm⟩]
       ·rw[aV h3,aV fun h4=>h3 h4.2.2.2.symm]
     ·rw[aV h2]
      unfold again
      rw[aV]
      rintro⟨k1,k2,k3,k4⟩
      have hnk:k<n:=by omega
      generalize hl:(picked d o).getD []=l at k3 k4
      unfold Df at k4
      split at k4
      ·exact hne k4
      ·have:=NP l
       have e:=AAG hnr ⟨by omega,by omega⟩ (hbn.symm.trans k4)
       omega
  ·rw[aV h1,aV (by omega)]
def Bq:List DVal→Int
 | []=>0
 | v::l=>l.foldl (fun n x=>min n x.n) v.n
noncomputable def offsets (l:List DVal):List Int:=if typeOf l≠1 then [] else l.map fun v=>v.n-Bq l
noncomputable def CV (l:List DVal):List Int:=if typeOf l≠1 then [] else EO (Bq l)++(CJ (offsets l)::Dz (offsets l) (CJ (offsets l)))
def raised (base:Int) (l:List Int):Option (List DVal):=
 if(-1000000000≤base∧base≤1000000000)∧∀ x∈l,(0≤x∧x≤2000000000)∧base+x≤1000000000 then some (l.map fun x=>⟨1,base+x,ByteArray.empty⟩) else none
theorem OT {base:Int} {o:List Int} {l:List DVal} (h:raised base o=some l):l.length=o.length:=by
 unfold raised at h
 split at h
 ·simp only[ah] at h
  subst h; simp
 ·cases h
noncomputable def D5 (b:List Int) (k:Int):Option (List DVal):=match BK b 0 with
 | none=>none
 | some (base,p)=>match b[p]? with
  | none=>none
  | some w=>if 1≤k∧k≤64 then match unpack (b.drop (p+1)) w k with
    | none=>none
    | some o=>match raised base o with
     | none=>none
     | some l=>if CV l=b then some l else none
   else none
noncomputable def H5 (b:List Int) (k:Int):Option (List DVal):=match BK b 0 with
 | none=>none
 | some (base,p)=>match b[p]? with
  | none=>none
  | some w=>match unpack (b.drop (p+1)) w k with
    | none=>none
    | some o=>again b k ((raised base o).getD []) (CV ((raised base o).getD []))
theorem WR (b:List Int) (k:Int):H5 b k=D5 b k:=by
 unfold H5 D5
 cases hn:BK b 0 with
 | none=>rfl
 | some x =>
  obtain⟨base,p⟩:=x
  dsimp only
  cases hw:b[p]? with
  | none=>rfl
  | some w =>
   dsimp only
   cases hu:unpack (b.drop (p+1)) w k with
   | none=>simp
   | some o =>
    have hol:=LP hu
    dsimp only
    by_cases h2:1≤k∧k≤64
    ·rw[aX h2]
     cases hp:raised base o with
     | none =>
      simp only[rV,again]
      rw[aV]
      simp only[oI]; omega
     | some l =>
      have:=OT hp
      simp only[aS,again]
      by_cases h3:CV l=b
      ·rw[aX h3,aX ⟨h2.1,h2.2,by omega,h3.symm⟩]
      ·rw[aV h3,aV fun h4=>h3 h4.2.2.2.symm]
    ·rw[aV h2]
     unfold again
     rw[aV fun h3=>h2 ⟨h3.1,h3.2.1⟩]
theorem AB8:∀ l:List UInt8,Op.bytesLess l l=false
 | []=>rfl
 | x::l=>by simp[Op.bytesLess,AB8 l]
theorem qi:∀ {a b c:List UInt8},Op.bytesLess a b=true→Op.bytesLess b c=true→Op.bytesLess a c=true
 | [],[],_,h,_=>by simp[Op.bytesLess] at h
 | [],_::_,[],_,h=>by simp[Op.bytesLess] at h
 | [],_::_,_::_,_,_=>by simp[Op.bytesLess]
 | _::_,[],_,h,_=>by simp[Op.bytesLess] at h
 | _::_,_::_,[],_,h=>by simp[Op.bytesLess] at h
 | x::a,y::b,z::c,h1,h2=>by
  simp only[Op.bytesLess,zH,ax,aY,Zi] at h1 h2 ⊢
  rcases h1 with h1 | ⟨rfl,h1⟩
  ·rcases h2 with h2 | ⟨rfl,h2⟩
   ·exact .inl (UInt8.lt_trans h1 h2)
   ·exact .inl h1
  ·rcases h2 with h2 | ⟨rfl,h2⟩
   ·exact .inl h2
   ·exact .inr ⟨rfl,qi h1 h2⟩
theorem AB9:∀ (a b:List UInt8),Op.bytesLess a b=true∨a=b∨Op.bytesLess b a=true
 | [],[]=>.inr (.inl rfl)
 | [],_::_=>.inl (by simp[Op.bytesLess])
 | _::_,[]=>.inr (.inr (by simp[Op.bytesLess]))
 | x::a,y::b=>by
  simp only[Op.bytesLess,zH,ax,aY,Zi,List.cons.injEq]
  have ht:x<y∨x=y∨y<x:=by
   rcases Nat.lt_trichotomy x.toNat y.toNat with h | h | h
   ·exact .inl (UInt8.lt_iff_toNat_lt.2 h)
   ·exact .inr (.inl (UInt8.toNat_inj.1 h))
   ·exact .inr (.inr (UInt8.lt_iff_toNat_lt.2 h))
  rcases ht with h | rfl | h
  ·exact .inl (.inl h)
  ·rcases AB9 a b with h | rfl | h
   ·exact .inl (.inr ⟨rfl,h⟩)
   ·exact .inr (.inl ⟨rfl,rfl⟩)
   ·exact .inr (.inr (.inr ⟨rfl,h⟩))
  ·exact .inr (.inr (.inl h))
theorem vO {s t:ByteArray} (h:s.toList=t.toList):s=t:=by
 rw[ByteArray.toList_eq,ByteArray.toList_eq] at h
 obtain⟨⟨x⟩⟩:=s
 obtain⟨⟨y⟩⟩:=t
 simp at h
 rw[h]
theorem Qb (a b:DVal):EP a b=true↔a.ty<b.ty∨(a.ty=b.ty∧(a.n<b.n∨(a.n=b.n∧Op.bytesLess a.s.toList b.s.toList=true))):=by
 unfold EP
 by_cases h1:a.ty=b.ty
 ·by_cases h2:a.n=b.n
  ·simp[h1,h2]
  ·simp[h1,h2]
 ·simp[h1]
theorem I_ (a b:DVal):KX a b=true↔a=b:=by
 unfold KX
 simp only[ax,Zi]
 constructor
 ·rintro⟨h1,h2,h3⟩
  cases a; cases b
  simp only at h1 h2 h3
  subst h1; subst h2
  congr 1
  exact vO h3
 ·rintro rfl; exact⟨rfl,rfl,rfl⟩
theorem Qc (a:DVal):EP a a=false:=by
 cases h:EP a a with
 | false=>rfl
 | true =>
  rw[Qb] at h
  rcases h with h | ⟨_,h | ⟨_,h⟩⟩
  ·omega
  ·omega
  ·rw[AB8] at h; cases h
theorem MF {a b c:DVal} (h1:EP a b=true) (h2:EP b c=true):EP a c=true:=by
 rw[Qb] at *
 rcases h1 with h1 | ⟨e1,h1⟩<;>rcases h2 with h2 | ⟨e2,h2⟩
 ·exact .inl (by omega)
 ·exact .inl (by omega)
 ·exact .inl (by omega)
 ·refine .inr ⟨by omega, ?_⟩
  rcases h1 with h1 | ⟨f1,h1⟩<;>rcases h2 with h2 | ⟨f2,h2⟩
  ·exact .inl (by omega)
  ·exact .inl (by omega)
  ·exact .inl (by omega)
  ·exact .inr ⟨by omega,qi h1 h2⟩
theorem Qd (a b:DVal):EP a b=true∨a=b∨EP b a=true:=by
 rw[← I_,Qb,Qb]
 unfold KX
 simp only[ax,Zi]
 rcases Int.lt_trichotomy a.ty b.ty with h | h | h
 ·exact .inl (.inl h)
 ·rcases Int.lt_trichotomy a.n b.n with g | g | g
  ·exact .inl (.inr ⟨h,.inl g⟩)
  ·rcases AB9 a.s.toList b.s.toList with k | k | k
   ·exact .inl (.inr ⟨h,.inr ⟨g,k⟩⟩)
   ·exact .inr (.inl ⟨h,g,k⟩)
   ·exact .inr (.inr (.inr ⟨h.symm,.inr ⟨g.symm,k⟩⟩))
  ·exact .inr (.inr (.inr ⟨h.symm,.inl g⟩))
 ·exact .inr (.inr (.inl h))
def JA (l:List DVal):Prop:=l.Pairwise fun a b=>EP a b=true
theorem kX (v x:DVal):∀ d:List DVal,x∈ins v d↔x=v∨x∈d
 | []=>by simp[ins]
 | y::r=>by
  simp only[ins]
  split
  ·simp only[bW,kX v x r]
   constructor
   ·rintro(h | h | h)
    ·exact .inr (.inl h)
    ·exact .inl h
    ·exact .inr (.inr h)
   ·rintro(h | h | h)
    ·exact .inr (.inl h)
    ·exact .inl h
    ·exact .inr (.inr h)
  ·split
   ·rename_i h
    have:=(I_ y v).1 h
    subst this
    simp
   ·simp
theorem ZA (v:DVal):∀ d:List DVal,JA d→JA (ins v d)
 | [],_=>by simp[ins,JA]
 | y::r,h=>by
  obtain⟨h1,h2⟩:=abC.1 h
  simp only[ins]
  split
  ·rename_i hl
   refine abC.2 ⟨fun z hz=>?_,ZA v r h2⟩
   rcases(kX v z r).1 hz with rfl | hz
   ·exact hl
   ·exact h1 z hz
  ·rename_i hl
   split
   ·exact h
   ·rename_i he
    have hv:EP v y=true:=by
     rcases Qd v y with g | g | g
     ·exact g
     ·exact absurd ((I_ y v).2 g.symm) he
     ·exact absurd g hl
    refine abC.2 ⟨fun z hz=>?_,h⟩
    rcases bW.1 hz with rfl | hz
    ·exact hv
    ·exact MF hv (h1 z hz)
theorem qj (l:List DVal):JA (CO l):=by
 have key:∀ (l d:List DVal),JA d→JA (l.foldl (fun d v=>ins v d) d):=by
  intro l
  induction l with
  | nil=>intro d h; exact h
  | cons v l ih=>intro d h; exact ih _ (ZA v d h)
 exact key l [] List.Pairwise.nil
theorem Jw (l:List DVal) (x:DVal):x∈CO l↔x∈l:=by
 have key:∀ (l d:List DVal),x∈l.foldl (fun d v=>ins v d) d↔x∈l∨x∈d:=by
  intro l
  induction l with
  | nil=>intro d; simp
  | cons v l ih =>
   intro d
   rw[abj,ih,kX,bW]
   constructor
   ·rintro(h | h | h)
    ·exact .inl (.inr h)
    ·exact .inl (.inl h)
    ·exact .inr h
   ·rintro((h | h) | h)
    ·exact .inr (.inl h)
    ·exact .inl h
    ·exact .inr (.inr h)
 simpa [CO] using key l []
theorem fQ:∀ {a b:List DVal},JA a→JA b→(∀ x,x∈a↔x∈b)→a=b
 | [],[],_,_,_=>rfl
 | [],y::b,_,_,h=>by have:=(h y).2 (by simp); simp at this
 | x::a,[],_,_,h=>by have:=(h x).1 (by simp); simp at this
 | x::a,y::b,ha,hb,h=>by
  obtain⟨a1,a2⟩:=abC.1 ha
  obtain⟨b1,b2⟩:=abC.1 hb
  have hxy:x=y:=by
   rcases bW.1 ((h x).1 (by simp)) with g | g
   ·exact g
   ·rcases bW.1 ((h y).2 (by simp)) with k | k
    ·exact k.symm
    ·have:=MF (b1 x g) (a1 y k)
     rw[Qc] at this; cases this
  subst hxy
  have:a=b:=fQ a2 b2 fun z=>by
   have hz:=h z
   simp only[bW] at hz
   constructor
   ·intro g
    rcases hz.1 (.inr g) with k | k
    ·subst k; have:=a1 _ g; rw[Qc] at this; cases this
    ·exact k
   ·intro g
    rcases hz.2 (.inr g) with k | k
    ·subst k; have:=b1 _ g; rw[Qc] at this; cases this
    ·exact k
  rw[this]
open Go.Lib
def Dc (v:DVal):List Value:=[.int .i64 v.ty,.int .i64 v.n,.string v.s]
instance:Inhabited DVal:=⟨⟨0,0,ByteArray.empty⟩⟩
instance:DecidableEq DVal:=fun a b=>decidable_of_iff (KX a b=true) (I_ a b)
theorem vP (d:Array DVal) (x:DVal):∀ m,x∈compactUpTo d m↔∃ j,j<m∧d[j]! = x
 | 0=>by simp[compactUpTo]
 | m+1=>by
  rw[compactUpTo_succ,wu,vP d x m]
  constructor
  ·rintro(⟨j,hj,h⟩ | h)
   ·exact⟨j,by omega,h⟩
   ·split at h
    ·exact⟨m,by omega,(aa4.1 h).symm⟩
    ·cases h
  ·rintro⟨j,hj,h⟩
   by_cases e:j=m
   ·subst e
    rcases hk:keeps d j with _ | _
    ·left
     have h0:¬ (j=0∨d[j]!≠d[j-1]!):=by simpa [keeps] using hk
     by_cases h1:j=0
     ·exact absurd (.inl h1) h0
     ·refine⟨j-1,by omega, ?_⟩
      have h2:d[j]! = d[j-1]!:=by
       by_cases h3:d[j]! = d[j-1]!
       ·exact h3
       ·exact absurd (.inr h3) h0
      rw[← h2]; exact h
    ·right
     simp[h]
   ·left
    exact⟨j,by omega,h⟩
theorem fU (d:Array DVal) (hs:∀ i j,i<j→j<d.size→EP d[j]! d[i]! = false):∀ m,m≤d.size→JA (compactUpTo d m)
 | 0,_=>by simp[compactUpTo,JA]
 | m+1,hm=>by
  rw[compactUpTo_succ]
  have ih:=fU d hs m (by omega)
  rcases hk:keeps d m with _ | _
  ·simpa using ih
  ·unfold JA
   simp only[aW]
   rw[List.pairwise_append]
   refine⟨ih,by simp,fun x hx y hy=>?_⟩
   rw[aa4.1 hy]
   obtain⟨j,hj,rfl⟩:=(vP d x m).1 hx
   have h1:=hs j m hj (by omega)
   rcases Qd d[j]! d[m]! with h | h | h
   ·exact h
   ·exfalso
    have h0:m=0∨d[m]!≠d[m-1]!:=by simpa [keeps] using hk
    rcases h0 with h0 | h0
    ·omega
    ·apply h0
     rcases bf j (m-1) with h4 | h4
     ·have h2:=hs j (m-1) h4 (by omega)
      have h3:=hs (m-1) m (by omega) (by omega)
      rw[h] at h2
      rcases Qd d[m]! d[m-1]! with h5 | h5 | h5
      ·rw[h3] at h5; cases h5
      ·exact h5
      ·rw[h2] at h5; cases h5
     ·have:j=m-1:=by omega
      subst this
      exact h.symm
   ·rw[h1] at h; cases h
theorem ADZ {l:List DVal} {d:Array DVal} (hp:Go.Sort.PermIn 0 l.length l.toArray d) (hs:∀ i j,i<j→j<d.size→EP d[j]! d[i]! = false):compactUpTo d d.size=CO l:=by
 refine fQ (fU d hs _ (aK _)) (qj l) fun x=>?_
 rw[Jw,vP]
 obtain⟨h1,_,h3⟩:=hp
 have h1':d.size=l.length:=by simpa using h1
 have h4:d.toList.Perm l:=by
  have e1:d.extract 0 l.length=d:=by rw[← h1']; simp
  rw[e1] at h3
  simpa using h3
 rw[← h4.mem_iff]
 constructor
 ·rintro⟨j,hj,rfl⟩
  rw[getElem!_pos d j hj]
  simp
 ·intro hx
  obtain⟨j,hj,rfl⟩:=aaW.1 hx
  have hj':j<d.size:=by simpa using hj
  exact⟨j,hj',by rw[getElem!_pos d j hj']; simp⟩
theorem ADa (op:BinOp) (a b:Operand) (x y:DVal) (w:World):Sem.run prog (eqGuard op 119 a b (.agg (Dc x).toArray) (.agg (Dc y).toArray)) w = .ok () w:=by
 have hg:prog.eqGuardType prog.depth 119=false:=by kernel_rfl
 simp[eqGuard,run_program,hg]
theorem eqB (x y:DVal) (w:World):Sem.run prog (binOp .eql 119 (.agg (Dc x).toArray) (.agg (Dc y).toArray)) w = .ok (.bool (KX x y)) w∧Sem.run prog (binOp .neq 119 (.agg (Dc x).toArray) (.agg (Dc y).toArray)) w = .ok (.bool (!KX x y)) w:=by
 have h:=oM (P:=prog) (w:=w) (T:=119) (ks:=[.int .i64,.int .i64,.str]) (cs:=x.c) (ds:=y.c) (r:=KX x y) (us:=Dc x) (vs:=Dc y) (by kernel_rfl) (by simp[DVal.c_eq,FB,Iu,KX]) (fun k c hk=>by
  match k with
  | 0 | 1 | 2=>cases hk; rfl
  | k+3=>simp[DVal.c_eq] at hk) (fun k c hk=>by
  match k with
  | 0 | 1 | 2=>cases hk; rfl
  | k+3=>simp[DVal.c_eq] at hk) (x:=.tmp 0) (y:=.tmp 0)
 constructor
 ·have:=h.1
  rw[Sem.run_bind,ADa,Result.andThen_ok] at this
  exact this
 ·have:=h.2
  rw[Sem.run_bind,ADa,Result.andThen_ok] at this
  exact this
theorem yF (x y:DVal):decide (x=y)=KX x y:=by
 rcases h:KX x y with _ | _
 ·simp only[aaN]
  intro e
  rw[← I_] at e
  rw[h] at e; cases e
 ·simp only[aY]
  exact(I_ x y).1 h
theorem AIQ (x y:DVal) (w:World):Sem.run prog (binOp .eql 119 (.agg (Dc x).toArray) (.agg (Dc y).toArray)) w = .ok (.bool (decide (x=y))) w:=by rw[yF]; exact(eqB x y w).1
theorem AIR (x y:DVal) (w:World):Sem.run prog (binOp .neq 119 (.agg (Dc x).toArray) (.agg (Dc y).toArray)) w = .ok (.bool (!decide (x=y))) w:=by rw[yF]; exact(eqB x y w).2
open Go.Proofs Go.Shelf Go.RowKit Go.Sort
theorem yG (x y:DVal) (W:World):Calls prog 335 #[.agg #[.int .i64 x.ty,.int .i64 x.n,.string x.s],.agg #[.int .i64 y.ty,.int .i64 y.n,.string y.s]] W fun e w'=>e = .returned (.bool (EP x y))∧∃ q os',w'=grow (W.drewN q) os':=by
 obtain⟨xt,xn,xs⟩:=x
 obtain⟨yt,yn,ys⟩:=y
 have hr:EP ⟨xt,xn,xs⟩ ⟨yt,yn,ys⟩=if xt=yt then(if xn=yn then Op.bytesLess xs.toList ys.toList else decide (xn<yn)) else decide (xt<yt):=by
  simp only[EP]
  by_cases h1:xt=yt<;>by_cases h2:xn=yn<;>simp[h1,h2]
 by_cases h1:xt=yt
 ·subst h1
  by_cases h2:xn=yn
  ·subst h2
   rw[hr,aX rfl,aX rfl]
   clear hr
   go_enter func335,ntmps335
   go_wp2
   go_ret
   exact⟨rfl,0,_,by rw[alloc_eq_grow,alloc_eq_grow,grow_grow]; rfl⟩
  ·rw[hr,aX rfl,aV h2]
   clear hr
   go_enter func335,ntmps335
   go_wp2
   go_ret
   exact⟨rfl,0,_,by rw[alloc_eq_grow,alloc_eq_grow,grow_grow]; rfl⟩
 ·rw[hr,aV h1]
  clear hr
  go_enter func335,ntmps335
  go_wp2
  go_ret
  exact⟨rfl,0,_,by rw[alloc_eq_grow,alloc_eq_grow,grow_grow]; rfl⟩
theorem ZB (w:World) (os:Array Obj):∀ n,(grow w os).drewN n=grow (w.drewN n) os
 | 0=>rfl
 | n+1=>by
  show ((grow w os).drewN n).drew=_
  rw[ZB w os n]; rfl
theorem XB (w:World) (os os':Array Obj) (n:Nat):grow ((grow w os).drewN n) os'=grow (w.drewN n) (os++os'):=by rw[ZB,grow_grow]
theorem DN {W w':World} {A B:Array Value} {T:TypeId} (hw:∃ q os',w'=grow (((W.alloc (.cells A T)).alloc (.cells B T)).drewN q) os') (j:Nat) (v:Value) :
  (A[j]?=some v→w'.cell? ⟨W.heap.size,j,none⟩=some v)∧(B[j]?=some v→w'.cell? ⟨W.heap.size+1,j,none⟩=some v):=by
 obtain⟨q,os',rfl⟩:=hw
 have s1:(W.alloc (.cells A T)).heap.size=W.heap.size+1:=by show (W.heap.push _).size=_; simp
 have s2:((W.alloc (.cells A T)).alloc (.cells B T)).heap.size=W.heap.size+2:=by show ((W.heap.push _).push _).size=_; simp
 constructor
 ·intro h
  rw[Go.Sort.cell?_grow _ _ _ (by rw[World.heap_drewN,s2]; simp),World.cell?_drewN,alloc_eq_grow (W.alloc _),Go.Sort.cell?_grow _ _ _ (by rw[s1]; simp)]
  show (match (W.heap.push (Obj.cells A T))[W.heap.size]? with | some (.cells cs _ _)=>cs[j]? | _=>none)=some v
  simp[h]
 ·intro h
  rw[Go.Sort.cell?_grow _ _ _ (by rw[World.heap_drewN,s2]; simp),World.cell?_drewN,← s1]
  generalize W.alloc (.cells A T)=W1
  show (match (W1.heap.push (Obj.cells B T))[W1.heap.size]? with | some (.cells cs _ _)=>cs[j]? | _=>none)=some v
  simp[h]
theorem Jy {w0 w1 w2:World} (h1:∃ q os,w1=Go.Sort.grow (w0.drewN q) os) (h2:∃ q os,w2=Go.Sort.grow (w1.drewN q) os):∃ q os,w2=Go.Sort.grow (w0.drewN q) os:=by
 obtain⟨q1,o1,rfl⟩:=h1
 obtain⟨q2,o2,rfl⟩:=h2
 exact⟨q1+q2,o1++o2,by rw[XB,World.drewN_drewN]⟩
theorem VP (W:World) (A B:Obj):∃ q os,(W.alloc A).alloc B=Go.Sort.grow (W.drewN q) os:=⟨0,#[A] ++ #[B],by rw[alloc_eq_grow,alloc_eq_grow,grow_grow]; rfl⟩
def vS (x y:DVal):Int:=if EP x y=true then -1 else if EP y x=true then 1 else 0
theorem AFO (x y:DVal) (W:World):Calls prog 331 #[.agg #[.int .i64 x.ty,.int .i64 x.n,.string x.s],.agg #[.int .i64 y.ty,.int .i64 y.n,.string y.s]] W fun e w'=>e = .returned (.int .i64 (vS x y))∧∃ q os',w'=grow (W.drewN q) os':=by
 have h1:=yG x y
 have h2:=yG y x
 unfold vS
 generalize EP x y=a at h1 ⊢
 generalize EP y x=b at h2 ⊢
 obtain⟨xt,xn,xs⟩:=x
 obtain⟨yt,yn,ys⟩:=y
 cases a with
 | true =>
  simp only[aW]
  go_enter func331,ntmps331
  go_wp2_with (go_at_call 335; first | (have hm:=HW.out; clear hm; refine(h2 _).mono ?_; rintro e w' ⟨rfl,hw2⟩) | (refine(h1 _).mono ?_; rintro e w' ⟨rfl,hw⟩; have c0:=(DN hw 0 (.int .i64 xt)).1 rfl; have c1:=(DN hw 1 (.int .i64 xn)).1 rfl; have c2:=(DN hw 2 (.string xs)).1 rfl; have d0:=(DN hw 0 (.int .i64 yt)).2 rfl; have d1:=(DN hw 1 (.int .i64 yn)).2 rfl; have d2:=(DN hw 2 (.string ys)).2 rfl; have HW:Aside _:=hw; clear hw))
  go_ret
  exact⟨rfl,Jy (VP _ _ _) HW⟩
 | false =>
  cases b with
  | true =>
   simp only[aW,aI,az]
   go_enter func331,ntmps331
   go_wp2_with (go_at_call 335; first | (have hm:=HW.out; clear hm; refine(h2 _).mono ?_; rintro e w' ⟨rfl,hw2⟩) | (refine(h1 _).mono ?_; rintro e w' ⟨rfl,hw⟩; have c0:=(DN hw 0 (.int .i64 xt)).1 rfl; have c1:=(DN hw 1 (.int .i64 xn)).1 rfl; have c2:=(DN hw 2 (.string xs)).1 rfl; have d0:=(DN hw 0 (.int .i64 yt)).2 rfl; have d1:=(DN hw 1 (.int .i64 yn)).2 rfl; have d2:=(DN hw 2 (.string ys)).2 rfl; have HW:Aside _:=hw; clear hw))
   go_ret
   exact⟨rfl,Jy (Jy (VP _ _ _) HW) hw2⟩
  | false =>
   simp only[aI,az]
   go_enter func331,ntmps331
   go_wp2_with (go_at_call 335; first | (have hm:=HW.out; clear hm; refine(h2 _).mono ?_; rintro e w' ⟨rfl,hw2⟩) | (refine(h1 _).mono ?_; rintro e w' ⟨rfl,hw⟩; have c0:=(DN hw 0 (.int .i64 xt)).1 rfl; have c1:=(DN hw 1 (.int .i64 xn)).1 rfl; have c2:=(DN hw 2 (.string xs)).1 rfl; have d0:=(DN hw 0 (.int .i64 yt)).2 rfl; have d1:=(DN hw 1 (.int .i64 yn)).2 rfl; have d2:=(DN hw 2 (.string ys)).2 rfl; have HW:Aside _:=hw; clear hw))
   go_ret
   exact⟨rfl,Jy (Jy (VP _ _ _) HW) hw2⟩
theorem UX (x y:DVal):ltOf vS x y=EP x y:=by
 unfold ltOf vS
 by_cases h1:EP x y=true
 ·simp[h1]
 ·by_cases h2:EP y x=true<;>simp[h1,h2]
theorem AIS:SWO (ltOf vS) where
 irrefl x:=by rw[UX]; exact Qc x
 trans x y z h1 h2:=by rw[UX] at *; exact MF h1 h2
 ntrans x y z h1 h2:=by
  rw[UX] at *
  rw[Bool.eq_false_iff] at *
  intro h3
  rcases Qd x y with h | h | h
  ·exact h1 h
  ·subst h; exact h2 h3
  ·exact h2 (MF h h3)
theorem ADb (blk off size:Nat) (w:World):CmpLays prog 331 #[] Dc 3 vS blk off size w:=fun _ _ _ _ x y=>AFO x y _
def ql:Go.Shelf.Ren:=⟨fun | 6=>330 | 15=>317 | 14=>334 | 28=>328 | 29=>329 | 20=>337 | 21=>338 | 22=>339 | 23=>340 | 24=>341 | 25=>342 | 26=>343 | 27=>344 | 46=>345 | 47=>346 | 48=>347 | 49=>348 | 50=>349 | 57=>350 | n=>n,fun | 22=>118 | 24=>119 | 25=>294 | 3=>3 | 39=>287 | 0=>0 | 53=>290 | 55=>292 | 4=>4 | 46=>298 | 45=>297 | 50=>302 | 5=>5 | 9=>9 | 66=>304 | 70=>308 | 76=>310 | 77=>311 | n=>n,fun n=>n⟩
theorem yH:SlLaysF0.n6 prog ql where
 mixed:=by kernel_rfl
 f6:=⟨f330.name,jD (by kernel_rfl),func330.trans (congrArg some (by kernel_rfl))⟩
 f14:=⟨f334.name,jD (by kernel_rfl),func334.trans (congrArg some (by kernel_rfl))⟩
 f15:=func317.trans (congrArg some (by kernel_rfl))
 f20:=⟨f337.name,jD (by kernel_rfl),func337.trans (congrArg some (by kernel_rfl))⟩
 f21:=⟨f338.name,jD (by kernel_rfl),func338.trans (congrArg some (by kernel_rfl))⟩
 f22:=⟨f339.name,jD (by kernel_rfl),func339.trans (congrArg some (by kernel_rfl))⟩
 f23:=⟨f340.name,jD (by kernel_rfl),func340.trans (congrArg some (by kernel_rfl))⟩
 f24:=⟨f341.name,jD (by kernel_rfl),func341.trans (congrArg some (by kernel_rfl))⟩
 f25:=⟨f342.name,jD (by kernel_rfl),func342.trans (congrArg some (by kernel_rfl))⟩
 f26:=⟨f343.name,jD (by kernel_rfl),func343.trans (congrArg some (by kernel_rfl))⟩
 f27:=⟨f344.name,jD (by kernel_rfl),func344.trans (congrArg some (by kernel_rfl))⟩
 f28:=func328.trans (congrArg some (by kernel_rfl))
 f29:=func329.trans (congrArg some (by kernel_rfl))
 f46:=⟨f345.name,jD (by kernel_rfl),func345.trans (congrArg some (by kernel_rfl))⟩
 f47:=func346.trans (congrArg some (by kernel_rfl))
 f48:=func347.trans (congrArg some (by kernel_rfl))
 f49:=⟨f348.name,jD (by kernel_rfl),func348.trans (congrArg some (by kernel_rfl))⟩
 f50:=⟨f349.name,jD (by kernel_rfl),func349.trans (congrArg some (by kernel_rfl))⟩
 f57:=⟨f350.name,jD (by kernel_rfl),func350.trans (congrArg some (by kernel_rfl))⟩
 t0:=underlying0
 a0:=isAgg0
 z0:=sizeOf0
 v0:=zeroValue0
 t3:=underlying3
 a3:=isAgg3
 z3:=sizeOf3
 v3:=zeroValue3
 t4:=underlying4
 a4:=isAgg4
 z4:=sizeOf4
 v4:=zeroValue4
 t5:=underlying5
 a5:=isAgg5
 z5:=sizeOf5
 v5:=zeroValue5
 t9:=underlying9
 a9:=isAgg9
 z9:=sizeOf9
 v9:=zeroValue9
 t22:=underlying118
 a22:=isAgg118
 z22:=sizeOf118
 v22:=zeroValue118
 t25:=underlying294
 a25:=isAgg294
 z25:=sizeOf294
 v25:=zeroValue294
 t39:=underlying287
 a39:=isAgg287
 z39:=sizeOf287
 v39:=zeroValue287
 t45:=underlying297
 a45:=isAgg297
 z45:=sizeOf297
 v45:=zeroValue297
 t46:=underlying298
 a46:=isAgg298
 z46:=sizeOf298
 v46:=zeroValue298
 t50:=underlying302
 a50:=isAgg302
 z50:=sizeOf302
 v50:=zeroValue302
 t53:=underlying290
 a53:=isAgg290
 z53:=sizeOf290
 v53:=zeroValue290
 t55:=underlying292
 a55:=isAgg292
 z55:=sizeOf292
 v55:=zeroValue292
 t66:=underlying304
 a66:=isAgg304
 z66:=sizeOf304
 v66:=zeroValue304
 t70:=underlying308
 a70:=isAgg308
 z70:=sizeOf308
 v70:=zeroValue308
 t76:=underlying310
 a76:=isAgg310
 z76:=sizeOf310
 v76:=zeroValue310
 t77:=underlying311
 a77:=isAgg311
 z77:=sizeOf311
 v77:=zeroValue311
end Go.Proofs.YtnchiiikacemmaaGreat
