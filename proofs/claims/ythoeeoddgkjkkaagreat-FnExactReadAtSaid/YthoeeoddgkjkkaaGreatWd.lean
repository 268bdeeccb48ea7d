/- Plain law: columns of values in bytes: runs, dictionaries, frames; both ways to read them say the same. -/
import Derived.Test.YthoeeoddgkjkkaaGreatWb
import Derived.Test.YthoeeoddgkjkkaaGreatAa
import Derived.Test.YthoeeoddgkjkkaaGreatAx
namespace Go.Proofs.YthoeeoddgkjkkaaGreat
set_option linter.unusedSimpArgs false
set_option linter.unusedVariables false
open Go.Vm
set_option maxHeartbeats 2000000
theorem je {b:List Int} {k:Int} {l l':List DVal} {e:List Int} (h:again b k l e=some l'):l'=l∧1≤k∧k≤64∧(l.length:Int)=k∧b=e:=by
 unfold again at h
 split at h
 ·rename_i h1
  simp only[Option.some.injEq] at h
  exact⟨h.symm,h1⟩
 ·cases h
theorem UB {v:DVal} (h:BD v=true):v.ty=1∨v.ty=2:=by
 unfold BD at h
 split at h
 ·left; assumption
 ·simp only[Bool.and_eq_true,beq_iff_eq] at h
  exact .inr h.1.1.1
theorem mY (l:List DVal):typeOf l=0∨typeOf l=1∨typeOf l=2:=by
 cases l with
 | nil=>exact .inl rfl
 | cons v r =>
  show (if(v::r).length≤64∧∀ x∈(v::r),BD x=true∧x.ty=v.ty then v.ty else 0)=0∨(if(v::r).length≤64∧∀ x∈(v::r),BD x=true∧x.ty=v.ty then v.ty else 0)=1∨(if(v::r).length≤64∧∀ x∈(v::r),BD x=true∧x.ty=v.ty then v.ty else 0)=2
  split
  ·rename_i h
   exact .inr (UB (h.2 v (by simp)).1)
  ·exact .inl rfl
def runs:List DVal→List (DVal×Int)
 | []=>[]
 | v::l=>match runs l with
  | []=>[(v,1)]
  | (x,k)::r=>if Ik v x=true then(x,k+1)::r else(v,1)::(x,k)::r
def FO:List (DVal×Int)→Nat→Option (List DVal)
 | [],_=>some []
 | (v,k)::r,n=>if k<1∨k>64-n then none else(FO r (n+k.toNat)).map fun l=>List.replicate k.toNat v++l
def spread (r:List (DVal×Int)):List DVal:=(FO r 0).getD []
noncomputable def Dt (l:List DVal):List Int:=if typeOf l=0 then [] else Dh (runs l).length++((runs l).map fun r=>Dh r.2++PU r.1).flatten
noncomputable def GN (b:List Int) (ty:Int):Nat→Nat→Option (List (DVal×Int))
 | 0,_=>some []
 | n+1,p=>match A8 b p with
  | none=>none
  | some (m,q)=>match D6 b q ty with
   | none=>none
   | some (v,q')=>(GN b ty n q').map fun r=>(v,m)::r
noncomputable def DI (b:List Int) (ty k:Int):Option (List DVal):=match A8 b 0 with
 | none=>none
 | some (n,p)=>if 1≤n∧n≤64 then match GN b ty n.toNat p with
   | none=>none
   | some r=>again b k (spread r) (Dt (spread r))
  else none
def Dj (b:List Int) (n:Int):Int:=if n<0 then 0 else match b[(n/8).toNat]? with
 | some c=>c/2 ^ (n%8).toNat%2
 | none=>0
def D7 (k w:Int):Int:=if(0≤k∧k≤64)∧0≤w∧w≤31 then(k*w+7)/8 else 0
def I5 (b:List Int) (o:Int):Nat→Int
 | 0=>0
 | j+1=>I5 b o j+Dj b (o+j)*2 ^ j
noncomputable def unpack (b:List Int) (w k:Int):Option (List Int):=
 if((0≤w∧w≤31)∧(0≤k∧k≤64)∧(b.length:Int)=D7 k w)∧(∀ n∈List.range (8*b.length),k*w≤(n:Int)→Dj b (n:Int)=0) then some ((List.range k.toNat).map fun(i:Nat)=>I5 b ((i:Int)*w) w.toNat) else none
theorem I7 {b:List Int} {w k:Int} {o:List Int} (h:unpack b w k=some o):(o.length:Int)=k:=by
 unfold unpack at h
 split at h
 ·rename_i h1
  simp only[Option.some.injEq] at h
  subst h
  simp only[List.length_map,List.length_range]
  omega
 ·cases h
def EX:Nat→Int→Int
 | 0,_=>0
 | f+1,x=>if x>0 then EX f (x/2)+1 else 0
def Af (n:Int):Int:=if 0≤n∧n≤2147483647 then EX 32 n else 0
def BU (l:List Int):Int:=l.foldl (fun w n=>max w (Af n)) 0
def DZ (l:List Int) (w:Int) (n:Nat):Int:=match l[n/w.toNat]? with
 | some x=>x/2 ^ (n%w.toNat)%2
 | none=>0
def EL (l:List Int) (w:Int) (m:Nat):Nat→Int
 | 0=>0
 | t+1=>EL l w m t+DZ l w (8*m+t)*2 ^ t
noncomputable def DL (l:List Int) (w:Int):List Int:=
 if(0≤w∧w≤31)∧∀ n∈l,(0≤n∧n≤2147483647)∧Af n≤w then(List.range ((l.length*w.toNat+7)/8)).map fun m=>EL l w m 8 else []
def ins (v:DVal):List DVal→List DVal
 | []=>[v]
 | x::r=>if Bi x v=true then x::ins v r else if Ik x v=true then x::r else v::x::r
def BV (l:List DVal):List DVal:=l.foldl (fun d v=>ins v d) []
theorem gU (v:DVal):∀ d:List DVal,(ins v d).length≤d.length+1
 | []=>Nat.le_refl _
 | x::r=>by
  simp only[ins]
  have:=gU v r
  repeat' split
  all_goals simp only[List.length_cons]; omega
theorem Jv (l:List DVal):(BV l).length≤l.length:=by
 have key:∀ (l d:List DVal),(l.foldl (fun d v=>ins v d) d).length≤d.length+l.length:=by
  intro l
  induction l with
  | nil=>intro d; simp
  | cons v l ih =>
   intro d
   have:=gU v d
   have:=ih (ins v d)
   simp only[List.foldl_cons,List.length_cons]; omega
 simpa [BV] using key l []
def placeOf (v:DVal):List DVal→Nat→Option Int
 | [],_=>none
 | x::r,i=>if Ik x v=true then some (i:Int) else placeOf v r (i+1)
def places (d:List DVal):List DVal→Option (List Int)
 | []=>some []
 | v::l=>match placeOf v d 0,places d l with
  | some i,some r=>some (i::r)
  | _,_=>none
def picked (d:List DVal):List Int→Option (List DVal)
 | []=>some []
 | i::l=>if 0≤i then match d[i.toNat]?,picked d l with
   | some v,some r=>some (v::r)
   | _,_=>none
  else none
theorem I8 {d:List DVal}:∀ {o:List Int} {l:List DVal},picked d o=some l→l.length=o.length
 | [],l,h=>by simp only[picked,Option.some.injEq] at h; subst h; rfl
 | i::o,l,h=>by
  simp only[picked] at h
  split at h
  ·split at h
   ·rename_i v r h1 h2
    simp only[Option.some.injEq] at h
    subst h
    simp[I8 h2]
   ·cases h
  ·cases h
noncomputable def Cm (l:List DVal):List Int:=if typeOf l=0 then [] else Dh (BV l).length++(Gw (BV l)++DL ((places (BV l) l).getD []) (Af ((BV l).length-1)))
theorem mZ:∀ (f g:Nat) (x y:Int) (r s:List Int),0≤x→x<128 ^ (f+1)→0≤y→y<128 ^ (g+1)→UA f x++r=UA g y++s→x=y:=by
 have hd:∀ (g:Nat) (y:Int),0≤y→y<128 ^ (g+1)→∃ c t,UA g y=c::t∧(y<128→c=y∧t = [])∧(y≥128→∃ g',g=g'+1∧c=y%128+128∧t=UA g' (y/128)):=by
  intro g y h0 h1
  cases g with
  | zero=>exact⟨y,[],rfl,fun _=>⟨rfl,rfl⟩,fun h=>by simp at h1; omega⟩
  | succ g =>
   by_cases h:y≥128
   ·exact⟨_,_,by rw[UA,if_pos h],fun h2=>by omega,fun _=>⟨g,rfl,rfl,rfl⟩⟩
   ·exact⟨y,[],by rw[UA,if_neg h],fun _=>⟨rfl,rfl⟩,fun h2=>by omega⟩
 intro f
 induction f with
 | zero =>
  intro g x y r s hx hx2 hy hy2 h
  obtain⟨c,t,e1,e2,e3⟩:=hd g y hy hy2
  simp only[Int.pow_succ,Int.pow_zero,Int.one_mul,Nat.zero_add] at hx2
  rw[e1] at h
  simp only[UA,List.cons_append,List.nil_append,List.cons.injEq] at h
  by_cases h2:y<128
  ·have:=(e2 h2).1; omega
  ·obtain⟨g',_,e4,_⟩:=e3 (by omega)
   omega
 | succ f ih =>
  intro g x y r s hx hx2 hy hy2 h
  obtain⟨c,t,e1,e2,e3⟩:=hd (f+1) x hx hx2
  obtain⟨c',t',d1,d2,d3⟩:=hd g y hy hy2
  rw[e1,d1] at h
  simp only[List.cons_append,List.cons.injEq] at h
  obtain⟨hc,ht⟩:=h
  by_cases h1:x<128
  ·by_cases h2:y<128
   ·have:=(e2 h1).1; have:=(d2 h2).1; omega
   ·obtain⟨g',_,e4,_⟩:=d3 (by omega)
    have:=(e2 h1).1; omega
  ·obtain⟨f',e5,e6,e7⟩:=e3 (by omega)
   by_cases h2:y<128
   ·have:=(d2 h2).1; omega
   ·obtain⟨g',d5,d6,d7⟩:=d3 (by omega)
    have hf:f'=f:=by omega
    subst hf
    subst d5
    rw[e7,d7] at ht
    have e8:x/128<128 ^ (f'+1):=by
     rw[Int.pow_succ] at hx2
     exact Int.ediv_lt_of_lt_mul (by omega) hx2
    have e9:y/128<128 ^ (g'+1):=by
     rw[Int.pow_succ] at hy2
     exact Int.ediv_lt_of_lt_mul (by omega) hy2
    have:=ih g' (x/128) (y/128) r s (by omega) e8 (by omega) e9 ht
    omega
theorem QV {n:Int} (h : -1000000000≤n) (h2:n≤1000000000):0≤zig n∧zig n<128 ^ 5:=by
 unfold zig
 have:(128:Int) ^ 5=34359738368:=by decide
 split<;>constructor<;>omega
theorem pz {n m:Int} (h:zig n=zig m):n=m:=by
 unfold zig at h
 split at h<;>split at h<;>omega
theorem jf {n m:Int} {r s:List Int} (hn : -1000000000≤n∧n≤1000000000) (hm : -1000000000≤m∧m≤1000000000) (h:Dh n++r=Dh m++s):n=m:=
 pz (mZ 4 4 _ _ r s (QV hn.1 hn.2).1 (QV hn.1 hn.2).2 (QV hm.1 hm.2).1 (QV hm.1 hm.2).2 h)
noncomputable def D8 (b:List Int) (ty k:Int):Option (List DVal):=match A8 b 0 with
 | none=>none
 | some (n,p)=>if(1≤k∧k≤64)∧1≤n∧n≤k then match BJ b ty n.toNat p with
   | none=>none
   | some (d,q)=>match unpack (b.drop q) (Af (n-1)) k with
    | none=>none
    | some o=>match picked d o with
     | none=>none
     | some l=>if Cm l=b then some l else none
  else none
noncomputable def Gx (b:List Int) (ty k:Int):Option (List DVal):=match A8 b 0 with
 | none=>none
 | some (n,p)=>if 1≤n∧n≤64 then match BJ b ty n.toNat p with
   | none=>none
   | some (d,q)=>match unpack (b.drop q) (Af (n-1)) k with
    | none=>none
    | some o=>again b k ((picked d o).getD []) (Cm ((picked d o).getD []))
  else none
theorem PV {b:List Int} (hb:AY b) {n:Int} {p:Nat} (h:A8 b 0=some (n,p)):(-1000000000≤n∧n≤1000000000)∧b=Dh n++b.drop p∧b≠ []:=by
 obtain⟨_,h2,h3,h4,h5,h6⟩:=FH hb h
 refine⟨⟨h4,h5⟩, ?_, ?_⟩
 ·have e:b.take p=Dh n:=by simpa using h6
  rw[← e]; simp
 ·intro e; rw[e] at h3; simp at h3; omega
theorem UC {b:List Int} (hb:AY b) (ty k:Int):Gx b ty k=D8 b ty k:=by
 unfold Gx D8
 cases hn:A8 b 0 with
 | none=>rfl
 | some x =>
  obtain⟨n,p⟩:=x
  obtain⟨hnr,hbn,hne⟩:=PV hb hn
  dsimp only
  by_cases h1:1≤n∧n≤64
  ·rw[if_pos h1]
   cases hd:BJ b ty n.toNat p with
   | none=>simp
   | some y =>
    obtain⟨d,q⟩:=y
    dsimp only
    cases hu:unpack (b.drop q) (Af (n-1)) k with
    | none=>simp
    | some o =>
     have hol:=I7 hu
     dsimp only
     by_cases h2:(1≤k∧k≤64)∧1≤n∧n≤k
     ·rw[if_pos h2]
      cases hp:picked d o with
      | none =>
       simp only[Option.getD_none,again]
       rw[if_neg]
       simp only[List.length_nil]; omega
      | some l =>
       have:=I8 hp
       simp only[Option.getD_some,again]
       by_cases h3:Cm l=b
       ·rw[if_pos h3,if_pos ⟨h2.1.1,h2.1.2,by omega,h3.symm⟩]
       ·rw[if_neg h3,if_neg fun h4=>h3 h4.2.2.2.symm]
     ·rw[if_neg h2]
      unfold again
      rw[if_neg]
      rintro⟨k1,k2,k3,k4⟩
      have hnk:k<n:=by omega
      generalize hl:(picked d o).getD []=l at k3 k4
      unfold Cm at k4
      split at k4
      ·exact hne k4
      ·have:=Jv l
       have e:=jf hnr ⟨by omega,by omega⟩ (hbn.symm.trans k4)
       omega
  ·rw[if_neg h1,if_neg (by omega)]
def BO:List DVal→Int
 | []=>0
 | v::l=>l.foldl (fun n x=>min n x.n) v.n
noncomputable def offsets (l:List DVal):List Int:=if typeOf l≠1 then [] else l.map fun v=>v.n-BO l
noncomputable def Bc (l:List DVal):List Int:=if typeOf l≠1 then [] else Dh (BO l)++(BU (offsets l)::DL (offsets l) (BU (offsets l)))
def raised (base:Int) (l:List Int):Option (List DVal):=
 if(-1000000000≤base∧base≤1000000000)∧∀ x∈l,(0≤x∧x≤2000000000)∧base+x≤1000000000 then some (l.map fun x=>⟨1,base+x,ByteArray.empty⟩) else none
theorem KL {base:Int} {o:List Int} {l:List DVal} (h:raised base o=some l):l.length=o.length:=by
 unfold raised at h
 split at h
 ·simp only[Option.some.injEq] at h
  subst h; simp
 ·cases h
noncomputable def DN (b:List Int) (k:Int):Option (List DVal):=match A8 b 0 with
 | none=>none
 | some (base,p)=>match b[p]? with
  | none=>none
  | some w=>if 1≤k∧k≤64 then match unpack (b.drop (p+1)) w k with
    | none=>none
    | some o=>match raised base o with
     | none=>none
     | some l=>if Bc l=b then some l else none
   else none
noncomputable def Fz (b:List Int) (k:Int):Option (List DVal):=match A8 b 0 with
 | none=>none
 | some (base,p)=>match b[p]? with
  | none=>none
  | some w=>match unpack (b.drop (p+1)) w k with
    | none=>none
    | some o=>again b k ((raised base o).getD []) (Bc ((raised base o).getD []))
theorem RU (b:List Int) (k:Int):Fz b k=DN b k:=by
 unfold Fz DN
 cases hn:A8 b 0 with
 | none=>rfl
 | some x =>
  obtain⟨base,p⟩:=x
  dsimp only
  cases hw:b[p]? with
  | none=>rfl
  | some w =>
   dsimp only
   cases hu:unpack (b.drop (p+1)) w k with
   | none=>simp
   | some o =>
    have hol:=I7 hu
    dsimp only
    by_cases h2:1≤k∧k≤64
    ·rw[if_pos h2]
     cases hp:raised base o with
     | none =>
      simp only[Option.getD_none,again]
      rw[if_neg]
      simp only[List.length_nil]; omega
     | some l =>
      have:=KL hp
      simp only[Option.getD_some,again]
      by_cases h3:Bc l=b
      ·rw[if_pos h3,if_pos ⟨h2.1,h2.2,by omega,h3.symm⟩]
      ·rw[if_neg h3,if_neg fun h4=>h3 h4.2.2.2.symm]
    ·rw[if_neg h2]
     unfold again
     rw[if_neg fun h3=>h2 ⟨h3.1,h3.2.1⟩]
end Go.Proofs.YthoeeoddgkjkkaaGreat
/- Plain law: columns and groups in bytes: both ways to read them say the same. -/
namespace Go.Proofs.YthoeeoddgkjkkaaGreat
set_option linter.unusedSimpArgs false
set_option linter.unusedVariables false
open Go.Vm
set_option maxHeartbeats 2000000
noncomputable def DJ (kind:Int) (l:List DVal):List Int:=if kind=0 then DK l else if kind=1 then Dt l else if kind=2 then Cm l else if kind=3 then Bc l else []
noncomputable def bk1 (l:List DVal):Int:=if(DJ 1 l).length<(DJ 0 l).length then 1 else 0
noncomputable def bk2 (l:List DVal):Int:=if(DJ 2 l).length<(DJ (bk1 l) l).length then 2 else bk1 l
noncomputable def bk3 (l:List DVal):Int:=if typeOf l=1∧(DJ 3 l).length<(DJ (bk2 l) l).length then 3 else bk2 l
noncomputable def Aj (l:List DVal):Int:=if typeOf l=0 then -1 else bk3 l
noncomputable def Ah (l:List DVal):List Int:=if Aj l<0 then [] else Aj l::DJ (Aj l) l
noncomputable def QW (b:List Int) (ty k:Int):Option (List DVal):=match b with
 | []=>none
 | c::r=>if c=0 then EK r ty k else if c=1 then DI r ty k else if c=2 then D8 r ty k else if c=3 then DN r k else none
noncomputable def Ze (b:List Int) (ty k:Int):Option (List DVal):=match b with
 | []=>none
 | c::r=>if c=0 then Ju r ty k else if c=1 then DI r ty k else if c=2 then Gx r ty k else if c=3 then Fz r k else none
noncomputable def F8 (b:List Int) (ty k:Int):Option (List DVal):=if 1≤ty∧ty≤2 then match QW b ty k with
  | none=>none
  | some l=>if typeOf l=ty∧Ah l=b then some l else none
 else none
noncomputable def Sl (b:List Int) (ty k:Int):Option (List DVal):=if b = [] then none else
 if typeOf ((Ze b ty k).getD [])=ty then again b k ((Ze b ty k).getD []) (Ah ((Ze b ty k).getD [])) else none
theorem gV {b:List Int} (hb:AY b) (ty k:Int):Ze b ty k=QW b ty k:=by
 cases b with
 | nil=>rfl
 | cons c r =>
  have hr:AY r:=fun x hx=>hb x (by simp[hx])
  simp only[Ze,QW,RS hr,UC hr,RU]
theorem dJ {b:List Int} (hb:AY b) {ty k:Int} {l:List DVal} (h:DI b ty k=some l):(1≤k∧k≤64∧(l.length:Int)=k)∧typeOf l≠0:=by
 unfold DI at h
 cases hn:A8 b 0 with
 | none=>simp[hn] at h
 | some x =>
  obtain⟨n,p⟩:=x
  obtain⟨_,_,hne⟩:=PV hb hn
  simp only[hn] at h
  split at h
  ·split at h
   ·cases h
   ·obtain⟨h1,h2,h3,h4,h5⟩:=je h
    rw[h1]
    refine⟨⟨h2,h3,h4⟩,fun h0=>hne ?_⟩
    rw[h5,Dt,if_pos h0]
  ·cases h
theorem dK {b:List Int} (hb:AY b) {ty k:Int} {l:List DVal} (h:D8 b ty k=some l):(1≤k∧k≤64∧(l.length:Int)=k)∧typeOf l≠0:=by
 unfold D8 at h
 cases hn:A8 b 0 with
 | none=>simp[hn] at h
 | some x =>
  obtain⟨n,p⟩:=x
  obtain⟨_,_,hne⟩:=PV hb hn
  simp only[hn] at h
  split at h
  ·rename_i hk
   split at h
   ·cases h
   ·split at h
    ·cases h
    ·rename_i o hu
     split at h
     ·cases h
     ·rename_i l' hp
      split at h
      ·rename_i he
       simp only[Option.some.injEq] at h
       subst h
       have h1:=I7 hu
       have h2:=I8 hp
       refine⟨⟨hk.1.1,hk.1.2,by omega⟩,fun h0=>hne ?_⟩
       rw[← he,Cm,if_pos h0]
      ·cases h
  ·cases h
theorem Zf {b:List Int} (hb:AY b) {k:Int} {l:List DVal} (h:DN b k=some l):(1≤k∧k≤64∧(l.length:Int)=k)∧typeOf l≠0:=by
 unfold DN at h
 cases hn:A8 b 0 with
 | none=>simp[hn] at h
 | some x =>
  obtain⟨n,p⟩:=x
  obtain⟨_,_,hne⟩:=PV hb hn
  simp only[hn] at h
  split at h
  ·cases h
  ·split at h
   ·rename_i hk
    split at h
    ·cases h
    ·rename_i o hu
     split at h
     ·cases h
     ·rename_i l' hp
      split at h
      ·rename_i he
       simp only[Option.some.injEq] at h
       subst h
       have h1:=I7 hu
       have h2:=KL hp
       refine⟨⟨hk.1,hk.2,by omega⟩,fun h0=>hne ?_⟩
       rw[← he,Bc,if_pos (by omega)]
      ·cases h
   ·cases h
theorem Zg {b:List Int} (hb:AY b) {ty k:Int} {l:List DVal} (h:EK b ty k=some l):typeOf l≠0:=by
 unfold EK at h
 split at h
 ·rename_i hk
  cases hv:BJ b ty k.toNat 0 with
  | none=>simp[hv] at h
  | some x =>
   obtain⟨l',q⟩:=x
   simp only[hv] at h
   split at h
   ·simp only[Option.some.injEq] at h
    subst h
    obtain⟨_,_,c3,c4,_⟩:=GZ hb k.toNat 0 _ q (Nat.zero_le _) hv
    have h0:0<l'.length:=by omega
    have hty:=(c4 _ (List.getElem_mem h0)).2.2
    rw[Me (ty:=ty) (by omega) (by omega) fun v hv=>⟨(c4 v hv).1,(c4 v hv).2.1⟩]
    omega
   ·cases h
 ·cases h
theorem Hr {b:List Int} (hb:AY b) {ty k:Int} {l:List DVal} (h:QW b ty k=some l):(1≤k∧k≤64∧(l.length:Int)=k)∧typeOf l≠0:=by
 cases b with
 | nil=>cases h
 | cons c r =>
  have hr:AY r:=fun x hx=>hb x (by simp[hx])
  simp only[QW] at h
  split at h
  ·exact⟨Zd hr h,Zg hr h⟩
  ·split at h
   ·exact dJ hr h
   ·split at h
    ·exact dK hr h
    ·split at h
     ·exact Zf hr h
     ·cases h
theorem jg {b:List Int} (hb:AY b) (ty k:Int):Sl b ty k=F8 b ty k:=by
 unfold Sl F8
 rw[gV hb]
 by_cases h0:b = []
 ·rw[if_pos h0,h0]
  simp[QW]
 ·rw[if_neg h0]
  cases hd:QW b ty k with
  | none =>
   simp only[Option.getD_none]
   have ht:typeOf []=0:=rfl
   rw[ht]
   unfold again
   by_cases h1:(0:Int)=ty
   ·rw[if_pos h1,if_neg (by simp only[List.length_nil]; omega)]
    split<;>rfl
   ·rw[if_neg h1]
    split<;>rfl
  | some l =>
   obtain⟨⟨k1,k2,k3⟩,k4⟩:=Hr hb hd
   simp only[Option.getD_some]
   by_cases h1:typeOf l=ty
   ·rw[if_pos h1,if_pos (by have:=mY l; omega)]
    unfold again
    by_cases h2:Ah l=b
    ·rw[if_pos ⟨k1,k2,k3,h2.symm⟩,if_pos ⟨h1,h2⟩]
    ·rw[if_neg fun h3=>h2 h3.2.2.2.symm,if_neg fun h3=>h2 h3.2]
   ·rw[if_neg h1]
    split
    ·rw[if_neg fun h3=>h1 h3.1]
    ·rfl
theorem QX {b:List Int} (hb:AY b) {ty k:Int} {l:List DVal} (h:F8 b ty k=some l):(l.length:Int)=k∧typeOf l=ty∧Ah l=b:=by
 unfold F8 at h
 split at h
 ·cases hd:QW b ty k with
  | none=>simp[hd] at h
  | some l' =>
   simp only[hd] at h
   split at h
   ·rename_i he
    simp only[Option.some.injEq] at h
    subst h
    exact⟨(Hr hb hd).1.2.2,he⟩
   ·cases h
 ·cases h
def FP (b:List Int):Nat→Nat→Option (List Int×Nat)
 | 0,p=>some ([],p)
 | k+1,p=>match A8 b p with
  | none=>none
  | some (n,q)=>(FP b k q).map fun x=>(n::x.1,x.2)
def Du (b:List Int) (p:Int):Option (List Int×Nat):=match A8 b p with
 | none=>none
 | some (k,q)=>if 0≤k∧k≤64 then FP b k.toNat q else none
def Kv (l:List Int):List Int:=Dh l.length++(l.map Dh).flatten
theorem UD {b:List Int} (hb:AY b):∀ (k p:Nat) (l:List Int) (q:Nat),p≤b.length→FP b k p=some (l,q) →
  p≤q∧q≤b.length∧l.length=k∧(b.drop p).take (q-p)=(l.map Dh).flatten
 | 0,p,l,q,hp,h=>by
  simp only[FP,Option.some.injEq,Prod.mk.injEq] at h
  obtain⟨rfl,rfl⟩:=h
  exact⟨Nat.le_refl _,hp,rfl,by simp⟩
 | k+1,p,l,q,hp,h=>by
  rw[FP] at h
  cases hv:A8 b p with
  | none=>simp[hv] at h
  | some x =>
   obtain⟨v,m⟩:=x
   simp only[hv] at h
   cases hr:FP b k m with
   | none=>simp[hr] at h
   | some y =>
    obtain⟨l',q'⟩:=y
    simp only[hr,Option.map_some,Option.some.injEq,Prod.mk.injEq] at h
    obtain⟨rfl,rfl⟩:=h
    obtain⟨_,a2,a3,_,_,a6⟩:=FH hb hv
    obtain⟨c1,c2,c3,c5⟩:=UD hb k m l' q' a3 hr
    refine⟨by omega,c2,by simp[c3], ?_⟩
    rw[Mc b (p:=p) (q:=m) (r:=q') (by omega) c1,c5]
    have:(b.drop p).take (m-p)=Dh v:=by simpa using a6
    rw[this]; rfl
theorem OV {b:List Int} (hb:AY b) {l:List Int} {q:Nat} (h:Du b 0=some (l,q)):q≤b.length∧l.length≤64∧b.take q=Kv l:=by
 unfold Du at h
 cases hn:A8 b 0 with
 | none=>simp[hn] at h
 | some x =>
  obtain⟨k,p⟩:=x
  simp only[hn] at h
  split at h
  ·rename_i hk
   obtain⟨_,a2,a3,_,_,a6⟩:=FH hb hn
   obtain⟨c1,c2,c3,c5⟩:=UD hb k.toNat p l q a3 h
   refine⟨c2,by omega, ?_⟩
   have e1:=Mc b (p:=0) (q:=p) (r:=q) (Nat.zero_le _) c1
   simp only[List.drop_zero,Nat.sub_zero] at e1
   have e2:b.take p=Dh k:=by simpa using a6
   rw[e1,c5,e2,Kv,c3]
   congr 2
   omega
  ·cases h
noncomputable def U8 (l:List DVal):List Int:=Dh (Ah l).length++Ah l
noncomputable def EZ (b:List Int) (n:Nat):List Int→Nat→Option (List (List DVal)×Nat)
 | [],p=>some ([],p)
 | ty::r,p=>match A8 b p with
  | none=>none
  | some (m,q)=>if 0≤m∧m≤(b.length:Int)-q then match F8 ((b.drop q).take m.toNat) ty n with
    | none=>none
    | some l=>(EZ b n r (q+m.toNat)).map fun x=>(l::x.1,x.2)
   else none
theorem UE {b:List Int} (hb:AY b) (n:Nat):∀ (cols:List Int) (p:Nat) (cs:List (List DVal)) (q:Nat),p≤b.length→EZ b n cols p=some (cs,q) →
  p≤q∧q≤b.length∧cs.length=cols.length∧(∀ c∈cs,c.length=n)∧(b.drop p).take (q-p)=(cs.map U8).flatten
 | [],p,cs,q,hp,h=>by
  simp only[EZ,Option.some.injEq,Prod.mk.injEq] at h
  obtain⟨rfl,rfl⟩:=h
  exact⟨Nat.le_refl _,hp,rfl,by simp,by simp⟩
 | ty::r,p,cs,q,hp,h=>by
  rw[EZ] at h
  cases hv:A8 b p with
  | none=>simp[hv] at h
  | some x =>
   obtain⟨m,q1⟩:=x
   simp only[hv] at h
   split at h
   ·rename_i hm
    cases hd:F8 ((b.drop q1).take m.toNat) ty n with
    | none=>simp[hd] at h
    | some l =>
     simp only[hd] at h
     cases hr:EZ b n r (q1+m.toNat) with
     | none=>simp[hr] at h
     | some y =>
      obtain⟨cs',q'⟩:=y
      simp only[hr,Option.map_some,Option.some.injEq,Prod.mk.injEq] at h
      obtain⟨rfl,rfl⟩:=h
      obtain⟨_,a2,a3,_,_,a6⟩:=FH hb hv
      obtain⟨d1,_,d3⟩:=QX (Md hb _ _) hd
      obtain⟨c1,c2,c3,c4,c5⟩:=UE hb n r (q1+m.toNat) cs' q' (by omega) hr
      refine⟨by omega,c2,by simp[c3],fun c hc=>?_, ?_⟩
      ·rcases List.mem_cons.1 hc with rfl | hc
       ·omega
       ·exact c4 c hc
      ·rw[Mc b (p:=p) (q:=q1) (r:=q') (by omega) (by omega),Mc b (p:=q1) (q:=q1+m.toNat) (r:=q') (by omega) c1,c5]
       have e1:(b.drop p).take (q1-p)=Dh m:=by simpa using a6
       have e2:q1+m.toNat-q1=m.toNat:=by omega
       have e3:(Ah l).length=m.toNat:=by rw[d3]; simp; omega
       rw[e1,e2,← d3]
       simp only[List.map_cons,List.flatten_cons,U8,e3,List.append_assoc]
       congr 2
       omega
   ·cases h
def rowsOf (ids:List Int) (cs:List (List DVal)):List DRow:=(List.range ids.length).map fun i=>⟨(ids[i]?).getD 0,cs.map fun c=>(c[i]?).getD zeroW⟩
where zeroW:DVal:=⟨0,0,ByteArray.empty⟩
theorem dL (ids:List Int) (cs:List (List DVal)):(rowsOf ids cs).map DRow.id=ids:=by
 unfold rowsOf
 rw[List.map_map]
 apply List.ext_getElem
 ·simp
 ·intro i h1 h2
  simp at h1 h2 ⊢
  simp[h2]
theorem CP (ids:List Int) (cs:List (List DVal)):(rowsOf ids cs).length=ids.length:=by simp[rowsOf]
theorem filterMap_map {α β:Type} {f:α→Option β} {g:α→β}:∀ (l:List α),(∀ x∈l,f x=some (g x))→l.filterMap f=l.map g
 | [],_=>rfl
 | x::l,h=>by
  rw[List.filterMap_cons,h x (by simp),List.map_cons,filterMap_map l fun y hy=>h y (by simp[hy])]
theorem jh (l:List DVal) (z:DVal):(List.range l.length).map (fun i=>(l[i]?).getD z)=l:=by
 apply List.ext_getElem
 ·simp
 ·intro i h1 h2
  simp at h1 h2 ⊢
  simp[h2]
theorem dM {ids:List Int} {cs:List (List DVal)} (h:∀ c∈cs,c.length=ids.length) {k:Nat} (hk:k<cs.length):B_ (rowsOf ids cs) k=cs[k]:=by
 have hl:=h _ (List.getElem_mem hk)
 unfold B_ rowsOf
 rw[List.filterMap_map,filterMap_map (g:=fun i=>((cs[k])[i]?).getD rowsOf.zeroW),← hl]
 ·exact jh _ _
 ·intro i hi
  have hi':i<(cs[k]).length:=by rw[hl]; simpa using hi
  simp[hk,hi']
noncomputable def CG (cols:List Int) (l:List DRow):Bool:=(FI cols&&decide (l.length≤12))&&(OE cols l&&decide (∀ r∈l,r.id≤1000000000))
noncomputable def Bq (cols:List Int) (l:List DRow):List Int:=
 if CG cols l=true then Kv (l.map DRow.id)++(if l = [] then [] else((List.range cols.length).map fun(k:Nat)=>U8 (B_ l (k:Int))).flatten) else []
noncomputable def EE (b:List Int) (cols ids:List Int) (p:Nat):Option (List (List DVal)×Nat):=if ids = [] then some ([],p) else EZ b ids.length cols p
noncomputable def CU (cols b:List Int):Option (List DRow):=match Du b 0 with
 | none=>none
 | some (ids,p)=>if FI cols=true∧ids.length≤12 then match EE b cols ids p with
   | none=>none
   | some (cs,q)=>if q=b.length∧CG cols (rowsOf ids cs)=true then some (rowsOf ids cs) else none
  else none
noncomputable def Gl (cols b:List Int):Option (List DRow):=match Du b 0 with
 | none=>none
 | some (ids,p)=>if FI cols=true then match EE b cols ids p with
   | none=>none
   | some (cs,_)=>if CG cols (rowsOf ids cs)=true∧Bq cols (rowsOf ids cs)=b then some (rowsOf ids cs) else none
  else none
theorem dN {b:List Int} {q:Nat} (h:q≤b.length):b.take q=b↔q=b.length:=by
 constructor
 ·intro e
  have:=congrArg List.length e
  simp only[List.length_take] at this
  omega
 ·rintro rfl
  exact List.take_length
theorem Zh {b:List Int} (hb:AY b) (cols:List Int):Gl cols b=CU cols b:=by
 unfold Gl CU
 cases hn:Du b 0 with
 | none=>rfl
 | some x =>
  obtain⟨ids,p⟩:=x
  obtain⟨n1,n2,n3⟩:=OV hb hn
  dsimp only
  by_cases hc:FI cols=true
  ·rw[if_pos hc]
   cases hg:EE b cols ids p with
   | none=>dsimp only; split<;>rfl
   | some y =>
    obtain⟨cs,q⟩:=y
    dsimp only
    by_cases h12:ids.length≤12
    ·have key:CG cols (rowsOf ids cs)=true→(Bq cols (rowsOf ids cs)=b↔q=b.length):=by
      intro hok
      have hput:Bq cols (rowsOf ids cs)=b.take q∧q≤b.length:=by
       unfold Bq
       rw[if_pos hok,dL,← n3]
       unfold EE at hg
       by_cases hi:ids = []
       ·rw[if_pos hi] at hg
        simp only[Option.some.injEq,Prod.mk.injEq] at hg
        obtain⟨rfl,rfl⟩:=hg
        rw[if_pos (by apply List.eq_nil_of_length_eq_zero; rw[CP,hi]; rfl)]
        exact⟨by simp,n1⟩
       ·rw[if_neg hi] at hg
        obtain⟨c1,c2,c3,c4,c5⟩:=UE hb ids.length cols p cs q n1 hg
        rw[if_neg (by intro h0; have:=CP ids cs; rw[h0] at this; exact hi (List.eq_nil_of_length_eq_zero this.symm))]
        have e1:=Mc b (p:=0) (q:=p) (r:=q) (Nat.zero_le _) c1
        simp only[List.drop_zero,Nat.sub_zero] at e1
        refine⟨?_,c2⟩
        rw[e1,c5]
        congr 2
        apply List.ext_getElem
        ·simp[c3]
        ·intro k h1 h2
         have hk:k<cs.length:=by simpa using h2
         simp only[List.getElem_map,List.getElem_range]
         rw[dM c4 hk]
      rw[hput.1]
      exact dN hput.2
     by_cases hok:CG cols (rowsOf ids cs)=true
     ·simp only[hok,key hok,hc,h12,true_and,and_true,and_self,if_true]
     ·simp only[hok,hc,h12,false_and,and_false,and_self,if_true,if_false,Bool.false_eq_true]
    ·have hok:¬ CG cols (rowsOf ids cs)=true:=by
      intro h
      simp only[CG,Bool.and_eq_true,decide_eq_true_eq,CP] at h
      exact h12 h.1.2
     simp only[hok,h12,false_and,and_false,if_false,Bool.false_eq_true]
  ·rw[if_neg hc,if_neg fun h=>hc h.1]
end Go.Proofs.YthoeeoddgkjkkaaGreat
