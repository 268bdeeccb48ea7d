/- A part. -/
import Derived.Test.YtnoldekcdlaahaaGreatPDa
import Derived.Test.YtnoldekcdlaahaaGreatPAc
import Derived.Lib.SlicesCompact
import Derived.Sort.Statements
import Derived.Shelf.SlSortCmp.NoneTotal
set_option linter.unusedSimpArgs false
set_option linter.unusedVariables false
set_option maxHeartbeats 2000000
set_option maxRecDepth 100000
open Go.Proofs.Tryz
namespace Go.Proofs.YtnoldekcdlaahaaGreat
open Go.Vm
section
variable {p q r:Prop}
theorem ALT(h:p:=by
 clear hr
 go_enter func466,ntmps466
 go_wp2
 go_ret
 exact⟨rfl,0,_,by rw[alloc_eq_grow,alloc_eq_grow,grow_grow]; rfl⟩):p:=h
theorem AP7(h:p:=by kernel_rfl):p:=h
end
def isByte (c:Int):Prop:=0≤c∧c<256
def Ae (b:List Int):Prop:=∀ c∈b,isByte c
theorem UU {b:List Int} (h:Ae b) {k:Nat} {c:Int} (hk:b[k]?=some c):isByte c:=h c (bC hk)
def zig (n:Int):Int:=if n<0 then -2*n-1 else 2*n
def zag (x:Int):Int:=if x%2=1 then -((x+1)/2) else x/2
theorem AFu {x:Int} (h:0≤x):zig (zag x)=x:=by
 unfold zig zag
 omega
theorem AFv {x:Int} (h:0≤x) (h2:x≤2000000000) : -1000000000≤zag x∧zag x≤1000000000:=by
 unfold zag
 omega
def fM:Nat→Int→List Int
 | 0,x=>[x]
 | f+1,x=>if x≥128 then(x%128+128)::fM f (x/128) else [x]
def FO (n:Int):List Int:=fM 4 (zig n)
def Jw (b:List Int) (p:Nat):Nat→Int→Nat→Option (Int×Nat)
 | 0,_,_=>none
 | f+1,x,i=>match b[p+i]? with
  | none=>none
  | some c=>if c≥128 then Jw b p f (x+(c%128)*128 ^ i) (i+1) else
   if(0<i∧c=0)∨x+(c%128)*128 ^ i>2000000000 then none else some (zag (x+(c%128)*128 ^ i),p+i+1)
def Bf (b:List Int) (p:Int):Option (Int×Nat):=if 0≤p then Jw b p.toNat 5 0 0 else none
theorem AB3 {b:List Int} (hb:Ae b) (p:Nat):∀ (f:Nat) (x:Int) (i:Nat) (n:Int) (q:Nat),0≤x→Jw b p (f+1) x i=some (n,q) →
  ∃ y:Int,0≤y∧(0<i→0<y)∧x+y*128 ^ i≤2000000000∧n=zag (x+y*128 ^ i)∧p+i<q∧q≤b.length∧(b.drop (p+i)).take (q-(p+i))=fM f y:=by
 intro f
 induction f with
 | zero =>
  intro x i n q hx h
  simp only[Jw] at h
  cases hc:b[p+i]? with
  | none=>grind
  | some c =>
   simp only[hc] at h
   obtain⟨c0,c1⟩:=UU hb hc
   split at h
   ·cases h
   ·rename_i hlt
    split at h
    ·cases h
    ·rename_i hno
     simp only[ak,bK] at h
     obtain⟨rfl,rfl⟩:=h
     have hm:c%128=c:=AOQ
     rw[hm] at hno ⊢
     have hl:=(aF.1 hc).1
     refine⟨c,c0,fun hi=>?_,AOQ,rfl,AOQ,AOQ, ?_⟩
     ·omega
     ·rw[aG hl]
      have e1:p+i+1-(p+i)=1:=AOQ
      have e2:b[p+i]=c:=(aF.1 hc).2
      rw[e1,e2]; simp[fM]
 | succ f ih =>
  intro x i n q hx h
  rw[Jw] at h
  cases hc:b[p+i]? with
  | none=>grind
  | some c =>
   simp only[hc] at h
   obtain⟨c0,c1⟩:=UU hb hc
   have hl:=(aF.1 hc).1
   have e2:b[p+i]=c:=(aF.1 hc).2
   have hp:(0:Int)≤128 ^ i:=aaU AOQ
   split at h
   ·rename_i hge
    have hm0:0≤c%128*128 ^ i:=aaZ AOQ hp
    obtain⟨y,y0,y1,y2,y3,y4,y5,y6⟩:=ih _ (i+1) n q AOQ h
    have y1:=y1 AOQ
    have e3:x+c%128*128 ^ i+y*128 ^ (i+1)=x+(c%128+y*128)*128 ^ i:=by
     rw[abe,Int.add_mul,Int.mul_assoc y 128,Int.mul_comm 128 (128 ^ i)]; omega
    rw[e3] at y2 y3
    refine⟨c%128+y*128,AOQ,fun _=>AOQ,y2,y3,AOQ,y5, ?_⟩
    rw[aG hl,e2]
    have e4:q-(p+i)=(q-(p+(i+1)))+1:=AOQ
    rw[e4,aa9]
    have e5:p+i+1=p+(i+1):=AOQ
    rw[e5,y6,fM,bF AOQ]
    grind
   ·rename_i hlt
    split at h
    ·cases h
    ·rename_i hno
     simp only[ak,bK] at h
     obtain⟨rfl,rfl⟩:=h
     have hm:c%128=c:=AOQ
     rw[hm] at hno ⊢
     refine⟨c,c0,fun hi=>?_,AOQ,rfl,AOQ,AOQ, ?_⟩
     ·omega
     ·rw[aG hl,e2]
      have e1:p+i+1-(p+i)=1:=AOQ
      rw[e1]
      simp[fM,show ¬ c≥128 from AOQ]
theorem II {b:List Int} (hb:Ae b) {p n:Int} {q:Nat} (h:Bf b p=some (n,q)) :
  0≤p∧p<q∧q≤b.length∧ -1000000000≤n∧n≤1000000000∧(b.drop p.toNat).take (q-p.toNat)=FO n:=by
 unfold Bf at h
 split at h
 ·rename_i hp
  obtain⟨y,y0,_,y2,y3,y4,y5,y6⟩:=AB3 hb p.toNat 4 0 0 n q (sG _) h
  simp only[Int.pow_zero,Int.mul_one,Int.zero_add] at y2 y3
  have:=AFv y0 y2
  refine⟨hp,AOQ,y5,AOQ,AOQ, ?_⟩
  rw[FO,y3,AFu y0]
  omega
 ·cases h
theorem S_ (b:List Int) {p q r:Nat} (h1:p≤q) (h2:q≤r):(b.drop p).take (r-p)=(b.drop p).take (q-p)++(b.drop q).take (r-q):=by
 have e1:r-p=(q-p)+(r-q):=AOQ
 grind [List.drop_drop]
def vI (s:ByteArray):List Int:=s.data.toList.map fun x=>(x.toNat:Int)
theorem AED (s:ByteArray):(vI s).length=s.size:=by simp only[vI,ae]; rfl
theorem o8 {l:List Int} (h:Ae l):vI (strOfNums l)=l:=by
 unfold vI
 rw[strOfNums_data,List.map_map]
 conv=>rhs; rw[← List.map_id l]
 refine aaK fun c hc=>?_
 obtain⟨h1,h2⟩:=h c hc
 simp_all<;>omega
theorem TA {b:List Int} (h:Ae b) (p n:Nat):Ae ((b.drop p).take n):=fun c hc=>h c (xR (ru hc))
def Vq (v:DVal):List Int:=if v.ty=1 then FO v.n else(v.s.size:Int)::vI v.s
noncomputable def Fv (b:List Int) (p ty:Int):Option (DVal×Nat):=
 if ty=1 then(Bf b p).map fun x=>(⟨1,x.1,ByteArray.empty⟩,x.2) else
 if ty=2∧0≤p then match b[p.toNat]? with
  | none=>none
  | some k=>if p.toNat+1+k.toNat≤b.length then(if BQ ⟨2,0,strOfNums ((b.drop (p.toNat+1)).take k.toNat)⟩=true then some (⟨2,0,strOfNums ((b.drop (p.toNat+1)).take k.toNat)⟩,p.toNat+1+k.toNat) else none) else none
 else none
theorem kM (n:Int) (h : -1000000000≤n∧n≤1000000000):BQ ⟨1,n,ByteArray.empty⟩=true:=by
 simp only[BQ,bf,ER,Ad]
 simp_all
theorem AB4 {b:List Int} (hb:Ae b) {p ty:Int} {v:DVal} {q:Nat} (h:Fv b p ty=some (v,q)) :
  0≤p∧p<q∧q≤b.length∧v.ty=ty∧(ty=1∨ty=2)∧BQ v=true∧(b.drop p.toNat).take (q-p.toNat)=Vq v:=by
 unfold Fv at h
 split at h
 ·rename_i hty
  cases hn:Bf b p with
  | none=>grind
  | some x =>
   obtain⟨n,q'⟩:=x
   simp only[hn,bY,ak,bK] at h
   obtain⟨rfl,rfl⟩:=h
   obtain⟨h1,h2,h3,h4,h5,h6⟩:=II hb hn
   exact⟨h1,h2,h3,hty.symm,.inl hty,kM n ⟨h4,h5⟩,by simpa [Vq] using h6⟩
 ·split at h
  ·rename_i hp
   cases hk:b[p.toNat]? with
   | none=>grind
   | some k =>
    simp only[hk] at h
    obtain⟨k0,k1⟩:=UU hb hk
    split at h
    ·rename_i hlen
     split at h
     ·rename_i hv
      simp only[ak,bK] at h
      obtain⟨rfl,rfl⟩:=h
      have hl:=(aF.1 hk).1
      have e2:b[p.toNat]=k:=(aF.1 hk).2
      refine⟨hp.2,AOQ,hlen,hp.1.symm,.inr hp.1,hv, ?_⟩
      rw[aG hl,e2]
      have e1:p.toNat+1+k.toNat-p.toNat=k.toNat+1:=AOQ
      rw[e1,aa9]
      simp only[Vq,show ¬ (2:Int)=1 from AOQ,aX,o8 (TA hb _ _),strOfNums_size]
      grind
     ·cases h
    ·cases h
  ·cases h
noncomputable def CS (b:List Int) (ty:Int):Nat→Nat→Option (List DVal×Nat)
 | 0,p=>some ([],p)
 | k+1,p=>match Fv b p ty with
  | none=>none
  | some (v,q)=>(CS b ty k q).map fun x=>(v::x.1,x.2)
def Jy (l:List DVal):List Int:=(l.map Vq).flatten
theorem JS {b:List Int} (hb:Ae b) {ty:Int}:∀ (k p:Nat) (l:List DVal) (q:Nat),p≤b.length→CS b ty k p=some (l,q) →
  p≤q∧q≤b.length∧l.length=k∧(∀ v∈l,BQ v=true∧v.ty=ty∧(ty=1∨ty=2))∧(b.drop p).take (q-p)=Jy l
 | 0,p,l,q,hp,h=>by
  simp only[CS,ak,bK] at h
  obtain⟨rfl,rfl⟩:=h
  exact⟨aT _,hp,rfl,AOR,by simp[Jy]⟩
 | k+1,p,l,q,hp,h=>by
  rw[CS] at h
  cases hv:Fv b p ty with
  | none=>grind
  | some x =>
   obtain⟨v,m⟩:=x
   simp only[hv] at h
   cases hr:CS b ty k m with
   | none=>grind
   | some y =>
    obtain⟨l',q'⟩:=y
    simp only[hr,bY,ak,bK] at h
    obtain⟨rfl,rfl⟩:=h
    obtain⟨a1,a2,a3,a4,a5,a6,a7⟩:=AB4 hb hv
    obtain⟨c1,c2,c3,c4,c5⟩:=JS hb k m l' q' a3 hr
    refine⟨AOQ,c2,by simp[c3],fun x hx=>?_, ?_⟩
    ·grind
    ·rw[S_ b (p:=p) (q:=m) (r:=q') AOQ c1,c5]
     have:(b.drop p).take (m-p)=Vq v:=by simpa using a7
     rw[this]; rfl
noncomputable def typeOf (l:List DVal):Int:=match l with
 | []=>0
 | v::r=>if l.length≤64∧∀ x∈l,BQ x=true∧x.ty=v.ty then v.ty else 0
theorem TB {l:List DVal} {ty:Int} (h1:1≤l.length) (h2:l.length≤64) (h:∀ v∈l,BQ v=true∧v.ty=ty):typeOf l=ty:=by
 cases l with
 | nil=>simp at h1
 | cons v r =>
  have hv:=(h v AOR).2
  show (if(v::r).length≤64∧∀ x∈(v::r),BQ x=true∧x.ty=v.ty then v.ty else 0)=ty
  grind
noncomputable def Em (l:List DVal):List Int:=if typeOf l=0 then [] else Jy l
noncomputable def Gf (b:List Int) (ty:Int) (k:Int):Option (List DVal):=
 if 1≤k∧k≤64 then match CS b ty k.toNat 0 with
  | none=>none
  | some (l,q)=>if q=b.length then some l else none
 else none
noncomputable def again (b:List Int) (k:Int) (l:List DVal) (e:List Int):Option (List DVal):=if 1≤k∧k≤64∧(l.length:Int)=k∧b=e then some l else none
noncomputable def O5 (b:List Int) (ty:Int) (k:Int):Option (List DVal):=
 if 1≤k∧k≤64 then again b k (((CS b ty k.toNat 0).map Prod.fst).getD []) (Em (((CS b ty k.toNat 0).map Prod.fst).getD [])) else none
theorem YB {b:List Int} (hb:Ae b) (ty k:Int):O5 b ty k=Gf b ty k:=by
 unfold O5 Gf
 by_cases hk:1≤k∧k≤64
 ·rw[bF hk,bF hk]
  cases hv:CS b ty k.toNat 0 with
  | none =>
   simp only[WB,wF,again]
   grind
  | some x =>
   obtain⟨l,q⟩:=x
   obtain⟨_,c2,c3,c4,c5⟩:=JS hb k.toNat 0 l q (aA _) hv
   have h0:0<l.length:=AOQ
   obtain⟨v0,hv0⟩:∃ v,v∈l:=⟨l[0],ax h0⟩
   have hty:=(c4 v0 hv0).2.2
   have ht:typeOf l=ty:=TB AOQ AOQ fun v hv=>⟨(c4 v hv).1,(c4 v hv).2.1⟩
   have he:Em l=b.take q:=by
    unfold Em
    rw[bz AOQ,← c5]; simp
   simp only[bY,aH,again,he]
   grind
 grind
theorem vJ {b:List Int} (hb:Ae b) {ty k:Int} {l:List DVal} (h:Gf b ty k=some l):1≤k∧k≤64∧(l.length:Int)=k:=by
 unfold Gf at h
 split at h
 ·rename_i hk
  cases hv:CS b ty k.toNat 0 with
  | none=>grind
  | some x =>
   obtain⟨l',q⟩:=x
   simp only[hv] at h
   split at h
   ·simp only[ak] at h
    subst h
    have:=(JS hb k.toNat 0 _ q (aA _) hv).2.2.1
    omega
   ·cases h
 ·cases h
theorem AB5 {b:List Int} {k:Int} {l l':List DVal} {e:List Int} (h:again b k l e=some l'):l'=l∧1≤k∧k≤64∧(l.length:Int)=k∧b=e:=by
 unfold again at h
 grind
theorem fO {v:DVal} (h:BQ v=true):v.ty=1∨v.ty=2:=by
 unfold BQ at h
 grind
theorem AEE (l:List DVal):typeOf l=0∨typeOf l=1∨typeOf l=2:=by
 cases l with
 | nil=>exact .inl rfl
 | cons v r =>
  show (if(v::r).length≤64∧∀ x∈(v::r),BQ x=true∧x.ty=v.ty then v.ty else 0)=0∨(if(v::r).length≤64∧∀ x∈(v::r),BQ x=true∧x.ty=v.ty then v.ty else 0)=1∨(if(v::r).length≤64∧∀ x∈(v::r),BQ x=true∧x.ty=v.ty then v.ty else 0)=2
  grind [fO]
def runs:List DVal→List (DVal×Int)
 | []=>[]
 | v::l=>match runs l with
  | []=>[(v,1)]
  | (x,k)::r=>if ND v x=true then(x,k+1)::r else(v,1)::(x,k)::r
def IV:List (DVal×Int)→Nat→Option (List DVal)
 | [],_=>some []
 | (v,k)::r,n=>if k<1∨k>64-n then none else(IV r (n+k.toNat)).map fun l=>List.replicate k.toNat v++l
def spread (r:List (DVal×Int)):List DVal:=(IV r 0).getD []
noncomputable def FX (l:List DVal):List Int:=if typeOf l=0 then [] else FO (runs l).length++((runs l).map fun r=>FO r.2++Vq r.1).flatten
noncomputable def JO (b:List Int) (ty:Int):Nat→Nat→Option (List (DVal×Int))
 | 0,_=>some []
 | n+1,p=>match Bf b p with
  | none=>none
  | some (m,q)=>match Fv b q ty with
   | none=>none
   | some (v,q')=>(JO b ty n q').map fun r=>(v,m)::r
noncomputable def Ea (b:List Int) (ty k:Int):Option (List DVal):=match Bf b 0 with
 | none=>none
 | some (n,p)=>if 1≤n∧n≤64 then match JO b ty n.toNat p with
   | none=>none
   | some r=>again b k (spread r) (FX (spread r))
  else none
def FQ (b:List Int) (n:Int):Int:=if n<0 then 0 else match b[(n/8).toNat]? with
 | some c=>c/2 ^ (n%8).toNat%2
 | none=>0
def Fz (k w:Int):Int:=if(0≤k∧k≤64)∧0≤w∧w≤31 then(k*w+7)/8 else 0
def NZ (b:List Int) (o:Int):Nat→Int
 | 0=>0
 | j+1=>NZ b o j+FQ b (o+j)*2 ^ j
noncomputable def unpack (b:List Int) (w k:Int):Option (List Int):=
 if((0≤w∧w≤31)∧(0≤k∧k≤64)∧(b.length:Int)=Fz k w)∧(∀ n∈List.range (8*b.length),k*w≤(n:Int)→FQ b (n:Int)=0) then some ((List.range k.toNat).map fun(i:Nat)=>NZ b ((i:Int)*w) w.toNat) else none
theorem Na {b:List Int} {w k:Int} {o:List Int} (h:unpack b w k=some o):(o.length:Int)=k:=by
 unfold unpack at h
 grind
def Gt:Nat→Int→Int
 | 0,_=>0
 | f+1,x=>if x>0 then Gt f (x/2)+1 else 0
def Az (n:Int):Int:=if 0≤n∧n≤2147483647 then Gt 32 n else 0
def DK (l:List Int):Int:=l.foldl (fun w n=>max w (Az n)) 0
def FK (l:List Int) (w:Int) (n:Nat):Int:=match l[n/w.toNat]? with
 | some x=>x/2 ^ (n%w.toNat)%2
 | none=>0
def Gg (l:List Int) (w:Int) (m:Nat):Nat→Int
 | 0=>0
 | t+1=>Gg l w m t+FK l w (8*m+t)*2 ^ t
noncomputable def En (l:List Int) (w:Int):List Int:=
 if(0≤w∧w≤31)∧∀ n∈l,(0≤n∧n≤2147483647)∧Az n≤w then(List.range ((l.length*w.toNat+7)/8)).map fun m=>Gg l w m 8 else []
def ins (v:DVal):List DVal→List DVal
 | []=>[v]
 | x::r=>if FY x v=true then x::ins v r else if ND x v=true then x::r else v::x::r
def DL (l:List DVal):List DVal:=l.foldl (fun d v=>ins v d) []
theorem AAi (v:DVal):∀ d:List DVal,(ins v d).length≤d.length+1
 | []=>aT _
 | x::r=>by
  simp only[ins]
  have:=AAi v r
  grind
theorem O6 (l:List DVal):(DL l).length≤l.length:=by
 have key:∀ (l d:List DVal),(l.foldl (fun d v=>ins v d) d).length≤d.length+l.length:=by
  intro l
  induction l with
  | nil=>intro d; simp
  | cons v l ih =>
   grind [AAi,aI]
 simpa [DL] using key l []
def placeOf (v:DVal):List DVal→Nat→Option Int
 | [],_=>none
 | x::r,i=>if ND x v=true then some (i:Int) else placeOf v r (i+1)
def places (d:List DVal):List DVal→Option (List Int)
 | []=>some []
 | v::l=>match placeOf v d 0,places d l with
  | some i,some r=>some (i::r)
  | _,_=>none
def picked (d:List DVal):List Int→Option (List DVal)
 | []=>some []
 | i::l=>if 0≤i then match d[i.toNat]?,picked d l with
   | some v,some r=>some (v::r)
   | _,_=>none
  else none
theorem Nb {d:List DVal}:∀ {o:List Int} {l:List DVal},picked d o=some l→l.length=o.length
 | [],l,h=>by simp only[picked,ak] at h; subst h; rfl
 | i::o,l,h=>by
  simp only[picked] at h
  split at h
  ·split at h
   ·rename_i v r h1 h2
    simp only[ak] at h
    subst h
    simp[Nb h2]
   ·cases h
  ·cases h
noncomputable def Eb (l:List DVal):List Int:=if typeOf l=0 then [] else FO (DL l).length++(Jy (DL l)++En ((places (DL l) l).getD []) (Az ((DL l).length-1)))
theorem AEF:∀ (f g:Nat) (x y:Int) (r s:List Int),0≤x→x<128 ^ (f+1)→0≤y→y<128 ^ (g+1)→fM f x++r=fM g y++s→x=y:=by
 have hd:∀ (g:Nat) (y:Int),0≤y→y<128 ^ (g+1)→∃ c t,fM g y=c::t∧(y<128→c=y∧t = [])∧(y≥128→∃ g',g=g'+1∧c=y%128+128∧t=fM g' (y/128)):=by
  intro g y h0 h1
  cases g with
  | zero=>exact⟨y,[],rfl,fun _=>⟨rfl,rfl⟩,fun h=>AOQ⟩
  | succ g =>
   by_cases h:y≥128
   ·exact⟨_,_,by rw[fM,bF h],fun h2=>AOQ,fun _=>⟨g,rfl,rfl,rfl⟩⟩
   ·exact⟨y,[],by rw[fM,bz h],fun _=>⟨rfl,rfl⟩,fun h2=>AOQ⟩
 intro f
 induction f with
 | zero =>
  intro g x y r s hx hx2 hy hy2 h
  obtain⟨c,t,e1,e2,e3⟩:=hd g y hy hy2
  simp only[abe,Int.pow_zero,Int.one_mul,sF] at hx2
  rw[e1] at h
  simp only[fM,aU,aO,List.cons.injEq] at h
  grind
 | succ f ih =>
  grind
theorem XK {n:Int} (h : -1000000000≤n) (h2:n≤1000000000):0≤zig n∧zig n<128 ^ 5:=by
 unfold zig
 omega
theorem AFw {n m:Int} (h:zig n=zig m):n=m:=by
 unfold zig at h
 omega
theorem AB6 {n m:Int} {r s:List Int} (hn : -1000000000≤n∧n≤1000000000) (hm : -1000000000≤m∧m≤1000000000) (h:FO n++r=FO m++s):n=m:=
 AFw (AEF 4 4 _ _ r s (XK hn.1 hn.2).1 (XK hn.1 hn.2).2 (XK hm.1 hm.2).1 (XK hm.1 hm.2).2 h)
noncomputable def F5 (b:List Int) (ty k:Int):Option (List DVal):=match Bf b 0 with
 | none=>none
 | some (n,p)=>if(1≤k∧k≤64)∧1≤n∧n≤k then match CS b ty n.toNat p with
   | none=>none
   | some (d,q)=>match unpack (b.drop q) (Az (n-1)) k with
    | none=>none
    | some o=>match picked d o with
     | none=>none
     | some l=>if Eb l=b then some l else none
  else none
noncomputable def Jz (b:List Int) (ty k:Int):Option (List DVal):=match Bf b 0 with
 | none=>none
 | some (n,p)=>if 1≤n∧n≤64 then match CS b ty n.toNat p with
   | none=>none
   | some (d,q)=>match unpack (b.drop q) (Az (n-1)) k with
    | none=>none
    | some o=>again b k ((picked d o).getD []) (Eb ((picked d o).getD []))
  else none
theorem Vr {b:List Int} (hb:Ae b) {n:Int} {p:Nat} (h:Bf b 0=some (n,p)):(-1000000000≤n∧n≤1000000000)∧b=FO n++b.drop p∧b≠ []:=by
 obtain⟨_,h2,h3,h4,h5,h6⟩:=II hb h
 refine⟨⟨h4,h5⟩, ?_, ?_⟩
 ·have e:b.take p=FO n:=by simpa using h6
  rw[← e]; simp
 grind
theorem fP {b:List Int} (hb:Ae b) (ty k:Int):Jz b ty k=F5 b ty k:=by
 unfold Jz F5
 cases hn:Bf b 0 with
 | none=>rfl
 | some x =>
  obtain⟨n,p⟩:=x
  obtain⟨hnr,hbn,hne⟩:=Vr hb hn
  dsimp only
  by_cases h1:1≤n∧n≤64
  ·rw[bF h1]
   cases hd:CS b ty n.toNat p with
   | none=>simp
   | some y =>
    obtain⟨d,q⟩:=y
    dsimp only
    cases hu:unpack (b.drop q) (Az (n-1)) k with
    | none=>simp
    | some o =>
     have hol:=Na hu
     dsimp only
     by_cases h2:(1≤k∧k≤64)∧1≤n∧n≤k
     ·rw[bF h2]
      cases hp:picked d o with
      | none =>
       simp only[wF,again]
       grind
      | some l =>
       have:=Nb hp
       simp only[aH,again]
       grind
     ·rw[bz h2]
      unfold again
      rw[bz]
      rintro⟨k1,k2,k3,k4⟩
      have hnk:k<n:=AOQ
      generalize hl:(picked d o).getD []=l at k3 k4
      unfold Eb at k4
      split at k4
      ·exact hne k4
      ·have:=O6 l
       have e:=AB6 hnr ⟨AOQ,AOQ⟩ (hbn.symm.trans k4)
       omega
  grind
def Cm:List DVal→Int
 | []=>0
 | v::l=>l.foldl (fun n x=>min n x.n) v.n
noncomputable def offsets (l:List DVal):List Int:=if typeOf l≠1 then [] else l.map fun v=>v.n-Cm l
noncomputable def Dl (l:List DVal):List Int:=if typeOf l≠1 then [] else FO (Cm l)++(DK (offsets l)::En (offsets l) (DK (offsets l)))
def raised (base:Int) (l:List Int):Option (List DVal):=
 if(-1000000000≤base∧base≤1000000000)∧∀ x∈l,(0≤x∧x≤2000000000)∧base+x≤1000000000 then some (l.map fun x=>⟨1,base+x,ByteArray.empty⟩) else none
theorem P7 {base:Int} {o:List Int} {l:List DVal} (h:raised base o=some l):l.length=o.length:=by
 unfold raised at h
 grind
noncomputable def Eo (b:List Int) (k:Int):Option (List DVal):=match Bf b 0 with
 | none=>none
 | some (base,p)=>match b[p]? with
  | none=>none
  | some w=>if 1≤k∧k≤64 then match unpack (b.drop (p+1)) w k with
    | none=>none
    | some o=>match raised base o with
     | none=>none
     | some l=>if Dl l=b then some l else none
   else none
noncomputable def Iz (b:List Int) (k:Int):Option (List DVal):=match Bf b 0 with
 | none=>none
 | some (base,p)=>match b[p]? with
  | none=>none
  | some w=>match unpack (b.drop (p+1)) w k with
    | none=>none
    | some o=>again b k ((raised base o).getD []) (Dl ((raised base o).getD []))
theorem YC (b:List Int) (k:Int):Iz b k=Eo b k:=by
 unfold Iz Eo
 cases hn:Bf b 0 with
 | none=>rfl
 | some x =>
  obtain⟨base,p⟩:=x
  dsimp only
  cases hw:b[p]? with
  | none=>rfl
  | some w =>
   dsimp only
   cases hu:unpack (b.drop (p+1)) w k with
   | none=>simp
   | some o =>
    have hol:=Na hu
    dsimp only
    by_cases h2:1≤k∧k≤64
    ·rw[bF h2]
     cases hp:raised base o with
     | none =>
      simp only[wF,again]
      grind
     | some l =>
      have:=P7 hp
      simp only[aH,again]
      grind
    ·rw[bz h2]
     unfold again
     grind
theorem AEG:∀ l:List UInt8,Op.bytesLess l l=false
 | []=>rfl
 | x::l=>by simp[Op.bytesLess,AEG l]
theorem vK:∀ {a b c:List UInt8},Op.bytesLess a b=true→Op.bytesLess b c=true→Op.bytesLess a c=true
 | [],[],_,h,_=>AOQ
 | [],_::_,[],_,h=>by simp[Op.bytesLess] at h
 | [],_::_,_::_,_,_=>by simp[Op.bytesLess]
 | _::_,[],_,h,_=>by simp[Op.bytesLess] at h
 | _::_,_::_,[],_,h=>by simp[Op.bytesLess] at h
 | x::a,y::b,z::c,h1,h2=>by
  simp only[Op.bytesLess,r_,ay,aZ,iP] at h1 h2 ⊢
  rcases h1 with h1 | ⟨rfl,h1⟩
  ·grind
  ·rcases h2 with h2 | ⟨rfl,h2⟩
   ·exact .inl h2
   ·exact .inr ⟨rfl,vK h1 h2⟩
theorem AEH:∀ (a b:List UInt8),Op.bytesLess a b=true∨a=b∨Op.bytesLess b a=true
 | [],[]=>.inr (.inl rfl)
 | [],_::_=>.inl (by simp[Op.bytesLess])
 | _::_,[]=>.inr (.inr (by simp[Op.bytesLess]))
 | x::a,y::b=>by
  simp only[Op.bytesLess,r_,ay,aZ,iP,List.cons.injEq]
  have ht:x<y∨x=y∨y<x:=by
   rcases Nat.lt_trichotomy x.toNat y.toNat with h | h | h
   ·grind
   ·grind
   ·grind
  rcases ht with h | rfl | h
  ·grind
  ·rcases AEH a b with h | rfl | h
   ·grind
   ·grind
   grind
  grind
theorem yz {s t:ByteArray} (h:s.toList=t.toList):s=t:=by
 rw[ByteArray.toList_eq,ByteArray.toList_eq] at h
 obtain⟨⟨x⟩⟩:=s
 simp_all
theorem TC (a b:DVal):FY a b=true↔a.ty<b.ty∨(a.ty=b.ty∧(a.n<b.n∨(a.n=b.n∧Op.bytesLess a.s.toList b.s.toList=true))):=by
 unfold FY
 grind
theorem LD (a b:DVal):ND a b=true↔a=b:=by
 unfold ND
 simp only[ay,iP]
 constructor
 ·rintro⟨h1,h2,h3⟩
  cases a; cases b
  grind [yz]
 grind
theorem XL (a:DVal):FY a a=false:=by
 grind [TC,AEG]
theorem OD {a b c:DVal} (h1:FY a b=true) (h2:FY b c=true):FY a c=true:=by
 grind [TC,vK]
theorem TD (a b:DVal):FY a b=true∨a=b∨FY b a=true:=by
 rw[← LD,TC,TC]
 unfold ND
 grind [Int.lt_trichotomy,AEH]
def J3 (l:List DVal):Prop:=l.Pairwise fun a b=>FY a b=true
theorem o9 (v x:DVal):∀ d:List DVal,x∈ins v d↔x=v∨x∈d
 | []=>by simp[ins]
 | y::r=>by
  simp only[ins]
  split
  ·simp only[SK,o9 v x r]
   grind
  grind [LD]
theorem fQ (v:DVal):∀ d:List DVal,J3 d→J3 (ins v d)
 | [],_=>by simp[ins,J3]
 | y::r,h=>by
  obtain⟨h1,h2⟩:=aby.1 h
  simp only[ins]
  split
  ·rename_i hl
   refine aby.2 ⟨fun z hz=>?_,fQ v r h2⟩
   grind [o9]
  ·rename_i hl
   split
   ·exact h
   ·rename_i he
    have hv:FY v y=true:=by
     rcases TD v y with g | g | g
     ·exact g
     ·grind [LD]
     ·grind
    refine aby.2 ⟨fun z hz=>?_,h⟩
    grind [OD]
theorem vM (l:List DVal):J3 (DL l):=by
 have key:∀ (l d:List DVal),J3 d→J3 (l.foldl (fun d v=>ins v d) d):=by
  intro l
  induction l with
  | nil=>grind
  | cons v l ih=>grind [fQ]
 exact key l [] List.Pairwise.nil
theorem Ld (l:List DVal) (x:DVal):x∈DL l↔x∈l:=by
 have key:∀ (l d:List DVal),x∈l.foldl (fun d v=>ins v d) d↔x∈l∨x∈d:=by
  intro l
  induction l with
  | nil=>intro d; simp
  | cons v l ih =>
   grind [o9]
 simpa [DL] using key l []
theorem kN:∀ {a b:List DVal},J3 a→J3 b→(∀ x,x∈a↔x∈b)→a=b
 | [],[],_,_,_=>rfl
 | [],y::b,_,_,h=>by have:=(h y).2 AOR; simp at this
 | x::a,[],_,_,h=>by have:=(h x).1 AOR; simp at this
 | x::a,y::b,ha,hb,h=>by
  obtain⟨a1,a2⟩:=aby.1 ha
  obtain⟨b1,b2⟩:=aby.1 hb
  have hxy:x=y:=by
   rcases SK.1 ((h x).1 AOR) with g | g
   ·exact g
   ·rcases SK.1 ((h y).2 AOR) with k | k
    ·exact k.symm
    grind [OD,XL]
  subst hxy
  have:a=b:=kN a2 b2 fun z=>by
   grind [XL]
  rw[this]
open Go.Lib
def EO (v:DVal):List Value:=[.int .i64 v.ty,.int .i64 v.n,.string v.s]
instance:Inhabited DVal:=⟨⟨0,0,ByteArray.empty⟩⟩
instance:DecidableEq DVal:=fun a b=>decidable_of_iff (ND a b=true) (LD a b)
theorem y7 (d:Array DVal) (x:DVal):∀ m,x∈compactUpTo d m↔∃ j,j<m∧d[j]! = x
 | 0=>by simp[compactUpTo]
 | m+1=>by
  rw[compactUpTo_succ,aa1,y7 d x m]
  constructor
  ·grind
  ·rintro⟨j,hj,h⟩
   by_cases e:j=m
   ·subst e
    rcases hk:keeps d j with _ | _
    ·left
     have h0:¬ (j=0∨d[j]!≠d[j-1]!):=by simpa [keeps] using hk
     grind
    grind
   grind
theorem kP (d:Array DVal) (hs:∀ i j,i<j→j<d.size→FY d[j]! d[i]! = false):∀ m,m≤d.size→J3 (compactUpTo d m)
 | 0,_=>by simp[compactUpTo,J3]
 | m+1,hm=>by
  rw[compactUpTo_succ]
  have ih:=kP d hs m AOQ
  rcases hk:keeps d m with _ | _
  ·grind
  ·unfold J3
   simp only[bf]
   rw[List.pairwise_append]
   refine⟨ih,AOR,fun x hx y hy=>?_⟩
   rw[abo.1 hy]
   obtain⟨j,hj,rfl⟩:=(y7 d x m).1 hx
   have h1:=hs j m hj AOQ
   rcases TD d[j]! d[m]! with h | h | h
   ·exact h
   ·exfalso
    have h0:m=0∨d[m]!≠d[m-1]!:=by simpa [keeps] using hk
    rcases h0 with h0 | h0
    ·omega
    ·apply h0
     rcases bV j (m-1) with h4 | h4
     ·grind [TD]
     grind
   grind
theorem AFx {l:List DVal} {d:Array DVal} (hp:Go.Sort.PermIn 0 l.length l.toArray d) (hs:∀ i j,i<j→j<d.size→FY d[j]! d[i]! = false):compactUpTo d d.size=DL l:=by
 refine kN (kP d hs _ (aT _)) (vM l) fun x=>?_
 rw[Ld,y7]
 obtain⟨h1,_,h3⟩:=hp
 grind [List.mem_iff_getElem]
theorem AHo (op:BinOp) (a b:Operand) (x y:DVal) (w:World):Sem.run prog (eqGuard op 64 a b (.agg (EO x).toArray) (.agg (EO y).toArray)) w = .ok () w:=by
 have hg:prog.eqGuardType prog.depth 64=false:=AP7
 simp[eqGuard,run_program,hg]
theorem eqB (x y:DVal) (w:World):Sem.run prog (binOp .eql 64 (.agg (EO x).toArray) (.agg (EO y).toArray)) w = .ok (.bool (ND x y)) w∧Sem.run prog (binOp .neq 64 (.agg (EO x).toArray) (.agg (EO y).toArray)) w = .ok (.bool (!ND x y)) w:=by
 have h:=sJ (P:=prog) (w:=w) (T:=64) (ks:=[.int .i64,.int .i64,.str]) (cs:=x.c) (ds:=y.c) (r:=ND x y) (us:=EO x) (vs:=EO y) AP7 (by simp[DVal.c_eq,ES,IL,ND]) (fun k c hk=>by
  match k with
  | 0 | 1 | 2=>cases hk; rfl
  | k+3=>simp[DVal.c_eq] at hk) (fun k c hk=>by
  match k with
  | 0 | 1 | 2=>cases hk; rfl
  | k+3=>simp[DVal.c_eq] at hk) (x:=.tmp 0) (y:=.tmp 0)
 grind [Sem.run_bind,AHo,Result.andThen_ok]
theorem AAj (x y:DVal):decide (x=y)=ND x y:=by
 grind [aaA,LD]
theorem AKz (x y:DVal) (w:World):Sem.run prog (binOp .eql 64 (.agg (EO x).toArray) (.agg (EO y).toArray)) w = .ok (.bool (decide (x=y))) w:=by rw[AAj]; exact(eqB x y w).1
theorem AK0 (x y:DVal) (w:World):Sem.run prog (binOp .neq 64 (.agg (EO x).toArray) (.agg (EO y).toArray)) w = .ok (.bool (!decide (x=y))) w:=by rw[AAj]; exact(eqB x y w).2
open Go.Proofs Go.Shelf Go.RowKit Go.Sort
theorem AAk (x y:DVal) (W:World):Calls prog 466 #[.agg #[.int .i64 x.ty,.int .i64 x.n,.string x.s],.agg #[.int .i64 y.ty,.int .i64 y.n,.string y.s]] W fun e w'=>e = .returned (.bool (FY x y))∧∃ q os',w'=grow (W.drewN q) os':=by
 obtain⟨xt,xn,xs⟩:=x
 obtain⟨yt,yn,ys⟩:=y
 have hr:FY ⟨xt,xn,xs⟩ ⟨yt,yn,ys⟩=if xt=yt then(if xn=yn then Op.bytesLess xs.toList ys.toList else decide (xn<yn)) else decide (xt<yt):=by
  simp only[FY]
  by_cases h1:xt=yt<;>by_cases h2:xn=yn<;>simp[h1,h2]
 by_cases h1:xt=yt
 ·subst h1
  by_cases h2:xn=yn
  ·subst h2
   rw[hr,bF rfl,bF rfl]
   exact ALT
  ·rw[hr,bF rfl,bz h2]
   exact ALT
 ·rw[hr,bz h1]
  exact ALT
theorem fU (w:World) (os:Array Obj):∀ n,(grow w os).drewN n=grow (w.drewN n) os
 | 0=>rfl
 | n+1=>by
  show ((grow w os).drewN n).drew=_
  rw[fU w os n]; rfl
theorem Yb (w:World) (os os':Array Obj) (n:Nat):grow ((grow w os).drewN n) os'=grow (w.drewN n) (os++os'):=by rw[fU,grow_grow]
theorem D8 {W w':World} {A B:Array Value} {T:TypeId} (hw:∃ q os',w'=grow (((W.alloc (.cells A T)).alloc (.cells B T)).drewN q) os') (j:Nat) (v:Value) :
  (A[j]?=some v→w'.cell? ⟨W.heap.size,j,none⟩=some v)∧(B[j]?=some v→w'.cell? ⟨W.heap.size+1,j,none⟩=some v):=by
 obtain⟨q,os',rfl⟩:=hw
 have s1:(W.alloc (.cells A T)).heap.size=W.heap.size+1:=by show (W.heap.push _).size=_; simp
 have s2:((W.alloc (.cells A T)).alloc (.cells B T)).heap.size=W.heap.size+2:=by show ((W.heap.push _).push _).size=_; simp
 constructor
 ·intro h
  rw[Go.Sort.cell?_grow _ _ _ (by rw[World.heap_drewN,s2]; simp),World.cell?_drewN,alloc_eq_grow (W.alloc _),Go.Sort.cell?_grow _ _ _ (by rw[s1]; simp)]
  show (match (W.heap.push (Obj.cells A T))[W.heap.size]? with | some (.cells cs _ _)=>cs[j]? | _=>none)=some v
  simp[h]
 ·intro h
  rw[Go.Sort.cell?_grow _ _ _ (by rw[World.heap_drewN,s2]; simp),World.cell?_drewN,← s1]
  generalize W.alloc (.cells A T)=W1
  show (match (W1.heap.push (Obj.cells B T))[W1.heap.size]? with | some (.cells cs _ _)=>cs[j]? | _=>none)=some v
  simp[h]
theorem Le {w0 w1 w2:World} (h1:∃ q os,w1=Go.Sort.grow (w0.drewN q) os) (h2:∃ q os,w2=Go.Sort.grow (w1.drewN q) os):∃ q os,w2=Go.Sort.grow (w0.drewN q) os:=by
 obtain⟨q1,o1,rfl⟩:=h1
 obtain⟨q2,o2,rfl⟩:=h2
 exact⟨q1+q2,o1++o2,by rw[Yb,World.drewN_drewN]⟩
theorem XM (W:World) (A B:Obj):∃ q os,(W.alloc A).alloc B=Go.Sort.grow (W.drewN q) os:=⟨0,#[A] ++ #[B],by rw[alloc_eq_grow,alloc_eq_grow,grow_grow]; rfl⟩
def y8 (x y:DVal):Int:=if FY x y=true then -1 else if FY y x=true then 1 else 0
theorem AHp (x y:DVal) (W:World):Calls prog 459 #[.agg #[.int .i64 x.ty,.int .i64 x.n,.string x.s],.agg #[.int .i64 y.ty,.int .i64 y.n,.string y.s]] W fun e w'=>e = .returned (.int .i64 (y8 x y))∧∃ q os',w'=grow (W.drewN q) os':=by
 have h1:=AAk x y
 have h2:=AAk y x
 unfold y8
 generalize FY x y=a at h1 ⊢
 generalize FY y x=b at h2 ⊢
 obtain⟨xt,xn,xs⟩:=x
 obtain⟨yt,yn,ys⟩:=y
 cases a with
 | true =>
  simp only[bf]
  go_enter func459,ntmps459
  go_wp2_with (go_at_call 466; first | (have hm:=HW.out; clear hm; refine(h2 _).mono ?_; rintro e w' ⟨rfl,hw2⟩) | (refine(h1 _).mono ?_; rintro e w' ⟨rfl,hw⟩; have c0:=(D8 hw 0 (.int .i64 xt)).1 rfl; have c1:=(D8 hw 1 (.int .i64 xn)).1 rfl; have c2:=(D8 hw 2 (.string xs)).1 rfl; have d0:=(D8 hw 0 (.int .i64 yt)).2 rfl; have d1:=(D8 hw 1 (.int .i64 yn)).2 rfl; have d2:=(D8 hw 2 (.string ys)).2 rfl; have HW:Aside _:=hw; clear hw))
  go_ret
  exact⟨rfl,Le (XM _ _ _) HW⟩
 | false =>
  cases b with
  | true =>
   simp only[bf,aX,aB]
   go_enter func459,ntmps459
   go_wp2_with (go_at_call 466; first | (have hm:=HW.out; clear hm; refine(h2 _).mono ?_; rintro e w' ⟨rfl,hw2⟩) | (refine(h1 _).mono ?_; rintro e w' ⟨rfl,hw⟩; have c0:=(D8 hw 0 (.int .i64 xt)).1 rfl; have c1:=(D8 hw 1 (.int .i64 xn)).1 rfl; have c2:=(D8 hw 2 (.string xs)).1 rfl; have d0:=(D8 hw 0 (.int .i64 yt)).2 rfl; have d1:=(D8 hw 1 (.int .i64 yn)).2 rfl; have d2:=(D8 hw 2 (.string ys)).2 rfl; have HW:Aside _:=hw; clear hw))
   go_ret
   exact⟨rfl,Le (Le (XM _ _ _) HW) hw2⟩
  | false =>
   simp only[aX,aB]
   go_enter func459,ntmps459
   go_wp2_with (go_at_call 466; first | (have hm:=HW.out; clear hm; refine(h2 _).mono ?_; rintro e w' ⟨rfl,hw2⟩) | (refine(h1 _).mono ?_; rintro e w' ⟨rfl,hw⟩; have c0:=(D8 hw 0 (.int .i64 xt)).1 rfl; have c1:=(D8 hw 1 (.int .i64 xn)).1 rfl; have c2:=(D8 hw 2 (.string xs)).1 rfl; have d0:=(D8 hw 0 (.int .i64 yt)).2 rfl; have d1:=(D8 hw 1 (.int .i64 yn)).2 rfl; have d2:=(D8 hw 2 (.string ys)).2 rfl; have HW:Aside _:=hw; clear hw))
   go_ret
   exact⟨rfl,Le (Le (XM _ _ _) HW) hw2⟩
theorem Vs (x y:DVal):ltOf y8 x y=FY x y:=by
 unfold ltOf y8
 by_cases h1:FY x y=true
 ·simp[h1]
 ·by_cases h2:FY y x=true<;>simp[h1,h2]
theorem AK1:SWO (ltOf y8) where
 irrefl x:=by rw[Vs]; exact XL x
 trans x y z h1 h2:=by rw[Vs] at *; exact OD h1 h2
 ntrans x y z h1 h2:=by
  rw[Vs] at *
  rw[Bool.eq_false_iff] at *
  intro h3
  rcases TD x y with h | h | h
  ·exact h1 h
  ·subst h; exact h2 h3
  ·exact h2 (OD h h3)
theorem AFy (blk off size:Nat) (w:World):CmpLays prog 459 #[] EO 3 y8 blk off size w:=fun _ _ _ _ x y=>AHp x y _
def vN:Go.Shelf.Ren:=⟨fun | 6=>458 | 15=>454 | 14=>471 | 28=>469 | 29=>470 | 20=>479 | 21=>480 | 22=>481 | 23=>482 | 24=>483 | 25=>484 | 26=>485 | 27=>486 | 46=>487 | 47=>488 | 48=>489 | 49=>490 | 50=>491 | 57=>492 | n=>n,fun | 22=>62 | 24=>64 | 25=>339 | 3=>3 | 39=>336 | 0=>0 | 53=>343 | 55=>345 | 4=>4 | 46=>351 | 45=>350 | 50=>212 | 5=>5 | 9=>9 | 66=>356 | 70=>360 | 76=>362 | 77=>178 | n=>n,fun n=>n⟩
theorem AAl:SlLaysF0.n6 prog vN where
 mixed:=AP7
 f6:=⟨f458.name,Yi AP7,func458.trans (congrArg some AP7)⟩
 f14:=⟨f471.name,Yi AP7,func471.trans (congrArg some AP7)⟩
 f15:=func454.trans (congrArg some AP7)
 f20:=⟨f479.name,Yi AP7,func479.trans (congrArg some AP7)⟩
 f21:=⟨f480.name,Yi AP7,func480.trans (congrArg some AP7)⟩
 f22:=⟨f481.name,Yi AP7,func481.trans (congrArg some AP7)⟩
 f23:=⟨f482.name,Yi AP7,func482.trans (congrArg some AP7)⟩
 f24:=⟨f483.name,Yi AP7,func483.trans (congrArg some AP7)⟩
 f25:=⟨f484.name,Yi AP7,func484.trans (congrArg some AP7)⟩
 f26:=⟨f485.name,Yi AP7,func485.trans (congrArg some AP7)⟩
 f27:=⟨f486.name,Yi AP7,func486.trans (congrArg some AP7)⟩
 f28:=func469.trans (congrArg some AP7)
 f29:=func470.trans (congrArg some AP7)
 f46:=⟨f487.name,Yi AP7,func487.trans (congrArg some AP7)⟩
 f47:=func488.trans (congrArg some AP7)
 f48:=func489.trans (congrArg some AP7)
 f49:=⟨f490.name,Yi AP7,func490.trans (congrArg some AP7)⟩
 f50:=⟨f491.name,Yi AP7,func491.trans (congrArg some AP7)⟩
 f57:=⟨f492.name,Yi AP7,func492.trans (congrArg some AP7)⟩
 t0:=underlying0
 a0:=isAgg0
 z0:=sizeOf0
 v0:=zeroValue0
 t3:=underlying3
 a3:=isAgg3
 z3:=sizeOf3
 v3:=zeroValue3
 t4:=underlying4
 a4:=isAgg4
 z4:=sizeOf4
 v4:=zeroValue4
 t5:=underlying5
 a5:=isAgg5
 z5:=sizeOf5
 v5:=zeroValue5
 t9:=underlying9
 a9:=isAgg9
 z9:=sizeOf9
 v9:=zeroValue9
 t22:=underlying62
 a22:=isAgg62
 z22:=sizeOf62
 v22:=zeroValue62
 t25:=underlying339
 a25:=isAgg339
 z25:=sizeOf339
 v25:=zeroValue339
 t39:=underlying336
 a39:=isAgg336
 z39:=sizeOf336
 v39:=zeroValue336
 t45:=underlying350
 a45:=isAgg350
 z45:=sizeOf350
 v45:=zeroValue350
 t46:=underlying351
 a46:=isAgg351
 z46:=sizeOf351
 v46:=zeroValue351
 t50:=underlying212
 a50:=isAgg212
 z50:=sizeOf212
 v50:=zeroValue212
 t53:=underlying343
 a53:=isAgg343
 z53:=sizeOf343
 v53:=zeroValue343
 t55:=underlying345
 a55:=isAgg345
 z55:=sizeOf345
 v55:=zeroValue345
 t66:=underlying356
 a66:=isAgg356
 z66:=sizeOf356
 v66:=zeroValue356
 t70:=underlying360
 a70:=isAgg360
 z70:=sizeOf360
 v70:=zeroValue360
 t76:=underlying362
 a76:=isAgg362
 z76:=sizeOf362
 v76:=zeroValue362
 t77:=underlying178
 a77:=isAgg178
 z77:=sizeOf178
 v77:=zeroValue178
end Go.Proofs.YtnoldekcdlaahaaGreat
