/- A part. -/
import Derived.Test.YtdagmocgcanknaaGreatIa
import Derived.Test.YtdagmocgcanknaaGreatVn
set_option linter.unusedSimpArgs false
set_option linter.unusedVariables false
set_option maxHeartbeats 2000000
set_option maxRecDepth 10000
open Go.Proofs.Tryz
namespace Go.Proofs.YtdagmocgcanknaaGreat
open Go.Vm
def Ff (a b:DVal):Bool:=if(a.ty != b.ty)=true then decide (a.ty<b.ty) else if(a.n != b.n)=true then decide (a.n<b.n) else Op.bytesLess a.s.toList b.s.toList
def N7 (a b:DVal):Bool:=(a.ty==b.ty)&&((a.n==b.n)&&(a.s.toList==b.s.toList))
theorem jF (a b:DVal):Ctr prog 362 [.agg a.c,.agg b.c] [.val (.c (.v (.bool (Ff a b))))]:=by refine CM call362 func362 ntmps362 results362 fun hw=>?_;rcases h1:a.ty != b.ty with _ | _<;>rcases h2:a.n != b.n with _ | _<;>simp only[go_sem,h1,h2,Ff]
def N8:List DVal->List DVal->Bool
 | [],[]=>true
 | a::l,b::m=>N7 a b&&N8 l m
 | _,_=>false
theorem Xu:∀ (a b:List DVal),a.length≠b.length->N8 a b=false
 | [],[],h=>APN
 | [],_::_,_=>rfl
 | _::_,[],_=>rfl
 | a::l,b::m,h=>by simp only[N8]; rw[Xu l m APO]; simp
theorem eH (a b:List DVal) {k:Nat} (h1:k<a.length) (h2:k<b.length):N8 (a.drop k) (b.drop k)=(N7 a[k] b[k]&&N8 (a.drop (k+1)) (b.drop (k+1))):=by rw[aB h1,aB h2]; rfl
theorem SA (a b:List DVal) (ha:a.length<=1048576) (hb:b.length<=1048576):Ctr prog 231 [.c (.sl (a.map DVal.c)),.c (.sl (b.map DVal.c))] [.val (.c (.v (.bool (N8 a b))))]:=by
 refine CM call231 func231 ntmps231 results231 fun hw=>?_;refine AOe (fun h=>?_) fun h=>?_
 .simp only[go_sem];grind [Xu]
 .have he:a.length=b.length:=by simp at h; omega
  simp only[go_sem,aa];refine AAe 0 (A:=Nat) (fun k=>[(5,.c (.v (.int .i64 (k))))]) (fun _=>[]) (fun k=>k<=a.length/\N8 (a.drop k) (b.drop k)=N8 a b) (fun k=>a.length-k) 0 ⟨⟨rfl,rfl⟩,rfl,aq _,rfl⟩ ?_;exact AH_
theorem vO (a b:List DVal) (ha:a.length<=1048576) (hb:b.length<=1048576):Ctr prog 295 [.c (.sl (a.map DVal.c)),.c (.sl (b.map DVal.c))] [.val (.c (.v (.bool (N8 a b))))]:=by
 refine CM call295 func295 ntmps295 results295 fun hw=>?_;refine AOe (fun h=>?_) fun h=>?_
 .simp only[go_sem];grind [Xu]
 .have he:a.length=b.length:=by simp at h; omega
  simp only[go_sem,aa];refine AAe 0 (A:=Nat) (fun k=>[(13,.c (.v (.int .i64 (k))))]) (fun _=>[]) (fun k=>k<=a.length/\N8 (a.drop k) (b.drop k)=N8 a b) (fun k=>a.length-k) 0 ⟨⟨rfl,rfl⟩,rfl,aq _,rfl⟩ ?_;exact AH_
theorem SB (a b:List DVal) (ha:a.length<=1048576) (hb:b.length<=1048576):Ctr prog 254 [.c (.sl (a.map DVal.c)),.c (.sl (b.map DVal.c))] [.val (.c (.v (.bool (N8 a b))))]:=by refine CM call254 func254 ntmps254 results254 fun hw=>?_;simp only[go_sem,aa];refine AAO _ (vO a b ha hb) fun _=>?_;exact AJC
def isByte (c:Int):Prop:=0<=c/\c<256
def Ai (b:List Int):Prop:=∀ c∈b,isByte c
theorem Ux {b:List Int} (h:Ai b) {k:Nat} {c:Int} (hk:b[k]?=some c):isByte c:=h c (aT hk)
def zig (n:Int):Int:=if n<0 then -2*n-1 else 2*n
def zag (x:Int):Int:=if x%2=1 then -((x+1)/2) else x/2
theorem AFv {x:Int} (h:0<=x):zig (zag x)=x:=by unfold zig zag;omega
theorem AFw {x:Int} (h:0<=x) (h2:x<=2000000000) : -1000000000<=zag x/\zag x<=1000000000:=by unfold zag;omega
def eP:Nat->Int->List Int
 | 0,x=>[x]
 | f+1,x=>if x>=128 then(x%128+128)::eP f (x/128) else [x]
def Ey (n:Int):List Int:=eP 4 (zig n)
def KL (b:List Int) (p:Nat):Nat->Int->Nat->Option (Int×Nat)
 | 0,_,_=>none
 | f+1,x,i=>match b[p+i]? with
  | none=>none
  | some c=>if c>=128 then KL b p f (x+(c%128)*128 ^ i) (i+1) else
   if(0<i/\c=0)\/x+(c%128)*128 ^ i>2000000000 then none else some (zag (x+(c%128)*128 ^ i),p+i+1)
def Bh (b:List Int) (p:Int):Option (Int×Nat):=if 0<=p then KL b p.toNat 5 0 0 else none
theorem ACE {b:List Int} (hb:Ai b) (p:Nat):∀ (f:Nat) (x:Int) (i:Nat) (n:Int) (q:Nat),0<=x->KL b p (f+1) x i=some (n,q) ->
  ∃ y:Int,0<=y/\(0<i->0<y)/\x+y*128 ^ i<=2000000000/\n=zag (x+y*128 ^ i)/\p+i<q/\q<=b.length/\(b.drop (p+i)).take (q-(p+i))=eP f y:=by
 intro f
 induction f with
 | zero =>
  intro x i n q hx h
  simp only[KL] at h
  cases hc:b[p+i]? with
  | none=>grind
  | some c =>
   simp only[hc] at h
   obtain⟨c0,c1⟩:=Ux hb hc
   split at h
   .cases h
   .rename_i hlt
    split at h
    .cases h
    .rename_i hno
     simp only[ai,bb] at h
     obtain⟨rfl,rfl⟩:=h
     have hm:c%128=c:=AOl
     rw[hm] at hno ⊢
     have hl:=(az.1 hc).1
     refine⟨c,c0,fun hi=>?_,AOl,rfl,AOl,AOl, ?_⟩
     .omega
     .rw[aB hl]
      have e1:p+i+1-(p+i)=1:=AOl
      have e2:b[p+i]=c:=(az.1 hc).2
      rw[e1,e2]; simp[eP]
 | succ f ih =>
  intro x i n q hx h
  rw[KL] at h
  cases hc:b[p+i]? with
  | none=>grind
  | some c =>
   simp only[hc] at h
   obtain⟨c0,c1⟩:=Ux hb hc
   have hl:=(az.1 hc).1
   have e2:b[p+i]=c:=(az.1 hc).2
   have hp:(0:Int)<=128 ^ i:=aaU AOl
   split at h
   .rename_i hge
    have hm0:0<=c%128*128 ^ i:=aaY AOl hp
    obtain⟨y,y0,y1,y2,y3,y4,y5,y6⟩:=ih _ (i+1) n q AOl h
    have y1:=y1 AOl
    have e3:x+c%128*128 ^ i+y*128 ^ (i+1)=x+(c%128+y*128)*128 ^ i:=by rw[abe,Int.add_mul,Int.mul_assoc y 128,Int.mul_comm 128 (128 ^ i)]; omega
    rw[e3] at y2 y3
    refine⟨c%128+y*128,AOl,fun _=>AOl,y2,y3,AOl,y5, ?_⟩
    rw[aB hl,e2]
    have e4:q-(p+i)=(q-(p+(i+1)))+1:=AOl
    rw[e4,aba]
    have e5:p+i+1=p+(i+1):=AOl
    rw[e5,y6,eP,aV AOl]
    grind
   .rename_i hlt
    split at h
    .cases h
    .rename_i hno
     simp only[ai,bb] at h
     obtain⟨rfl,rfl⟩:=h
     have hm:c%128=c:=AOl
     rw[hm] at hno ⊢
     refine⟨c,c0,fun hi=>?_,AOl,rfl,AOl,AOl, ?_⟩
     .omega
     .rw[aB hl,e2]
      have e1:p+i+1-(p+i)=1:=AOl
      rw[e1]
      simp[eP,show ¬ c>=128 from AOl]
theorem IW {b:List Int} (hb:Ai b) {p n:Int} {q:Nat} (h:Bh b p=some (n,q)) :
  0<=p/\p<q/\q<=b.length/\ -1000000000<=n/\n<=1000000000/\(b.drop p.toNat).take (q-p.toNat)=Ey n:=by
 unfold Bh at h
 split at h
 .rename_i hp
  obtain⟨y,y0,_,y2,y3,y4,y5,y6⟩:=ACE hb p.toNat 4 0 0 n q (aa7 _) h
  simp only[Int.pow_zero,Int.mul_one,Int.zero_add] at y2 y3
  have:=AFw y0 y2
  refine⟨hp,AOl,y5,AOl,AOl, ?_⟩
  rw[Ey,y3,AFv y0]
  omega
 .cases h
theorem TU (b:List Int) {p q r:Nat} (h1:p<=q) (h2:q<=r):(b.drop p).take (r-p)=(b.drop p).take (q-p)++(b.drop q).take (r-q):=by have e1:r-p=(q-p)+(r-q):=AOl;grind [List.drop_drop]
def vP (s:ByteArray):List Int:=s.data.toList.map fun x=>(x.toNat:Int)
theorem AEC (s:ByteArray):(vP s).length=s.size:=by simp only[vP,aa]; rfl
theorem pF {l:List Int} (h:Ai l):vP (strOfNums l)=l:=by
 unfold vP;rw[strOfNums_data,List.map_map];conv=>rhs; rw[<- List.map_id l]
 refine aaP fun c hc=>?_;obtain⟨h1,h2⟩:=h c hc;simp_all<;>omega
theorem TV {b:List Int} (h:Ai b) (p n:Nat):Ai ((b.drop p).take n):=fun c hc=>h c (yE (uF hc))
def WB (v:DVal):List Int:=if v.ty=1 then Ey v.n else(v.s.size:Int)::vP v.s
noncomputable def F8 (b:List Int) (p ty:Int):Option (DVal×Nat):=
 if ty=1 then(Bh b p).map fun x=>(⟨1,x.1,ByteArray.empty⟩,x.2) else
 if ty=2/\0<=p then match b[p.toNat]? with
  | none=>none
  | some k=>if p.toNat+1+k.toNat<=b.length then(if BX ⟨2,0,strOfNums ((b.drop (p.toNat+1)).take k.toNat)⟩=true then some (⟨2,0,strOfNums ((b.drop (p.toNat+1)).take k.toNat)⟩,p.toNat+1+k.toNat) else none) else none
 else none
theorem kY (n:Int) (h : -1000000000<=n/\n<=1000000000):BX ⟨1,n,ByteArray.empty⟩=true:=by simp only[BX,aO,EE,Ae];simp_all
theorem ACF {b:List Int} (hb:Ai b) {p ty:Int} {v:DVal} {q:Nat} (h:F8 b p ty=some (v,q)) :
  0<=p/\p<q/\q<=b.length/\v.ty=ty/\(ty=1\/ty=2)/\BX v=true/\(b.drop p.toNat).take (q-p.toNat)=WB v:=by
 unfold F8 at h
 split at h
 .rename_i hty
  cases hn:Bh b p with
  | none=>grind
  | some x =>
   obtain⟨n,q'⟩:=x
   simp only[hn,bi,ai,bb] at h
   obtain⟨rfl,rfl⟩:=h
   obtain⟨h1,h2,h3,h4,h5,h6⟩:=IW hb hn
   exact⟨h1,h2,h3,hty.symm,.inl hty,kY n ⟨h4,h5⟩,by simpa [WB] using h6⟩
 .split at h
  .rename_i hp
   cases hk:b[p.toNat]? with
   | none=>grind
   | some k =>
    simp only[hk] at h
    obtain⟨k0,k1⟩:=Ux hb hk
    split at h
    .rename_i hlen
     split at h
     .rename_i hv
      simp only[ai,bb] at h
      obtain⟨rfl,rfl⟩:=h
      have hl:=(az.1 hk).1
      have e2:b[p.toNat]=k:=(az.1 hk).2
      refine⟨hp.2,AOl,hlen,hp.1.symm,.inr hp.1,hv, ?_⟩
      rw[aB hl,e2]
      have e1:p.toNat+1+k.toNat-p.toNat=k.toNat+1:=AOl
      rw[e1,aba]
      simp only[WB,show ¬ (2:Int)=1 from AOl,aL,pF (TV hb _ _),strOfNums_size]
      grind
     .cases h
    .cases h
  .cases h
noncomputable def Cc (b:List Int) (ty:Int):Nat->Nat->Option (List DVal×Nat)
 | 0,p=>some ([],p)
 | k+1,p=>match F8 b p ty with
  | none=>none
  | some (v,q)=>(Cc b ty k q).map fun x=>(v::x.1,x.2)
def KN (l:List DVal):List Int:=(l.map WB).flatten
theorem Jq {b:List Int} (hb:Ai b) {ty:Int}:∀ (k p:Nat) (l:List DVal) (q:Nat),p<=b.length->Cc b ty k p=some (l,q) ->
  p<=q/\q<=b.length/\l.length=k/\(∀ v∈l,BX v=true/\v.ty=ty/\(ty=1\/ty=2))/\(b.drop p).take (q-p)=KN l
 | 0,p,l,q,hp,h=>by simp only[Cc,ai,bb] at h;obtain⟨rfl,rfl⟩:=h;exact⟨aG _,hp,rfl,AOm,by simp[KN]⟩
 | k+1,p,l,q,hp,h=>by
  rw[Cc] at h;cases hv:F8 b p ty with
  | none=>grind
  | some x =>
   obtain⟨v,m⟩:=x
   simp only[hv] at h
   cases hr:Cc b ty k m with
   | none=>grind
   | some y =>
    obtain⟨l',q'⟩:=y
    simp only[hr,bi,ai,bb] at h
    obtain⟨rfl,rfl⟩:=h
    obtain⟨a1,a2,a3,a4,a5,a6,a7⟩:=ACF hb hv
    obtain⟨c1,c2,c3,c4,c5⟩:=Jq hb k m l' q' a3 hr
    refine⟨AOl,c2,by simp[c3],fun x hx=>?_, ?_⟩
    .grind
    .rw[TU b (p:=p) (q:=m) (r:=q') AOl c1,c5]
     have:(b.drop p).take (m-p)=WB v:=by simpa using a7
     rw[this]; rfl
noncomputable def typeOf (l:List DVal):Int:=match l with
 | []=>0
 | v::r=>if l.length<=64/\∀ x∈l,BX x=true/\x.ty=v.ty then v.ty else 0
theorem TW {l:List DVal} {ty:Int} (h1:1<=l.length) (h2:l.length<=64) (h:∀ v∈l,BX v=true/\v.ty=ty):typeOf l=ty:=by
 cases l with
 | nil=>simp at h1
 | cons v r =>
  have hv:=(h v AOm).2
  show (if(v::r).length<=64/\∀ x∈(v::r),BX x=true/\x.ty=v.ty then v.ty else 0)=ty
  grind
noncomputable def Ep (l:List DVal):List Int:=if typeOf l=0 then [] else KN l
noncomputable def Gu (b:List Int) (ty:Int) (k:Int):Option (List DVal):=
 if 1<=k/\k<=64 then match Cc b ty k.toNat 0 with
  | none=>none
  | some (l,q)=>if q=b.length then some l else none
 else none
noncomputable def again (b:List Int) (k:Int) (l:List DVal) (e:List Int):Option (List DVal):=if 1<=k/\k<=64/\(l.length:Int)=k/\b=e then some l else none
noncomputable def Pm (b:List Int) (ty:Int) (k:Int):Option (List DVal):=
 if 1<=k/\k<=64 then again b k (((Cc b ty k.toNat 0).map Prod.fst).getD []) (Ep (((Cc b ty k.toNat 0).map Prod.fst).getD [])) else none
theorem Yk {b:List Int} (hb:Ai b) (ty k:Int):Pm b ty k=Gu b ty k:=by
 unfold Pm Gu;by_cases hk:1<=k/\k<=64
 .rw[aV hk,aV hk];cases hv:Cc b ty k.toNat 0 with
  | none =>
   simp only[W_,ww,again]
   grind
  | some x =>
   obtain⟨l,q⟩:=x
   obtain⟨_,c2,c3,c4,c5⟩:=Jq hb k.toNat 0 l q (aq _) hv
   have h0:0<l.length:=AOl
   obtain⟨v0,hv0⟩:∃ v,v∈l:=⟨l[0],an h0⟩
   have hty:=(c4 v0 hv0).2.2
   have ht:typeOf l=ty:=TW AOl AOl fun v hv=>⟨(c4 v hv).1,(c4 v hv).2.1⟩
   have he:Ep l=b.take q:=by unfold Ep;rw[aR AOl,<- c5]; simp
   simp only[bi,au,again,he]
   grind
 grind
theorem vS {b:List Int} (hb:Ai b) {ty k:Int} {l:List DVal} (h:Gu b ty k=some l):1<=k/\k<=64/\(l.length:Int)=k:=by
 unfold Gu at h;split at h
 .rename_i hk;cases hv:Cc b ty k.toNat 0 with
  | none=>grind
  | some x =>
   obtain⟨l',q⟩:=x
   simp only[hv] at h
   split at h
   .simp only[ai] at h
    subst h
    have:=(Jq hb k.toNat 0 _ q (aq _) hv).2.2.1
    omega
   .cases h
 .cases h
theorem ACG {b:List Int} {k:Int} {l l':List DVal} {e:List Int} (h:again b k l e=some l'):l'=l/\1<=k/\k<=64/\(l.length:Int)=k/\b=e:=by unfold again at h;grind
theorem eQ {v:DVal} (h:BX v=true):v.ty=1\/v.ty=2:=by unfold BX at h;grind
theorem AED (l:List DVal):typeOf l=0\/typeOf l=1\/typeOf l=2:=by
 cases l with
 | nil=>exact .inl rfl
 | cons v r =>
  show (if(v::r).length<=64/\∀ x∈(v::r),BX x=true/\x.ty=v.ty then v.ty else 0)=0\/(if(v::r).length<=64/\∀ x∈(v::r),BX x=true/\x.ty=v.ty then v.ty else 0)=1\/(if(v::r).length<=64/\∀ x∈(v::r),BX x=true/\x.ty=v.ty then v.ty else 0)=2
  grind [eQ]
def runs:List DVal->List (DVal×Int)
 | []=>[]
 | v::l=>match runs l with
  | []=>[(v,1)]
  | (x,k)::r=>if N7 v x=true then(x,k+1)::r else(v,1)::(x,k)::r
def Il:List (DVal×Int)->Nat->Option (List DVal)
 | [],_=>some []
 | (v,k)::r,n=>if k<1\/k>64-n then none else(Il r (n+k.toNat)).map fun l=>List.replicate k.toNat v++l
def spread (r:List (DVal×Int)):List DVal:=(Il r 0).getD []
noncomputable def Fa (l:List DVal):List Int:=if typeOf l=0 then [] else Ey (runs l).length++((runs l).map fun r=>Ey r.2++WB r.1).flatten
noncomputable def Jj (b:List Int) (ty:Int):Nat->Nat->Option (List (DVal×Int))
 | 0,_=>some []
 | n+1,p=>match Bh b p with
  | none=>none
  | some (m,q)=>match F8 b q ty with
   | none=>none
   | some (v,q')=>(Jj b ty n q').map fun r=>(v,m)::r
noncomputable def Ec (b:List Int) (ty k:Int):Option (List DVal):=match Bh b 0 with
 | none=>none
 | some (n,p)=>if 1<=n/\n<=64 then match Jj b ty n.toNat p with
   | none=>none
   | some r=>again b k (spread r) (Fa (spread r))
  else none
def FT (b:List Int) (n:Int):Int:=if n<0 then 0 else match b[(n/8).toNat]? with
 | some c=>c/2 ^ (n%8).toNat%2
 | none=>0
def F9 (k w:Int):Int:=if(0<=k/\k<=64)/\0<=w/\w<=31 then(k*w+7)/8 else 0
def N9 (b:List Int) (o:Int):Nat->Int
 | 0=>0
 | j+1=>N9 b o j+FT b (o+j)*2 ^ j
noncomputable def unpack (b:List Int) (w k:Int):Option (List Int):=
 if((0<=w/\w<=31)/\(0<=k/\k<=64)/\(b.length:Int)=F9 k w)/\(∀ n∈List.range (8*b.length),k*w<=(n:Int)->FT b (n:Int)=0) then some ((List.range k.toNat).map fun(i:Nat)=>N9 b ((i:Int)*w) w.toNat) else none
theorem N_ {b:List Int} {w k:Int} {o:List Int} (h:unpack b w k=some o):(o.length:Int)=k:=by unfold unpack at h;grind
def Hg:Nat->Int->Int
 | 0,_=>0
 | f+1,x=>if x>0 then Hg f (x/2)+1 else 0
def BA (n:Int):Int:=if 0<=n/\n<=2147483647 then Hg 32 n else 0
def DV (l:List Int):Int:=l.foldl (fun w n=>max w (BA n)) 0
def FN (l:List Int) (w:Int) (n:Nat):Int:=match l[n/w.toNat]? with
 | some x=>x/2 ^ (n%w.toNat)%2
 | none=>0
def Gv (l:List Int) (w:Int) (m:Nat):Nat->Int
 | 0=>0
 | t+1=>Gv l w m t+FN l w (8*m+t)*2 ^ t
noncomputable def Es (l:List Int) (w:Int):List Int:=
 if(0<=w/\w<=31)/\∀ n∈l,(0<=n/\n<=2147483647)/\BA n<=w then(List.range ((l.length*w.toNat+7)/8)).map fun m=>Gv l w m 8 else []
def ins (v:DVal):List DVal->List DVal
 | []=>[v]
 | x::r=>if Ff x v=true then x::ins v r else if N7 x v=true then x::r else v::x::r
def DW (l:List DVal):List DVal:=l.foldl (fun d v=>ins v d) []
theorem AAs (v:DVal):∀ d:List DVal,(ins v d).length<=d.length+1
 | []=>aG _
 | x::r=>by simp only[ins];have:=AAs v r;grind
theorem Pn (l:List DVal):(DW l).length<=l.length:=by
 have key:∀ (l d:List DVal),(l.foldl (fun d v=>ins v d) d).length<=d.length+l.length:=by
  intro l;induction l with
  | nil=>intro d; simp
  | cons v l ih =>
   grind [AAs,ag]
 simpa [DW] using key l []
def placeOf (v:DVal):List DVal->Nat->Option Int
 | [],_=>none
 | x::r,i=>if N7 x v=true then some (i:Int) else placeOf v r (i+1)
def places (d:List DVal):List DVal->Option (List Int)
 | []=>some []
 | v::l=>match placeOf v d 0,places d l with
  | some i,some r=>some (i::r)
  | _,_=>none
def picked (d:List DVal):List Int->Option (List DVal)
 | []=>some []
 | i::l=>if 0<=i then match d[i.toNat]?,picked d l with
   | some v,some r=>some (v::r)
   | _,_=>none
  else none
theorem OA {d:List DVal}:∀ {o:List Int} {l:List DVal},picked d o=some l->l.length=o.length
 | [],l,h=>by simp only[picked,ai] at h; subst h; rfl
 | i::o,l,h=>by
  simp only[picked] at h;split at h
  .split at h
   .rename_i v r h1 h2;simp only[ai] at h;subst h;simp[OA h2]
   .cases h
  .cases h
noncomputable def Ed (l:List DVal):List Int:=if typeOf l=0 then [] else Ey (DW l).length++(KN (DW l)++Es ((places (DW l) l).getD []) (BA ((DW l).length-1)))
theorem AEE:∀ (f g:Nat) (x y:Int) (r s:List Int),0<=x->x<128 ^ (f+1)->0<=y->y<128 ^ (g+1)->eP f x++r=eP g y++s->x=y:=by
 have hd:∀ (g:Nat) (y:Int),0<=y->y<128 ^ (g+1)->∃ c t,eP g y=c::t/\(y<128->c=y/\t = [])/\(y>=128->∃ g',g=g'+1/\c=y%128+128/\t=eP g' (y/128)):=by
  intro g y h0 h1;cases g with
  | zero=>exact⟨y,[],rfl,fun _=>⟨rfl,rfl⟩,fun h=>AOl⟩
  | succ g =>
   by_cases h:y>=128
   .exact⟨_,_,by rw[eP,aV h],fun h2=>AOl,fun _=>⟨g,rfl,rfl,rfl⟩⟩
   .exact⟨y,[],by rw[eP,aR h],fun _=>⟨rfl,rfl⟩,fun h2=>AOl⟩
 intro f;induction f with
 | zero =>
  intro g x y r s hx hx2 hy hy2 h
  obtain⟨c,t,e1,e2,e3⟩:=hd g y hy hy2
  simp only[abe,Int.pow_zero,Int.one_mul,nY] at hx2
  rw[e1] at h
  simp only[eP,aJ,aA,List.cons.injEq] at h
  grind
 | succ f ih =>
  grind
theorem Xv {n:Int} (h : -1000000000<=n) (h2:n<=1000000000):0<=zig n/\zig n<128 ^ 5:=by unfold zig;omega
theorem AFx {n m:Int} (h:zig n=zig m):n=m:=by unfold zig at h;omega
theorem ACH {n m:Int} {r s:List Int} (hn : -1000000000<=n/\n<=1000000000) (hm : -1000000000<=m/\m<=1000000000) (h:Ey n++r=Ey m++s):n=m:=
 AFx (AEE 4 4 _ _ r s (Xv hn.1 hn.2).1 (Xv hn.1 hn.2).2 (Xv hm.1 hm.2).1 (Xv hm.1 hm.2).2 h)
noncomputable def GK (b:List Int) (ty k:Int):Option (List DVal):=match Bh b 0 with
 | none=>none
 | some (n,p)=>if(1<=k/\k<=64)/\1<=n/\n<=k then match Cc b ty n.toNat p with
   | none=>none
   | some (d,q)=>match unpack (b.drop q) (BA (n-1)) k with
    | none=>none
    | some o=>match picked d o with
     | none=>none
     | some l=>if Ed l=b then some l else none
  else none
noncomputable def KO (b:List Int) (ty k:Int):Option (List DVal):=match Bh b 0 with
 | none=>none
 | some (n,p)=>if 1<=n/\n<=64 then match Cc b ty n.toNat p with
   | none=>none
   | some (d,q)=>match unpack (b.drop q) (BA (n-1)) k with
    | none=>none
    | some o=>again b k ((picked d o).getD []) (Ed ((picked d o).getD []))
  else none
theorem WC {b:List Int} (hb:Ai b) {n:Int} {p:Nat} (h:Bh b 0=some (n,p)):(-1000000000<=n/\n<=1000000000)/\b=Ey n++b.drop p/\b≠ []:=by
 obtain⟨_,h2,h3,h4,h5,h6⟩:=IW hb h;refine⟨⟨h4,h5⟩, ?_, ?_⟩
 .have e:b.take p=Ey n:=by simpa using h6
  rw[<- e]; simp
 grind
theorem eU {b:List Int} (hb:Ai b) (ty k:Int):KO b ty k=GK b ty k:=by
 unfold KO GK;cases hn:Bh b 0 with
 | none=>rfl
 | some x =>
  obtain⟨n,p⟩:=x
  obtain⟨hnr,hbn,hne⟩:=WC hb hn
  dsimp only
  by_cases h1:1<=n/\n<=64
  .rw[aV h1]
   cases hd:Cc b ty n.toNat p with
   | none=>simp
   | some y =>
    obtain⟨d,q⟩:=y
    dsimp only
    cases hu:unpack (b.drop q) (BA (n-1)) k with
    | none=>simp
    | some o =>
     have hol:=N_ hu
     dsimp only
     by_cases h2:(1<=k/\k<=64)/\1<=n/\n<=k
     .rw[aV h2]
      cases hp:picked d o with
      | none =>
       simp only[ww,again]
       grind
      | some l =>
       have:=OA hp
       simp only[au,again]
       grind
     .rw[aR h2]
      unfold again
      rw[aR]
      rintro⟨k1,k2,k3,k4⟩
      have hnk:k<n:=AOl
      generalize hl:(picked d o).getD []=l at k3 k4
      unfold Ed at k4
      split at k4
      .exact hne k4
      .have:=Pn l
       have e:=ACH hnr ⟨AOl,AOl⟩ (hbn.symm.trans k4)
       omega
  grind
def DI:List DVal->Int
 | []=>0
 | v::l=>l.foldl (fun n x=>min n x.n) v.n
noncomputable def offsets (l:List DVal):List Int:=if typeOf l≠1 then [] else l.map fun v=>v.n-DI l
noncomputable def Dq (l:List DVal):List Int:=if typeOf l≠1 then [] else Ey (DI l)++(DV (offsets l)::Es (offsets l) (DV (offsets l)))
def raised (base:Int) (l:List Int):Option (List DVal):=
 if(-1000000000<=base/\base<=1000000000)/\∀ x∈l,(0<=x/\x<=2000000000)/\base+x<=1000000000 then some (l.map fun x=>⟨1,base+x,ByteArray.empty⟩) else none
theorem QW {base:Int} {o:List Int} {l:List DVal} (h:raised base o=some l):l.length=o.length:=by unfold raised at h;grind
noncomputable def Et (b:List Int) (k:Int):Option (List DVal):=match Bh b 0 with
 | none=>none
 | some (base,p)=>match b[p]? with
  | none=>none
  | some w=>if 1<=k/\k<=64 then match unpack (b.drop (p+1)) w k with
    | none=>none
    | some o=>match raised base o with
     | none=>none
     | some l=>if Dq l=b then some l else none
   else none
noncomputable def JH (b:List Int) (k:Int):Option (List DVal):=match Bh b 0 with
 | none=>none
 | some (base,p)=>match b[p]? with
  | none=>none
  | some w=>match unpack (b.drop (p+1)) w k with
    | none=>none
    | some o=>again b k ((raised base o).getD []) (Dq ((raised base o).getD []))
theorem Yl (b:List Int) (k:Int):JH b k=Et b k:=by
 unfold JH Et;cases hn:Bh b 0 with
 | none=>rfl
 | some x =>
  obtain⟨base,p⟩:=x
  dsimp only
  cases hw:b[p]? with
  | none=>rfl
  | some w =>
   dsimp only
   cases hu:unpack (b.drop (p+1)) w k with
   | none=>simp
   | some o =>
    have hol:=N_ hu
    dsimp only
    by_cases h2:1<=k/\k<=64
    .rw[aV h2]
     cases hp:raised base o with
     | none =>
      simp only[ww,again]
      grind
     | some l =>
      have:=QW hp
      simp only[au,again]
      grind
    .rw[aR h2]
     unfold again
     grind
theorem AEF:∀ l:List UInt8,Op.bytesLess l l=false
 | []=>rfl
 | x::l=>by simp[Op.bytesLess,AEF l]
theorem vT:∀ {a b c:List UInt8},Op.bytesLess a b=true->Op.bytesLess b c=true->Op.bytesLess a c=true
 | [],[],_,h,_=>AOl
 | [],_::_,[],_,h=>by simp[Op.bytesLess] at h
 | [],_::_,_::_,_,_=>by simp[Op.bytesLess]
 | _::_,[],_,h,_=>by simp[Op.bytesLess] at h
 | _::_,_::_,[],_,h=>by simp[Op.bytesLess] at h
 | x::a,y::b,z::c,h1,h2=>by
  simp only[Op.bytesLess,aaN,ar,aQ,qX] at h1 h2 ⊢;rcases h1 with h1 | ⟨rfl,h1⟩
  .grind
  .rcases h2 with h2 | ⟨rfl,h2⟩
   .exact .inl h2
   .exact .inr ⟨rfl,vT h1 h2⟩
theorem AEG:∀ (a b:List UInt8),Op.bytesLess a b=true\/a=b\/Op.bytesLess b a=true
 | [],[]=>.inr (.inl rfl)
 | [],_::_=>.inl (by simp[Op.bytesLess])
 | _::_,[]=>.inr (.inr (by simp[Op.bytesLess]))
 | x::a,y::b=>by
  simp only[Op.bytesLess,aaN,ar,aQ,qX,List.cons.injEq]
  have ht:x<y\/x=y\/y<x:=by
   rcases Nat.lt_trichotomy x.toNat y.toNat with h | h | h
   .grind
   .grind
   .grind
  rcases ht with h | rfl | h
  .grind
  .rcases AEG a b with h | rfl | h
   .grind
   .grind
   grind
  grind
theorem zC {s t:ByteArray} (h:s.toList=t.toList):s=t:=by rw[ByteArray.toList_eq,ByteArray.toList_eq] at h;obtain⟨⟨x⟩⟩:=s;simp_all
theorem TY (a b:DVal):Ff a b=true↔a.ty<b.ty\/(a.ty=b.ty/\(a.n<b.n\/(a.n=b.n/\Op.bytesLess a.s.toList b.s.toList=true))):=by unfold Ff;grind
theorem Lp (a b:DVal):N7 a b=true↔a=b:=by
 unfold N7;simp only[ar,qX];constructor
 .rintro⟨h1,h2,h3⟩;cases a; cases b;grind [zC]
 grind
theorem Xw (a:DVal):Ff a a=false:=by grind [TY,AEF]
theorem Oo {a b c:DVal} (h1:Ff a b=true) (h2:Ff b c=true):Ff a c=true:=by grind [TY,vT]
theorem TZ (a b:DVal):Ff a b=true\/a=b\/Ff b a=true:=by rw[<- Lp,TY,TY];unfold N7;grind [Int.lt_trichotomy,AEG]
def KP (l:List DVal):Prop:=l.Pairwise fun a b=>Ff a b=true
theorem pG (v x:DVal):∀ d:List DVal,x∈ins v d↔x=v\/x∈d
 | []=>by simp[ins]
 | y::r=>by
  simp only[ins];split
  .simp only[TM,pG v x r];grind
  grind [Lp]
theorem eY (v:DVal):∀ d:List DVal,KP d->KP (ins v d)
 | [],_=>by simp[ins,KP]
 | y::r,h=>by
  obtain⟨h1,h2⟩:=abA.1 h;simp only[ins];split
  .rename_i hl;refine abA.2 ⟨fun z hz=>?_,eY v r h2⟩;grind [pG]
  .rename_i hl;split
   .exact h
   .rename_i he
    have hv:Ff v y=true:=by
     rcases TZ v y with g | g | g
     .exact g
     .grind [Lp]
     .grind
    refine abA.2 ⟨fun z hz=>?_,h⟩;grind [Oo]
theorem vU (l:List DVal):KP (DW l):=by
 have key:∀ (l d:List DVal),KP d->KP (l.foldl (fun d v=>ins v d) d):=by
  intro l;induction l with
  | nil=>grind
  | cons v l ih=>grind [eY]
 exact key l [] List.Pairwise.nil
theorem MH (l:List DVal) (x:DVal):x∈DW l↔x∈l:=by
 have key:∀ (l d:List DVal),x∈l.foldl (fun d v=>ins v d) d↔x∈l\/x∈d:=by
  intro l;induction l with
  | nil=>intro d; simp
  | cons v l ih =>
   grind [pG]
 simpa [DW] using key l []
theorem kZ:∀ {a b:List DVal},KP a->KP b->(∀ x,x∈a↔x∈b)->a=b
 | [],[],_,_,_=>rfl
 | [],y::b,_,_,h=>by have:=(h y).2 AOm; simp at this
 | x::a,[],_,_,h=>by have:=(h x).1 AOm; simp at this
 | x::a,y::b,ha,hb,h=>by
  obtain⟨a1,a2⟩:=abA.1 ha;obtain⟨b1,b2⟩:=abA.1 hb
  have hxy:x=y:=by
   rcases TM.1 ((h x).1 AOm) with g | g
   .exact g
   .rcases TM.1 ((h y).2 AOm) with k | k
    .exact k.symm
    grind [Oo,Xw]
  subst hxy;have:a=b:=kZ a2 b2 fun z=>by grind [Xw]
  rw[this]
