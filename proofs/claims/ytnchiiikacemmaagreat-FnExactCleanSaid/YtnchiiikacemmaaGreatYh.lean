/- A part. -/
import Derived.Test.YtnchiiikacemmaaGreatYf
import Derived.Test.YtnchiiikacemmaaGreatYt
set_option linter.unusedSimpArgs false
set_option linter.unusedVariables false
set_option maxHeartbeats 2000000
set_option maxRecDepth 10000
open Go.Proofs.Tryz
namespace Go.Proofs.YtnchiiikacemmaaGreat
open Go.Vm
theorem AFM:Gj []=true:=rfl
attribute [go_sem] AFM EJ OG Bf B_ Aq CX AFJ
theorem LH:∀ {b:List Int},eF (b.map byteC)→AQ b
 | [],_=>by simp[AQ]
 | c::b,h=>by
  simp only[V3,eF,MR,TN,oU] at h
  intro x hx
  rcases bW.1 hx with rfl | hx
  ·have:=h.1.1
   simp only[Nu,Lit.wf,ax,aY] at this
   simp[IntKind.min,IntKind.max,IntKind.bits,IntKind.signed] at this
   unfold isByte
   omega
  ·exact LH h.2 x hx
theorem AAB {a b:List Int} (ha:AQ a) (hb:AQ b):(strOfNums a=strOfNums b)↔a=b:=by
 constructor
 ·intro h
  rw[← jq ha,← jq hb,h]
 ·rintro rfl; rfl
theorem Cf {l:List DVal} (h:typeOf l≠0):1≤l.length∧l.length≤64∧∀ v∈l,BF v=true∧v.ty=typeOf l:=by
 cases l with
 | nil=>exact absurd rfl h
 | cons v r =>
  have e:typeOf (v::r)=if(v::r).length≤64∧∀ x∈(v::r),BF x=true∧x.ty=v.ty then v.ty else 0:=rfl
  rw[e] at h ⊢
  split at h
  ·rename_i h1
   rw[aX h1]
   exact⟨by simp,h1.1,h1.2⟩
  ·exact absurd rfl h
theorem DZ (n:Int):(EO n).length≤5:=XY 4 _
theorem UM {v:DVal} (h:BF v=true):(UG v).length≤7:=by
 unfold UG
 split
 ·have:=DZ v.n; omega
 ·rename_i h3
  have:v.s.size≤6:=by
   simp only[BF,aV h3,ax,aY] at h
   exact h.1.2
  simp[ABu]; omega
theorem JW:∀ {l:List DVal},(∀ v∈l,BF v=true)→(I5 l).length≤7*l.length
 | [],_=>by simp[I5]
 | v::l,h=>by
  have h1:=UM (h v (by simp))
  have h2:=JW fun x hx=>h x (aaX v hx)
  simp only[I5,V3,bM,aT,bY] at h1 h2 ⊢
  omega
theorem QW {v:DVal} (h:BF v=true):Z7 v=UG v:=by simp only[Z7,h,aW]
theorem I8 {n:Int} (h:Di n=true):W_ n=EO n:=by simp only[W_,h,aW]
theorem OJ {l:List DVal} {i:Nat} (h:i<l.length):I5 (l.take (i+1))=I5 (l.take i)++UG l[i]:=by
 rw[aau h]
 simp only[I5,Uz,zF,V3,cZ,bM,lT,bz]
theorem u_ {l:List Int} {i:Nat} (h:i<l.length):((l.take (i+1)).map EO).flatten=((l.take i).map EO).flatten++EO l[i]:=by
 rw[aau h]
 simp only[Uz,zF,V3,cZ,bM,lT,bz]
theorem VG:∀ l:List Int,((l.map EO).flatten).length≤5*l.length
 | []=>by simp
 | n::l=>by
  have h1:=DZ n
  have h2:=VG l
  simp only[V3,bM,aT,bY]
  omega
theorem Z8 (b:List Int) (l:List Int) (hl:l.length≤100000) (hb:b.length≤100000) (hn:∀ n∈l,Di n=true):Ctr prog 271 [.c (.sl (b.map byteC)),.c (.sl (l.map intC))] [.own 5 1 ((b++Oh l).map byteC) true]:=by
 refine CM call271 func271 ntmps271 results271 fun hw=>?_
 have h1:decide ((l.length:Int)>1000000000)=false:=by simp; omega
 simp only[go_sem]
 refine CallK.mk _ (Ez b (by omega)) fun _=>?_
 simp only[go_sem,h1]
 refine LoopU.mk 1 (A:=Nat) (fun x=>[(18,.c (.v (.int .i64 (x))))]) (fun _=>[⟨5,1,b.map byteC,true,true⟩]) (fun x=>x≤l.length) (fun x=>l.length-x) 0 ⟨⟨rfl,all1 (AP (B_ _))⟩,rfl,ak _⟩ ?_
 rintro i hi
 simp only[go_sem]
 refine cndC.mk (fun h=>?_) (fun h=>?_)
 ·have hi':i<l.length:=by simp at h; omega
  have hok:=hn _ (aj hi')
  simp only[go_sem,AA _ hi']
  refine CallK.mk _ (LC _) fun _=>?_
  simp only[go_sem,hok,wrap_i64 (n:=(i:Int)+1) (by omega) (by omega)]
  exact⟨i+1,⟨rfl,all1 (AP (B_ _))⟩,rfl,hi',by omega⟩
 ·simp only[go_sem]
  refine CallK.mk _ (FK b _ (by omega)) fun _=>?_
  rw[I8 (by simp[Di,Ac]; omega)]
  simp only[go_sem]
  have hq:=DZ (l.length:Int)
  refine LoopH.mk [11,27,30] (A:=Nat) (fun x=>[(33,.c (.v (.int .i64 (x)))),(5,.c (.ref 0))]) (fun x=>[⟨5,1,(b++EO l.length++((l.take x).map EO).flatten).map byteC,true,true⟩]) (fun x=>x≤l.length) (fun x=>l.length-x) 0 (Head.sel [(1,false)] ⟨rfl,rfl,EJ _,trivial⟩ (by simp only[abh,cZ,lT,bz]; rfl)) (ak _) ?_
  rintro i hi
  simp only[go_sem]
  refine cndC.mk (fun h=>?_) (fun h=>?_)
  ·have hi':i<l.length:=by simp at h; omega
   have hok:=hn _ (aj hi')
   have hq2:=VG (l.take i)
   rw[bn] at hq2
   simp only[go_sem,AA _ hi',EJ]
   refine CallK.mk _ (FK _ _ (by simp only[aT]; omega)) fun _=>?_
   rw[I8 hok]
   simp only[go_sem,wrap_i64 (n:=(i:Int)+1) (by omega) (by omega)]
   exact⟨i+1,Head.sel [(1,false)] ⟨rfl,rfl,EJ _,trivial⟩ (by rw[u_ hi']; simp; rfl),hi',by omega⟩
  ·have hi':i=l.length:=by simp at h; omega
   subst hi'
   simp only[go_sem,B_,Oh,bP,bJ]
   try simp
theorem LJ (l:List DVal) (hl:l.length≤1048576):Ctr prog 288 [.c (.sl (l.map DVal.c))] [.own 5 1 ((Dy l).map byteC) true]:=by
 refine CM call288 func288 ntmps288 results288 fun hw=>?_
 simp only[go_sem]
 refine CallK.mk _ (CB l hl) fun _=>?_
 rcases h1:typeOf l==0 with _ | _
 ·have h1':typeOf l≠0:=by simpa using h1
  obtain⟨q1,q2,q3⟩:=Cf h1'
  simp only[go_sem,h1,Dy,h1']
  refine LoopH.mk [6] (A:=Nat) (fun x=>[(13,.c (.v (.int .i64 (x)))),(3,.c (.ref 0))]) (fun x=>[⟨5,1,(I5 (l.take x)).map byteC,true,true⟩]) (fun x=>x≤l.length) (fun x=>l.length-x) 0 (Head.sel [(0,false)] ⟨rfl,rfl,rfl,trivial⟩ rfl) (ak _) ?_
  rintro i hi
  simp only[go_sem]
  refine cndC.mk (fun h=>?_) (fun h=>?_)
  ·have hi':i<l.length:=by simp at h; omega
   have hok:=(q3 _ (aj hi')).1
   have hq2:=JW (l:=l.take i) fun v hv=>(q3 v (zD hv)).1
   rw[bn] at hq2
   simp only[go_sem,AA _ hi',EJ]
   refine CallK.mk _ (OH _ _ (by omega)) fun _=>?_
   rw[QW hok,← OJ hi']
   simp only[go_sem,wrap_i64 (n:=(i:Int)+1) (by omega) (by omega)]
   exact⟨i+1,Head.sel [(2,false)] ⟨rfl,rfl,EJ _,trivial⟩ rfl,hi',by omega⟩
  ·have hi':i=l.length:=by simp at h; omega
   subst hi'
   simp only[go_sem,B_,bP,aI]
   try simp
 ·have h1':typeOf l=0:=by simpa using h1
  have e:Dy l = []:=aX h1'
  rw[e]
  simp only[go_sem,h1]
  try simp
theorem Pe (l:List DVal) (hl:l.length≤1048576):Ctr prog 312 [.c (.sl (l.map DVal.c))] [.own 5 1 ((Dy l).map byteC) true]:=by
 refine CM call312 func312 ntmps312 results312 fun hw=>?_
 simp only[go_sem]
 refine CallK.mk _ (D_ l hl) fun _=>?_
 rcases h1:typeOf l==0 with _ | _
 ·have h1':typeOf l≠0:=by simpa using h1
  obtain⟨q1,q2,q3⟩:=Cf h1'
  simp only[go_sem,h1,Dy,h1']
  refine LoopH.mk [5] (A:=Nat) (fun x=>[(4,.c (.v (.int .i64 (x)))),(3,.c (.ref 0))]) (fun x=>[⟨5,1,(I5 (l.take x)).map byteC,true,true⟩]) (fun x=>x≤l.length) (fun x=>l.length-x) 0 (Head.sel [(0,false)] ⟨rfl,rfl,rfl,trivial⟩ rfl) (ak _) ?_
  rintro i hi
  simp only[go_sem]
  refine cndC.mk (fun h=>?_) (fun h=>?_)
  ·have hi':i<l.length:=by simp at h; omega
   have hok:=(q3 _ (aj hi')).1
   have hq2:=JW (l:=l.take i) fun v hv=>(q3 v (zD hv)).1
   rw[bn] at hq2
   simp only[go_sem,AA _ hi',EJ]
   refine CallK.mk _ (OI _ _ (by omega)) fun _=>?_
   rw[QW hok,← OJ hi']
   simp only[go_sem,wrap_i64 (n:=(i:Int)+1) (by omega) (by omega)]
   exact⟨i+1,Head.sel [(1,false)] ⟨rfl,rfl,EJ _,trivial⟩ rfl,hi',by omega⟩
  ·have hi':i=l.length:=by simp at h; omega
   subst hi'
   simp only[go_sem,B_,bP,aI]
   try simp
 ·have h1':typeOf l=0:=by simpa using h1
  have e:Dy l = []:=aX h1'
  rw[e]
  simp only[go_sem,h1]
  try simp
def ABy:Option (List DVal×Nat)→List Res
 | some (l,q)=>[.own 119 3 (l.map DVal.c) true,.val (.c (.v (.int .i64 ((q:Int))))),.val (.c (.v (.bool (true))))]
 | none=>[.own 119 3 [] true,.val (.c (.v (.int .i64 (0)))),.val (.c (.v (.bool (false))))]
theorem FN (out:List DVal) (v:DVal):(out ++ [v]).map DVal.c=out.map DVal.c ++ [v.c]:=by simp
theorem KT (l:List DVal) (n:DVal):Gj (l.map DVal.c ++ [n.c])=true:=by rw[← FN]; exact OG _
theorem UN (b:List Int) (p:Nat) (ty k:Int) (hb:AQ b) (hl:b.length≤1048576) (hk:k≤64):Ctr prog 287 [.c (.sl (b.map byteC)),.c (.v (.int .i64 ((p:Int)))),.c (.v (.int .i64 (ty))),.c (.v (.int .i64 (k)))] (ABy (Ba b ty k.toNat p)):=by
 refine CM call287 func287 ntmps287 results287 fun hw=>?_
 simp only[go_sem]
 refine LoopH.mk [16] (A:=Nat×Nat×List DVal) (fun x=>[(12,.c (.v (.int .i64 (x.1)))),(11,.c (.ref 0)),(1,.c (.v (.int .i64 ((x.2.1:Int)))))]) (fun x=>[⟨119,3,x.2.2.map DVal.c,true,true⟩]) (fun x=>x.1≤k.toNat∧x.2.2.length=x.1∧(Ba b ty (k.toNat-x.1) x.2.1).map (fun y=>(x.2.2++y.1,y.2))=Ba b ty k.toNat p) (fun x=>k.toNat-x.1) (0,p,[]) (Head.sel [(0,false)] ⟨rfl,rfl,rfl,trivial⟩ rfl) ⟨ak _,rfl,by simp⟩ ?_
 rintro⟨i,q',l⟩ ⟨hi,hll,hb2⟩
 dsimp only at hi hll hb2
 simp only[go_sem]
 refine cndC.mk (fun h=>?_) (fun h=>?_)
 ·have hi':i<k.toNat:=by simp at h; omega
  rw[show k.toNat-i=(k.toNat-(i+1))+1 by omega,Ba] at hb2
  have hg2:=UL b q' ty hb hl
  simp only[go_sem]
  rcases h3:Ei b q' ty with _ | ⟨n,q2⟩<;>rw[h3] at hg2 hb2<;>simp only[Yo] at hg2
  ·refine CallK.mk _ hg2 fun _=>?_
   simp only[dm] at hb2
   rw[← hb2]
   simp only[go_sem,ABy]
   try simp[FT]
  ·refine CallK.mk _ hg2 fun _=>?_
   have hl2:l.length+1≤2147483648:=by omega
   simp only[go_sem,hl2,wrap_i64 (n:=(i:Int)+1) (by omega) (by omega)]
   exact⟨(i+1,q2,l ++ [n]),Head.sel [(3,false)] ⟨rfl,rfl,KT l n,trivial⟩ (by rw[FN]; rfl),⟨hi',by simp; omega,by rw[← hb2,zI]; congr 1; funext y; simp⟩,by simp only; omega⟩
 ·have hi':i=k.toNat:=by simp at h; omega
  subst hi'
  rw[XL,Ba] at hb2
  simp only[bU,bz] at hb2
  rw[← hb2]
  simp only[go_sem,ABy,CX]
  try simp
def C_:Option (List DVal)→List Res
 | some l=>[.val (.c (.sl (l.map DVal.c))),.val (.c (.v (.bool (true))))]
 | none=>[.val (.c (.sl [])),.val (.c (.v (.bool (false))))]
theorem xu {a b:List Int} (ha:AQ a) (hb:AQ b):((strOfNums a).toList==(strOfNums b).toList)=decide (a=b):=by
 rw[Bool.eq_iff_iff,Zi,aY,← AAB ha hb]
 exact⟨vO,fun h=>by rw[h]⟩
theorem J8 (a b:List Int):Ctr prog 242 [.c (.sl (a.map byteC)),.c (.sl (b.map byteC))] [.val (.c (.v (.bool (decide (a=b)))))]:=by
 refine CM call242 func242 ntmps242 results242 fun hw=>?_
 have h1:=LH hw.1.2
 have h2:=LH hw.2.1.2
 simp only[go_sem,LG,xu h1 h2]
theorem Hr (a b:List Int):Ctr prog 256 [.c (.sl (a.map byteC)),.c (.sl (b.map byteC))] [.val (.c (.v (.bool (decide (a=b)))))]:=by
 refine CM call256 func256 ntmps256 results256 fun hw=>?_
 have h1:=LH hw.1.2
 have h2:=LH hw.2.1.2
 simp only[go_sem,LG,xu h1 h2]
theorem Bg (b:List Int) (k:Int) (l:List DVal) (e:List Int):Ctr prog 268 [.c (.sl (b.map byteC)),.c (.v (.int .i64 (k))),.c (.sl (l.map DVal.c)),.c (.sl (e.map byteC))] (C_ (again b k l e)):=by
 refine CM call268 func268 ntmps268 results268 fun hw=>?_
 simp only[go_sem]
 refine CallK.mk _ (AC _ _ _) fun _=>?_
 rcases h1:Ac k 1 64 with _ | _
 ·have:again b k l e=none:=aV (by simp[Ac] at h1; omega)
  simp only[go_sem,this,C_]
 have h1':1≤k∧k≤64:=by simp[Ac] at h1; omega
 simp only[go_sem]
 rcases h2:(l.length:Int) != k with _ | _
 ·have h2':(l.length:Int)=k:=by simpa using h2
  simp only[go_sem]
  refine CallK.mk _ (J8 b e) fun _=>?_
  rcases h3:decide (b=e) with _ | _
  ·have:again b k l e=none:=aV (fun q=>by simp at h3; exact h3 q.2.2.2)
   simp only[go_sem,this,C_]
  ·have:again b k l e=some l:=aX ⟨h1'.1,h1'.2,h2',by simpa using h3⟩
   simp only[go_sem,this,C_]
 ·have:again b k l e=none:=aV (by simp at h2; omega)
  simp only[go_sem,this,C_]
theorem Yp (b:List Int) (ty k:Int) (hb:AQ b) (hl:b.length≤1048576):Ctr prog 251 [.c (.sl (b.map byteC)),.c (.v (.int .i64 (ty))),.c (.v (.int .i64 (k)))] (C_ (FD b ty k)):=by
 refine CM call251 func251 ntmps251 results251 fun hw=>?_
 simp only[go_sem]
 refine CallK.mk _ (AL _ _ _) fun _=>?_
 rcases h2:Ac k 1 64 with _ | _
 ·have:FD b ty k=none:=aV (by simp[Ac] at h2; omega)
  simp only[go_sem,this,C_]
  try simp[FT]
 have h2':1≤k∧k≤64:=by simp[Ac] at h2; omega
 have hall:FD b ty k=match Ba b ty k.toNat 0 with
  | none=>none
  | some (l,q)=>if q=b.length then some l else none:=aX h2'
 simp only[go_sem]
 refine LoopH.mk [14] (A:=Nat×Nat×List DVal) (fun x=>[(10,.c (.v (.int .i64 (x.1)))),(8,.c (.ref 0)),(9,.c (.v (.int .i64 ((x.2.1:Int)))))]) (fun x=>[⟨119,3,x.2.2.map DVal.c,true,true⟩]) (fun x=>x.1≤k.toNat∧x.2.2.length=x.1∧(Ba b ty (k.toNat-x.1) x.2.1).map (fun y=>(x.2.2++y.1,y.2))=Ba b ty k.toNat 0) (fun x=>k.toNat-x.1) (0,0,[]) (Head.sel [(0,false)] ⟨rfl,rfl,rfl,trivial⟩ rfl) ⟨ak _,rfl,by simp⟩ ?_
 rintro⟨i,q',l⟩ ⟨hi,hll,hb2⟩
 dsimp only at hi hll hb2
 simp only[go_sem]
 refine cndC.mk (fun h=>?_) (fun h=>?_)
 ·have hi':i<k.toNat:=by simp at h; omega
  rw[show k.toNat-i=(k.toNat-(i+1))+1 by omega,Ba] at hb2
  have hg2:=KR b q' ty hb hl
  simp only[go_sem]
  rcases h3:Ei b q' ty with _ | ⟨n,q2⟩<;>rw[h3] at hg2 hb2<;>simp only[Yo] at hg2
  ·refine CallK.mk _ hg2 fun _=>?_
   simp only[dm] at hb2
   rw[hall,← hb2]
   simp only[go_sem,C_]
   try simp[FT]
  ·refine CallK.mk _ hg2 fun _=>?_
   have hl2:l.length+1≤2147483648:=by omega
   simp only[go_sem,hl2,wrap_i64 (n:=(i:Int)+1) (by omega) (by omega)]
   exact⟨(i+1,q2,l ++ [n]),Head.sel [(3,false)] ⟨rfl,rfl,KT l n,trivial⟩ (by rw[FN]; rfl),⟨hi',by simp; omega,by rw[← hb2,zI]; congr 1; funext y; simp⟩,by simp only; omega⟩
 ·have hi':i=k.toNat:=by simp at h; omega
  subst hi'
  rw[XL,Ba] at hb2
  simp only[bU,bz] at hb2
  rw[hall,← hb2]
  rcases h4:((q':Int) != (b.length:Int)) with _ | _
  ·have h4':q'=b.length:=by simp at h4; omega
   simp only[go_sem,h4,aX h4',C_]
   try simp[BX,AY]
  ·have h4':¬ q'=b.length:=by simp at h4; omega
   simp only[go_sem,h4,aV h4',C_]
   try simp[FT]
theorem Yq (b:List Int) (ty k:Int) (hb:AQ b) (hl:b.length≤1048576):Ctr prog 263 [.c (.sl (b.map byteC)),.c (.v (.int .i64 (ty))),.c (.v (.int .i64 (k)))] (C_ (FD b ty k)):=by
 rw[← WF hb]
 refine CM call263 func263 ntmps263 results263 fun hw=>?_
 simp only[go_sem]
 refine CallK.mk _ (AC _ _ _) fun _=>?_
 rcases h2:Ac k 1 64 with _ | _
 ·have:NJ b ty k=none:=aV (by simp[Ac] at h2; omega)
  simp only[go_sem,this,C_]
  try simp[FT]
 have h2':1≤k∧k≤64:=by simp[Ac] at h2; omega
 simp only[go_sem]
 have hg:=UN b 0 ty k hb hl h2'.2
 have hall:NJ b ty k=again b k (((Ba b ty k.toNat 0).map Prod.fst).getD []) (Dy (((Ba b ty k.toNat 0).map Prod.fst).getD [])):=aX h2'
 rw[hall]
 rcases h3:Ba b ty k.toNat 0 with _ | ⟨l,q⟩<;>rw[h3] at hg<;>simp only[ABy] at hg<;>simp only[dm,bU,rV,aS]
 ·refine CallK.mk _ hg fun _=>?_
  simp only[go_sem]
  refine CallK.mk _ (LJ [] (by simp)) fun _=>?_
  simp only[go_sem]
  refine CallK.mk _ (Bg b k [] (Dy [])) fun _=>?_
  rcases h4:again b k [] (Dy []) with _ | l'<;>simp only[go_sem,C_]
 ·refine CallK.mk _ hg fun _=>?_
  simp only[go_sem]
  have hlen:=(IZ hb _ _ _ _ (ak _) h3).2.2.1
  refine CallK.mk _ (LJ l (by omega)) fun _=>?_
  simp only[go_sem]
  refine CallK.mk _ (Bg b k l (Dy l)) fun _=>?_
  rcases h4:again b k l (Dy l) with _ | l'<;>simp only[go_sem,C_]
def Gf (r:DVal×Int):List Cl:=[.v (.int .i64 r.1.ty),.v (.int .i64 r.1.n),.v (.string r.1.s),.v (.int .i64 r.2)]
theorem AAC (r:DVal×Int):CQ (Gf r)=true:=rfl
theorem Ru (l:List (DVal×Int)):Gj (l.map Gf)=true:=AO AAC
def LW:List (DVal×Int)→DVal→List (DVal×Int)
 | [],v=>[(v,1)]
 | [x],v=>if KX x.1 v=true then [(x.1,x.2+1)] else [x,(v,1)]
 | x::y::r,v=>x::LW (y::r) v
theorem ADW (r:List (DVal×Int)) (v:DVal):LW r v≠ []:=by
 cases r with
 | nil=>simp[LW]
 | cons x r =>
  cases r with
  | nil=>simp only[LW]; split<;>simp
  | cons y r=>simp[LW]
theorem ABz {l:List DVal} (h:runs l = []):l = []:=by
 cases l with
 | nil=>rfl
 | cons v l =>
  rw[runs] at h
  split at h
  ·cases h
  ·split at h<;>cases h
theorem QX (v:DVal) (l:List DVal):runs (v::l)=match runs l with
  | []=>[(v,1)]
  | (x,k)::r=>if KX v x=true then(x,k+1)::r else(v,1)::(x,k)::r:=by rw[runs]; rfl
theorem QY (v:DVal):∀ l:List DVal,runs (l ++ [v])=LW (runs l) v
 | []=>rfl
 | a::l=>by
  have ih:=QY v l
  rw[bH,QX,QX,ih]
  cases hr:runs l with
  | nil =>
   have:=ABz hr
   subst this
   simp only[LW]
   by_cases h:KX a v=true
   ·have:=(I_ a v).1 h
    subst this
    simp[h]
   ·simp[h]
  | cons y r =>
   obtain⟨x,k⟩:=y
   cases r with
   | nil =>
    simp only[LW]
    by_cases h:KX x v=true<;>by_cases h2:KX a x=true<;>simp[h,h2,LW]
   | cons z r =>
    rw[LW]
    dsimp only
    by_cases h2:KX a x=true
    ·rw[aX h2,aX h2,LW]
    ·rw[aV h2,aV h2,LW,LW]
theorem kF (v:DVal):∀ {rs:List (DVal×Int)} {n:Nat} (h:rs.length=n+1),LW rs v=if KX (rs[n]'(by omega)).1 v=true then rs.set n ((rs[n]'(by omega)).1,(rs[n]'(by omega)).2+1) else rs ++ [(v,1)]
 | [],_,h=>by simp at h
 | [x],n,h=>by
  have:n=0:=by simpa using h.symm
  subst this
  simp only[LW,abz]
  rfl
 | x::y::r,n,h=>by
  obtain⟨m,rfl⟩:∃ m,n=m+1:=⟨n-1,by simp at h; omega⟩
  rw[LW,kF v (rs:=y::r) (n:=m) (by simpa using h)]
  simp only[abA,List.set_cons_succ,bH]
  split<;>rfl
theorem fD (v:DVal):∀ (rs:List (DVal×Int)),∃ q,(LW rs v).getLast?=some (v,q)
 | []=>⟨1,rfl⟩
 | [x]=>by
  simp only[LW]
  split
  ·rename_i h
   exact⟨x.2+1,by rw[(I_ _ _).1 h]; rfl⟩
  ·exact⟨1,rfl⟩
 | x::y::r=>by
  obtain⟨q,hq⟩:=fD v (y::r)
  refine⟨q, ?_⟩
  rw[LW,List.getLast?_cons,hq]; rfl
theorem Ju:∀ {l:List DVal} {r:DVal×Int},r∈runs l→r.1∈l∧1≤r.2∧r.2≤l.length
 | [],_,h=>by cases h
 | v::l,r,h=>by
  rw[QX] at h
  have ih:=fun r=>Ju (l:=l) (r:=r)
  cases hr:runs l with
  | nil =>
   simp only[hr,aa4] at h
   subst h
   simp only[bW,bY]
   exact⟨.inl trivial,by omega,by omega⟩
  | cons y q =>
   obtain⟨x,k⟩:=y
   rw[hr] at h ih
   dsimp only at h
   split at h
   ·rcases bW.1 h with rfl | h
    ·obtain⟨a1,a2,a3⟩:=ih (x,k) (by simp)
     simp only[bW,bY] at *
     exact⟨.inr a1,by omega,by omega⟩
    ·obtain⟨a1,a2,a3⟩:=ih r (by simp[h])
     simp only[bW,bY]
     exact⟨.inr a1,by omega,by omega⟩
   ·rcases bW.1 h with rfl | h
    ·simp only[bW,bY]
     exact⟨.inl trivial,by omega,by omega⟩
    ·obtain⟨a1,a2,a3⟩:=ih r h
     simp only[bW,bY]
     exact⟨.inr a1,by omega,by omega⟩
theorem NK:∀ l:List DVal,(runs l).length≤l.length
 | []=>aK _
 | v::l=>by
  have:=NK l
  rw[QX]
  split
  ·simp
  ·rename_i x k r h
   rw[h] at this
   simp only[bY] at this ⊢
   split<;>simp<;>omega
theorem take_snoc {α:Type} {l:List α} {i:Nat} (h:i<l.length):l.take (i+1)=l.take i ++ [l[i]]:=aau h
theorem Yr (rs:List (DVal×Int)) (v:DVal):(rs ++ [(v,1)]).map Gf=rs.map Gf ++ [[.v (.int .i64 v.ty),.v (.int .i64 v.n),.v (.string v.s),.v (.int .i64 1)]]:=by simp[Gf]
theorem qL (rs:List (DVal×Int)) (v:DVal):Gj (rs.map Gf ++ [[.v (.int .i64 v.ty),.v (.int .i64 v.n),.v (.string v.s),.v (.int .i64 1)]])=true:=by rw[← Yr]; exact Ru _
theorem kG (rs:List (DVal×Int)) (n:Nat) (v:DVal) (k:Int):(rs.set n (v,k)).map Gf=(rs.map Gf).set n [.v (.int .i64 v.ty),.v (.int .i64 v.n),.v (.string v.s),.v (.int .i64 k)]:=by rw[abm]; rfl
theorem xw (rs:List (DVal×Int)) (n:Nat) (v:DVal) (k:Int):Gj ((rs.map Gf).set n [.v (.int .i64 v.ty),.v (.int .i64 v.n),.v (.string v.s),.v (.int .i64 k)])=true:=by rw[← kG]; exact Ru _
theorem fE {l:List DVal} {j:Nat} (hj:j<l.length):∃ (n:Nat) (h:(runs (l.take (j+1))).length=n+1),((runs (l.take (j+1)))[n]'(by omega)).1=l[j]:=by
 have hs:runs (l.take (j+1))=LW (runs (l.take j)) l[j]:=by rw[take_snoc hj,QY]
 obtain⟨q,hq⟩:=fD l[j] (runs (l.take j))
 rw[← hs] at hq
 have hne:runs (l.take (j+1))≠ []:=by rw[hs]; exact ADW _ _
 have hlen:0<(runs (l.take (j+1))).length:=aa0.2 hne
 refine⟨(runs (l.take (j+1))).length-1,by omega, ?_⟩
 rw[List.getLast?_eq_getElem?,aA (by omega)] at hq
 rw[XK hq]
theorem vC (l:List DVal) (hl:l.length≤1048576):Ctr prog 314 [.c (.sl (l.map DVal.c))] [.val (.c (.sl ((runs l).map Gf)))]:=by
 refine CM call314 func314 ntmps314 results314 fun hw=>?_
 simp only[go_sem]
 refine LoopH.mk [6] (A:=Nat) (fun x=>[(9,.c (.v (.int .i64 (x)))),(3,.c (.ref 0))]) (fun x=>[⟨270,4,(runs (l.take x)).map Gf,true,true⟩]) (fun x=>x≤l.length) (fun x=>l.length-x) 0 (Head.sel [(0,false)] ⟨rfl,rfl,rfl,trivial⟩ rfl) (ak _) ?_
 rintro i hi
 simp only[go_sem]
 refine cndC.mk (fun h=>?_) (fun h=>?_)
 ·have hi':i<l.length:=by simp at h; omega
  have hs:runs (l.take (i+1))=LW (runs (l.take i)) l[i]:=by rw[take_snoc hi',QY]
  have hrl:=NK (l.take i)
  rw[bn] at hrl
  have hl2:(runs (l.take i)).length+1≤2147483648:=by omega
  rcases h2:decide ((i:Int)>0) with _ | _
  ·have h2':i=0:=by simp at h2; omega
   subst h2'
   have hs2:runs (l.take (0+1)) = [(l[0],1)]:=by rw[hs]; rfl
   have hs3:(runs ([]:List DVal)).map Gf = []:=rfl
   have hs4:(runs ([]:List DVal)).length=0:=rfl
   simp only[go_sem,AA _ hi']
   refine DrawK.mk ?_
   simp only[go_sem,h2,hs4,wrap_i64 (n:=((0:Nat):Int)+1) (by omega) (by omega)]
   exact⟨0+1,Head.sel [(3,false)] ⟨rfl,rfl,rfl,trivial⟩ (by rw[hs2]; rfl),hi',by omega⟩
  ·have h2':0<i:=by simpa using h2
   obtain⟨j,rfl⟩:∃ j,i=j+1:=⟨i-1,by omega⟩
   have hj:j<l.length:=by omega
   have hw1:IntKind.i64.wrap (((j+1:Nat):Int)-1)=(j:Int):=by rw[show (((j+1:Nat):Int)-1)=(j:Int) by omega]; exact wrap_i64 (by omega) (by omega)
   have e1:(l[j].ty==l[j+1].ty&&(l[j].n==l[j+1].n&&l[j].s.toList==l[j+1].s.toList))=KX l[j] l[j+1]:=rfl
   obtain⟨n,hn,hn2⟩:=fE hj
   have hn3:n<(runs (l.take (j+1))).length:=by omega
   rw[kF l[j+1] hn,hn2] at hs
   simp only[go_sem,AA _ hi']
   refine DrawK.mk ?_
   simp only[go_sem,h2,hw1,AA _ hj,FB,Iu,e1]
   rcases h3:KX l[j] l[j+1] with _ | _
   ·rw[h3,aV (by simp)] at hs
    simp only[go_sem,hl2,wrap_i64 (n:=((j+1:Nat):Int)+1) (by omega) (by omega)]
    exact⟨j+1+1,Head.sel [(3,false)] ⟨rfl,rfl,qL _ _,trivial⟩ (by rw[hs,Yr]; rfl),hi',by omega⟩
   ·rw[h3,aX rfl] at hs
    have hw2:IntKind.i64.wrap (((runs (l.take (j+1))).length:Int)-1)=(n:Int):=by rw[show (((runs (l.take (j+1))).length:Int)-1)=(n:Int) by omega]; exact wrap_i64 (by omega) (by omega)
    obtain⟨b1,b2,b3⟩:=Ju (aj hn3)
    rw[bn] at b3
    simp only[go_sem,hw2,hn3,AA _ hn3,Gf,hn2,wrap_i64 (n:=(runs (l.take (j+1)))[n].2+1) (by omega) (by omega),wrap_i64 (n:=((j+1:Nat):Int)+1) (by omega) (by omega)]
    exact⟨j+1+1,Head.sel [(0,false)] ⟨rfl,rfl,xw _ _ _ _,trivial⟩ (by rw[hs,kG]; rfl),hi',by omega⟩
 ·have hi':i=l.length:=by simp at h; omega
  subst hi'
  simp only[go_sem,bP,Ru]
  try simp[BX,AY]
theorem vF (l:List DVal) (hl:l.length≤1048576):Ctr prog 301 [.c (.sl (l.map DVal.c))] [.val (.c (.sl ((runs l).map Gf)))]:=by
 refine CM call301 func301 ntmps301 results301 fun hw=>?_
 simp only[go_sem]
 refine LoopH.mk [6] (A:=Nat) (fun x=>[(4,.c (.v (.int .i64 (x)))),(3,.c (.ref 0))]) (fun x=>[⟨270,4,(runs (l.take x)).map Gf,true,true⟩]) (fun x=>x≤l.length) (fun x=>l.length-x) 0 (Head.sel [(0,false)] ⟨rfl,rfl,rfl,trivial⟩ rfl) (ak _) ?_
 rintro i hi
 simp only[go_sem]
 refine cndC.mk (fun h=>?_) (fun h=>?_)
 ·have hi':i<l.length:=by simp at h; omega
  have hs:runs (l.take (i+1))=LW (runs (l.take i)) l[i]:=by rw[take_snoc hi',QY]
  have hrl:=NK (l.take i)
  rw[bn] at hrl
  have hl2:(runs (l.take i)).length+1≤2147483648:=by omega
  rcases i with _ | j
  ·have h2:decide ((0:Int)>0)=false:=by decide
   have hs2:runs (l.take (0+1)) = [(l[0],1)]:=by rw[hs]; rfl
   have hs4:(runs ([]:List DVal)).length=0:=rfl
   simp only[go_sem,abh,hs4,Int.ofNat_zero]
   refine DrawK.mk ?_
   simp only[go_sem,abh,hs4,h2,AA _ hi',wrap_i64 (n:=(0:Int)+1) (by omega) (by omega)]
   exact⟨0+1,Head.sel [(2,false)] ⟨rfl,rfl,rfl,trivial⟩ (by rw[hs2]; rfl),hi',by omega⟩
  ·have hj:j<l.length:=by omega
   obtain⟨n,hn,hn2⟩:=fE hj
   have hn3:n<(runs (l.take (j+1))).length:=by omega
   rw[kF l[j+1] hn,hn2] at hs
   have h2:decide (((runs (l.take (j+1))).length:Int)>0)=true:=by rw[aY]; omega
   have hw2:IntKind.i64.wrap (((runs (l.take (j+1))).length:Int)-1)=(n:Int):=by rw[show (((runs (l.take (j+1))).length:Int)-1)=(n:Int) by omega]; exact wrap_i64 (by omega) (by omega)
   have e1:(l[j].ty==l[j+1].ty&&(l[j].n==l[j+1].n&&l[j].s.toList==l[j+1].s.toList))=KX l[j] l[j+1]:=rfl
   simp only[go_sem]
   refine DrawK.mk ?_
   simp only[go_sem,h2,hw2,hn3,AA _ hn3,AA _ hi',Gf,hn2,FB,Iu,e1]
   rcases h3:KX l[j] l[j+1] with _ | _
   ·rw[h3,aV (by simp)] at hs
    simp only[go_sem,hl2,AA _ hi',wrap_i64 (n:=((j+1:Nat):Int)+1) (by omega) (by omega)]
    exact⟨j+1+1,Head.sel [(2,false)] ⟨rfl,rfl,qL _ _,trivial⟩ (by rw[hs,Yr]; rfl),hi',by omega⟩
   ·rw[h3,aX rfl] at hs
    obtain⟨b1,b2,b3⟩:=Ju (aj hn3)
    rw[bn] at b3
    simp only[go_sem,hw2,hn3,AA _ hn3,Gf,hn2,wrap_i64 (n:=(runs (l.take (j+1)))[n].2+1) (by omega) (by omega),wrap_i64 (n:=((j+1:Nat):Int)+1) (by omega) (by omega)]
    exact⟨j+1+1,Head.sel [(0,false)] ⟨rfl,rfl,xw _ _ _ _,trivial⟩ (by rw[hs,kG]; rfl),hi',by omega⟩
 ·have hi':i=l.length:=by simp at h; omega
  subst hi'
  simp only[go_sem,bP,Ru]
  try simp[BX,AY]
theorem OL (v:DVal) (k:Int) (r:List (DVal×Int)) (n:Nat):G9 ((v,k)::r) n=if k<1∨k>64-n then none else(G9 r (n+k.toNat)).map fun l=>List.replicate k.toNat v++l:=rfl
theorem OM {α:Type} {l:List α} {i:Nat} (h:i<l.length):l.drop i=l[i]::l.drop (i+1):=aC h
theorem qM (out:List DVal) (j:Nat) (v:DVal):(out++List.replicate (j+1) v).map DVal.c=(out++List.replicate j v).map DVal.c ++ [v.c]:=by
 rw[List.replicate_succ',← bJ,FN]
theorem AB0 (out:List DVal) (j:Nat) (v:DVal):Gj ((out++List.replicate j v).map DVal.c ++ [v.c])=true:=by rw[← FN]; exact OG _
theorem kH (r:List (DVal×Int)) (hl:r.length≤1048576):Ctr prog 290 [.c (.sl (r.map Gf))] [.val (.c (.sl ((spread r).map DVal.c)))]:=by
 refine CM call290 func290 ntmps290 results290 fun hw=>?_
 simp only[go_sem]
 refine LoopH.mk [7] (A:=Nat×List DVal) (fun x=>[(10,.c (.v (.int .i64 (x.1)))),(3,.c (.ref 0))]) (fun x=>[⟨119,3,x.2.map DVal.c,true,true⟩]) (fun x=>x.1≤r.length∧x.2.length≤64∧(G9 (r.drop x.1) x.2.length).map (fun y=>x.2++y)=G9 r 0) (fun x=>r.length-x.1) (0,[]) (Head.sel [(0,false)] ⟨rfl,rfl,rfl,trivial⟩ rfl) ⟨ak _,ak _,by simp⟩ ?_
 rintro⟨i,out⟩ ⟨hi,hll,hp⟩
 dsimp only at hi hll hp
 simp only[go_sem]
 refine cndC.mk (fun h=>?_) (fun h=>?_)
 ·have hi':i<r.length:=by simp at h; omega
  rw[OM hi',show r[i]=(r[i].1,r[i].2) from rfl,OL] at hp
  rcases h2:decide (r[i].2<1) with _ | _
  rotate_left
  ·rw[aX (.inl (by simpa using h2))] at hp
   simp only[dm] at hp
   have e:spread r = []:=by rw[spread,← hp]; rfl
   rw[e]
   simp only[go_sem,AA _ hi',Gf,h2,cZ]
  have h2':1≤r[i].2:=by simp at h2; omega
  have hw1:IntKind.i64.wrap (64-(out.length:Int))=64-(out.length:Int):=wrap_i64 (by omega) (by omega)
  rcases h3:decide (r[i].2>64-(out.length:Int)) with _ | _
  rotate_left
  ·rw[aX (.inr (by simpa using h3))] at hp
   simp only[dm] at hp
   have e:spread r = []:=by rw[spread,← hp]; rfl
   rw[e]
   simp only[go_sem,AA _ hi',Gf,h2,hw1,h3,cZ]
  have h3':r[i].2≤64-(out.length:Int):=by simp at h3; omega
  obtain⟨K,hK⟩:=aP (show 0≤r[i].2 by omega)
  rw[aV (by omega),hK,bV] at hp
  rw[hK] at h2 h3 h2' h3'
  simp only[go_sem,AA _ hi',Gf,hK,h2,hw1,h3]
  refine LoopH.mk [20] (A:=Nat) (fun x=>[(6,.c (.v (.int .i64 (x)))),(3,.c (.ref 0))]) (fun x=>[⟨119,3,(out++List.replicate x r[i].1).map DVal.c,true,true⟩,⟨270,4,[Gf (r[i].1,(K:Int))],true,true⟩]) (fun x=>x≤K) (fun x=>K-x) 0 (Head.sel [(0,false),(1,false)] ⟨rfl,rfl,OG _,rfl,trivial⟩ (by simp only[List.replicate_zero,bz]; rfl)) (ak _) ?_
  rintro j hj
  have hl2:out.length+j+1≤2147483648:=by omega
  simp only[go_sem,Gf]
  refine cndC.mk (fun h=>?_) (fun h=>?_)
  ·have hj':j<K:=by simp at h; omega
   simp only[go_sem,hl2,abp,wrap_i64 (n:=(j:Int)+1) (by omega) (by omega)]
   exact⟨j+1,Head.sel [(3,false),(1,false)] ⟨rfl,rfl,AB0 _ _ _,rfl,trivial⟩ (by rw[qM]; rfl),hj',by omega⟩
  ·have hj':j=K:=by simp at h; omega
   subst hj'
   simp only[go_sem,wrap_i64 (n:=(i:Int)+1) (by omega) (by omega)]
   exact⟨(i+1,out++List.replicate j r[i].1),Head.sel [(0,false)] ⟨rfl,rfl,OG _,trivial⟩ rfl,⟨hi',by simp; omega,by
    rw[← hp,zI,aT,abp]; congr 1; funext y; simp⟩,by simp only; omega⟩
 ·have hi':i=r.length:=by simp at h; omega
  subst hi'
  rw[aO] at hp
  simp only[G9,bU,bz] at hp
  have e:spread r=out:=by rw[spread,← hp]; rfl
  rw[e]
  simp only[go_sem]
  try simp[BX,AY]
end Go.Proofs.YtnchiiikacemmaaGreat
