/- A part. -/
import Derived.Test.YtnoldekcdlaahaaGreatYh
import Derived.Test.YtnoldekcdlaahaaGreatYo
import Derived.Test.YtnoldekcdlaahaaGreatYe
set_option linter.unusedSimpArgs false
set_option linter.unusedVariables false
set_option maxHeartbeats 2000000
set_option maxRecDepth 10000
open Go.Proofs.Tryz
namespace Go.Proofs.YtnoldekcdlaahaaGreat
open Go.Vm
theorem qE (r:List (DVal×Int)) (hl:r.length≤1048576):Ctr prog 413 [.c (.sl (r.map FY))] [.val (.c (.sl ((spread r).map DVal.c)))]:=by
 refine CM call413 func413 ntmps413 results413 fun hw=>?_
 simp only[go_sem]
 refine AB6 [6] (A:=Nat×List DVal) (fun x=>[(4,.c (.v (.int .i64 (x.1)))),(3,.c (.ref 0))]) (fun x=>[⟨64,3,x.2.map DVal.c,true,true⟩]) (fun x=>x.1≤r.length∧x.2.length≤64∧(IQ (r.drop x.1) x.2.length).map (fun y=>x.2++y)=IQ r 0) (fun x=>r.length-x.1) (0,[]) (AB3 [(0,false)] ⟨rfl,rfl,rfl,trivial⟩ rfl) ⟨az _,az _,AOi⟩ ?_
 rintro⟨i,out⟩ ⟨hi,hll,hp⟩
 dsimp only at hi hll hp
 refine AOb (fun h=>?_) fun h=>?_
 ·have hi':i<r.length:=by simp at h; omega
  rw[QK hi',show r[i]=(r[i].1,r[i].2) from rfl,QJ] at hp
  rcases h2:decide (r[i].2<1) with _ | _
  rotate_left
  ·rw[bu (.inl APP)] at hp
   simp only[WY] at hp
   have e:spread r = []:=APh
   rw[e]
   simp only[go_sem,AA _ hi',FY,h2,cu]
   try simp[DI]
  have h2':1≤r[i].2:=AOw
  have hw1:IntKind.i64.wrap (64-(out.length:Int))=64-(out.length:Int):=wrap_i64 AOh AOh
  rcases h3:decide (r[i].2>64-(out.length:Int)) with _ | _
  rotate_left
  ·rw[bu (.inr AOx)] at hp
   simp only[WY] at hp
   have e:spread r = []:=APh
   rw[e]
   simp only[go_sem,AA _ hi',FY,h2,hw1,h3,cu]
   try simp[DI]
  have h3':r[i].2≤64-(out.length:Int):=APX
  obtain⟨K,hK⟩:=aO (show 0≤r[i].2 from AOh)
  rw[aZ AOh,hK,bH] at hp
  rw[hK] at h2 h3 h2' h3'
  simp only[go_sem,AA _ hi',FY,hK,h2,hw1,h3]
  refine AB6 [25] (A:=Nat) (fun x=>[(5,.c (.v (.int .i64 (x)))),(3,.c (.ref 0))]) (fun x=>[⟨64,3,(out++List.replicate x r[i].1).map DVal.c,true,true⟩]) (fun x=>x≤K) (fun x=>K-x) 0 (AB3 [(0,false)] ⟨rfl,rfl,QF _,trivial⟩ (by simp only[List.replicate_zero,bI]; rfl)) (az _) ?_
  rintro j hj
  have hl2:out.length+j+1≤2147483648:=AOh
  simp only[go_sem,AA _ hi',FY,hK]
  refine AA0 (fun h=>?_) (fun h=>?_)
  ·have hj':j<K:=by simp at h; omega
   simp only[go_sem,AA _ hi',FY,hl2,xX,wrap_i64 (n:=(j:Int)+1) AOh AOh]
   exact⟨j+1,AB3 [(2,false)] ⟨rfl,rfl,AEe _ _ _,trivial⟩ (by rw[wL]; rfl),hj',AOh⟩
  ·have hj':j=K:=by simp at h; omega
   exact ALf
 ·have hi':i=r.length:=by simp at h; omega
  subst hi'
  rw[aV] at hp
  simp only[IQ,bW,bI] at hp
  have e:spread r=out:=APh
  rw[e]
  simp only[go_sem]
  try exact AIj
def Xc (r:DVal×Int):List Int:=FH r.2++WC r.1
theorem Ub (l:List DVal) (h:typeOf l≠0):FU l=FH (runs l).length++((runs l).map Xc).flatten:=aZ h
theorem lQ {α:Type} (f:α→List Int) {l:List α} {i:Nat} (h:i<l.length):((l.take (i+1)).map f).flatten=((l.take i).map f).flatten++f l[i]:=by
 rw[aag h]
 simp only[XC,aaF,YG,cu,dm,aaH,bI]
theorem RY {α:Type} (f:α→List Int) (m:Nat):∀ (l:List α),(∀ x∈l,(f x).length≤m)→((l.map f).flatten).length≤m*l.length
 | [],_=>AOi
 | x::l,h=>by
  have h1:=h x AOi
  have h2:=RY f m l fun y hy=>h y AP1
  simp only[YG,dm,bn,df,Nat.mul_add]
  omega
theorem Tt (l:List DVal) (hl:l.length≤1048576):Ctr prog 403 [.c (.sl (l.map DVal.c))] [.own 5 1 ((FU l).map byteC) true]:=by
 refine CM call403 func403 ntmps403 results403 fun hw=>?_
 simp only[go_sem]
 refine AAT _ (DF l hl) fun _=>?_
 rcases h1:typeOf l==0 with _ | _
 rotate_left
 ·have h1':typeOf l=0:=by simpa using h1
  have e:FU l = []:=bu h1'
  exact AJY
 have h1':typeOf l≠0:=AO0
 obtain⟨q1,q2,q3⟩:=Df h1'
 rw[Ub l h1']
 simp only[go_sem,h1]
 refine AAT _ (zt l hl) fun _=>?_
 simp only[go_sem]
 refine AAT _ (GR [] ((runs l).length:Int) AOi) fun _=>?_
 have hrl:=PN l
 have hq:=EI ((runs l).length:Int)
 rw[J6 (by simp[EL,Aa]; omega),aN]
 simp only[go_sem]
 refine AB6 [7,14,17] (A:=Nat) (fun x=>[(20,.c (.v (.int .i64 (x)))),(3,.c (.ref 0))]) (fun x=>[⟨5,1,(FH (runs l).length++(((runs l).take x).map Xc).flatten).map byteC,true,true⟩]) (fun x=>x≤(runs l).length) (fun x=>(runs l).length-x) 0 (AB3 [(1,false)] ⟨rfl,rfl,E5 _,trivial⟩ AP2) (az _) ?_
 rintro i hi
 refine AOb (fun h=>?_) fun h=>?_
 ·have hi':i<(runs l).length:=by simp at h; omega
  obtain⟨b1,b2,b3⟩:=Lm (ax hi')
  have hv:=(q3 _ b1).1
  have hn:EL (runs l)[i].2=true:=(ED _).2 ⟨AOh,AOh⟩
  have hfl:=RY Xc 12 ((runs l).take i) fun x hx=>by
   have hx':=Lm (aar hx)
   exact AM3
  rw[bz] at hfl
  have hq2:=EI (runs l)[i].2
  simp only[go_sem,AA _ hi',FY]
  refine ABU ?_
  simp only[go_sem,AA _ hi',FY]
  refine ACJ _ (GR _ _ APK) ?_
  rw[J6 hn]
  simp only[go_sem,AA _ hi',FY]
  refine ACJ _ (QG _ (runs l)[i].1 APK) ?_
  rw[TC hv]
  simp only[go_sem,AA _ hi',FY,wrap_i64 (n:=(i:Int)+1) AOh AOh]
  exact⟨i+1,AB3 [(3,false)] ⟨rfl,rfl,E5 _,trivial⟩ (by rw[lQ Xc hi',Xc]; simp only[bM]; rfl),hi',AOh⟩
 ·have hi':i=(runs l).length:=by simp at h; omega
  subst hi'
  simp only[go_sem,bD]
  try exact AIj
theorem Tu (l:List DVal) (hl:l.length≤1048576):Ctr prog 399 [.c (.sl (l.map DVal.c))] [.own 5 1 ((FU l).map byteC) true]:=by
 refine CM call399 func399 ntmps399 results399 fun hw=>?_
 simp only[go_sem]
 refine AAT _ (En l hl) fun _=>?_
 rcases h1:typeOf l==0 with _ | _
 rotate_left
 ·have h1':typeOf l=0:=by simpa using h1
  have e:FU l = []:=bu h1'
  exact AJY
 have h1':typeOf l≠0:=AO0
 obtain⟨q1,q2,q3⟩:=Df h1'
 rw[Ub l h1']
 simp only[go_sem,h1]
 refine AAT _ (zu l hl) fun _=>?_
 simp only[go_sem]
 refine AAT _ (J5 [] ((runs l).length:Int) AOi) fun _=>?_
 have hrl:=PN l
 have hq:=EI ((runs l).length:Int)
 rw[J6 (by simp[EL,Aa]; omega),aN]
 simp only[go_sem]
 refine AB6 [12,15] (A:=Nat) (fun x=>[(5,.c (.v (.int .i64 (x)))),(4,.c (.ref 0))]) (fun x=>[⟨5,1,(FH (runs l).length++(((runs l).take x).map Xc).flatten).map byteC,true,true⟩]) (fun x=>x≤(runs l).length) (fun x=>(runs l).length-x) 0 (AB3 [(1,false)] ⟨rfl,rfl,E5 _,trivial⟩ AP2) (az _) ?_
 rintro i hi
 refine AOb (fun h=>?_) fun h=>?_
 ·have hi':i<(runs l).length:=by simp at h; omega
  obtain⟨b1,b2,b3⟩:=Lm (ax hi')
  have hv:=(q3 _ b1).1
  have hn:EL (runs l)[i].2=true:=(ED _).2 ⟨AOh,AOh⟩
  have hfl:=RY Xc 12 ((runs l).take i) fun x hx=>by
   have hx':=Lm (aar hx)
   exact AM3
  rw[bz] at hfl
  have hq2:=EI (runs l)[i].2
  simp only[go_sem,AA _ hi',FY]
  refine ABU ?_
  simp only[go_sem,AA _ hi',FY]
  refine ACJ _ (J5 _ _ APK) ?_
  rw[J6 hn]
  simp only[go_sem,AA _ hi',FY]
  refine ACJ _ (QH _ (runs l)[i].1 APK) ?_
  rw[TC hv]
  simp only[go_sem,AA _ hi',FY,wrap_i64 (n:=(i:Int)+1) AOh AOh]
  exact⟨i+1,AB3 [(2,false)] ⟨rfl,rfl,E5 _,trivial⟩ (by rw[lQ Xc hi',Xc]; simp only[bM]; rfl),hi',AOh⟩
 ·have hi':i=(runs l).length:=by simp at h; omega
  subst hi'
  simp only[go_sem,bD]
  try exact AIj
theorem YY:∀ {r:List (DVal×Int)} {n:Nat} {l:List DVal},n≤64→IQ r n=some l→n+l.length≤64
 | [],n,l,hn,h=>by
  simp only[IQ,ak] at h
  subst h; simpa using hn
 | (v,k)::r,n,l,hn,h=>by
  rw[QJ] at h
  split at h
  ·cases h
  ·rename_i hk
   cases h2:IQ r (n+k.toNat) with
   | none=>rw[h2] at h; cases h
   | some l' =>
    rw[h2] at h
    simp only[bW,ak] at h
    subst h
    have:=YY AOh h2
    simp only[bn,xX]; omega
theorem gZ (r:List (DVal×Int)):(spread r).length≤64:=by
 unfold spread
 cases h:IQ r 0 with
 | none=>simp
 | some l =>
  have:=YY (az _) h
  simpa using this
theorem qF (rs:List (DVal×Int)) (v:DVal) (m:Int):(rs ++ [(v,m)]).map FY=rs.map FY ++ [[.v (.int .i64 v.ty),.v (.int .i64 v.n),.v (.string v.s),.v (.int .i64 m)]]:=by simp[FY]
theorem AG7 (rs:List (DVal×Int)) (v:DVal) (m:Int):G5 (rs.map FY ++ [[.v (.int .i64 v.ty),.v (.int .i64 v.n),.v (.string v.s),.v (.int .i64 m)]])=true:=by rw[← qF]; exact Kw _
theorem jX (b:List Int) (ty k:Int) (hb:Ad b) (hl:b.length≤1048576):Ctr prog 392 [.c (.sl (b.map byteC)),.c (.v (.int .i64 (ty))),.c (.v (.int .i64 (k)))] (Dn (EY b ty k)):=by
 refine CM call392 func392 ntmps392 results392 fun hw=>?_
 simp only[go_sem]
 have hg:=GN b 0 hb hl
 rcases h1:BX b 0 with _ | ⟨n,q⟩<;>rw[h1] at hg<;>simp only[Vw] at hg
 ·have e:EY b ty k=none:=by simp only[EY,h1]
  rw[e]
  refine AAT _ hg fun _=>?_
  exact ALc
 refine AAT _ hg fun _=>?_
 simp only[go_sem]
 refine AAT _ (AL _ _ _) fun _=>?_
 rcases h2:Aa n 1 64 with _ | _
 ·have e:EY b ty k=none:=by simp only[EY,h1]; exact aZ AOr
  rw[e]
  exact ANW
 have h2':1≤n∧n≤64:=AOr
 have hall:EY b ty k=match JR b ty n.toNat q with
   | none=>none
   | some r=>again b k (spread r) (FU (spread r)):=by simp only[EY,h1]; exact bu h2'
 simp only[go_sem,h2]
 obtain⟨N,rfl⟩:=aO (show 0≤n from AOh)
 rw[bH] at hall
 refine AB6 [32] (A:=Nat×Nat×List (DVal×Int)) (fun x=>[(12,.c (.v (.int .i64 (x.1)))),(11,.c (.ref 0)),(9,.c (.v (.int .i64 ((x.2.1:Int)))))]) (fun x=>[⟨312,4,x.2.2.map FY,true,true⟩]) (fun x=>x.1≤N∧x.2.2.length=x.1∧(JR b ty (N-x.1) x.2.1).map (fun y=>x.2.2++y)=JR b ty N q) (fun x=>N-x.1) (0,q,[]) (AB3 [(0,false)] ⟨rfl,rfl,rfl,trivial⟩ rfl) ⟨az _,rfl,AOi⟩ ?_
 rintro⟨i,p,r⟩ ⟨hi,hll,hp⟩
 dsimp only at hi hll hp
 refine AOb (fun h=>?_) fun h=>?_
 ·have hi':i<N:=by simp at h; omega
  rw[show N-i=(N-(i+1))+1 from AOh,JR] at hp
  have hg2:=GN b p hb hl
  simp only[go_sem]
  rcases h3:BX b p with _ | ⟨m,p2⟩<;>rw[h3] at hg2 hp<;>simp only[Vw] at hg2
  ·refine AAT _ hg2 fun _=>?_
   simp only[WY] at hp
   rw[hall,← hp]
   exact ALc
  refine AAT _ hg2 fun _=>?_
  have hg3:=V3 b p2 ty hb hl
  simp only[go_sem]
  rcases h4:Fe b p2 ty with _ | ⟨v,p3⟩<;>rw[h4] at hg3<;>simp only[h4] at hp<;>simp only[gV] at hg3
  ·refine AAT _ hg3 fun _=>?_
   simp only[WY] at hp
   rw[hall,← hp]
   exact ALc
  refine AAT _ hg3 fun _=>?_
  have hl2:r.length+1≤2147483648:=AOh
  simp only[go_sem,hl2,wrap_i64 (n:=(i:Int)+1) AOh AOh]
  exact⟨(i+1,p3,r ++ [(v,m)]),AB3 [(3,false)] ⟨rfl,rfl,AG7 _ _ _,trivial⟩ (by rw[qF]; rfl),⟨hi',AOj,APq⟩,AOl⟩
 ·have hi':i=N:=by simp at h; omega
  subst hi'
  rw[jP,JR] at hp
  simp only[bW,bI] at hp
  rw[hall,← hp]
  simp only[go_sem,Kw]
  refine AAT _ (qC r AOh) fun _=>?_
  simp only[go_sem]
  have hsl:(spread r).length≤1048576:=by have:=gZ r; omega
  refine AAT _ (Tt (spread r) hsl) fun _=>?_
  simp only[go_sem]
  refine AAT _ (CJ b k (spread r) (FU (spread r))) fun _=>?_
  rcases h4:again b k (spread r) (FU (spread r)) with _ | l'<;>simp only[go_sem,Dn]
theorem jY (b:List Int) (ty k:Int) (hb:Ad b) (hl:b.length≤1048576):Ctr prog 383 [.c (.sl (b.map byteC)),.c (.v (.int .i64 (ty))),.c (.v (.int .i64 (k)))] (Dn (EY b ty k)):=by
 refine CM call383 func383 ntmps383 results383 fun hw=>?_
 simp only[go_sem]
 have hg:=GM b 0 hb hl
 rcases h1:BX b 0 with _ | ⟨n,q⟩<;>rw[h1] at hg<;>simp only[Vw] at hg
 ·have e:EY b ty k=none:=by simp only[EY,h1]
  rw[e]
  refine AAT _ hg fun _=>?_
  simp only[go_sem,Dn]
  try simp[DI]
 refine AAT _ hg fun _=>?_
 simp only[go_sem]
 refine AAT _ (AP _ _ _) fun _=>?_
 have hkn:¬ (1≤k∧k≤64)→EY b ty k=none:=fun hk=>by
  simp only[EY,h1]
  split
  ·split
   ·rfl
   ·exact aZ fun q=>hk ⟨q.1,q.2.1⟩
  ·rfl
 rcases h2:Aa k 1 64 with _ | _
 ·rw[hkn AOr]
  simp only[go_sem,h2,Dn]
  try simp[DI]
 simp only[go_sem,h2]
 refine AAT _ (AP _ _ _) fun _=>?_
 have hk:1≤k∧k≤64:=AOr
 rcases h3:Aa n 1 64 with _ | _
 ·have e:EY b ty k=none:=by simp only[EY,h1]; exact aZ AP4
  rw[e]
  simp only[go_sem,h3,Dn]
  try simp[DI]
 have h3':1≤n∧n≤64:=AP4
 have hall:EY b ty k=match JR b ty n.toNat q with
   | none=>none
   | some r=>again b k (spread r) (FU (spread r)):=by simp only[EY,h1]; exact bu h3'
 simp only[go_sem,h3]
 obtain⟨N,rfl⟩:=aO (show 0≤n from AOh)
 rw[bH] at hall
 refine AB6 [41] (A:=Nat×Nat×List (DVal×Int)) (fun x=>[(13,.c (.v (.int .i64 (x.1)))),(12,.c (.ref 1)),(10,.c (.v (.int .i64 ((x.2.1:Int)))))]) (fun x=>[⟨64,3,[],true,true⟩,⟨312,4,x.2.2.map FY,true,true⟩]) (fun x=>x.1≤N∧x.2.2.length=x.1∧(JR b ty (N-x.1) x.2.1).map (fun y=>x.2.2++y)=JR b ty N q) (fun x=>N-x.1) (0,q,[]) (AB3 [(0,false),(1,false)] ⟨rfl,rfl,rfl,rfl,trivial⟩ rfl) ⟨az _,rfl,AOi⟩ ?_
 rintro⟨i,p,r⟩ ⟨hi,hll,hp⟩
 dsimp only at hi hll hp
 refine AOb (fun h=>?_) fun h=>?_
 ·have hi':i<N:=by simp at h; omega
  rw[show N-i=(N-(i+1))+1 from AOh,JR] at hp
  have hg2:=GM b p hb hl
  simp only[go_sem]
  rcases h4:BX b p with _ | ⟨m,p2⟩<;>rw[h4] at hg2 hp<;>simp only[Vw] at hg2
  ·refine AAT _ hg2 fun _=>?_
   simp only[WY] at hp
   rw[hall,← hp]
   have hg3:=Md b 0 ty hb hl
   simp only[go_sem]
   rcases h5:Fe b 0 ty with _ | ⟨v,p3⟩<;>rw[h5] at hg3<;>simp only[gV] at hg3
   ·refine AAT _ hg3 fun _=>?_
    exact ALc
   ·refine AAT _ hg3 fun _=>?_
    exact ALc
  refine AAT _ hg2 fun _=>?_
  have hg3:=Md b p2 ty hb hl
  simp only[go_sem]
  rcases h5:Fe b p2 ty with _ | ⟨v,p3⟩<;>rw[h5] at hg3<;>simp only[h5] at hp<;>simp only[gV] at hg3
  ·refine AAT _ hg3 fun _=>?_
   simp only[WY] at hp
   rw[hall,← hp]
   exact ALc
  refine AAT _ hg3 fun _=>?_
  have hl2:r.length+1≤2147483648:=AOh
  simp only[go_sem,hl2,wrap_i64 (n:=(i:Int)+1) AOh AOh]
  exact⟨(i+1,p3,r ++ [(v,m)]),AB3 [(0,false),(4,false)] ⟨rfl,rfl,rfl,AG7 _ _ _,trivial⟩ (by rw[qF]; rfl),⟨hi',AOj,APq⟩,AOl⟩
 ·have hi':i=N:=by simp at h; omega
  subst hi'
  rw[jP,JR] at hp
  simp only[bW,bI] at hp
  rw[hall,← hp]
  simp only[go_sem,Kw]
  refine AAT _ (qE r AOh) fun _=>?_
  simp only[go_sem]
  have hsl:(spread r).length≤1048576:=by have:=gZ r; omega
  rcases h5:((spread r).length:Int) != k with _ | _
  rotate_left
  ·have e:again b k (spread r) (FU (spread r))=none:=aZ fun q=>by simp at h5; exact h5 q.2.2.1
   simp only[go_sem,h5,e,Dn]
  have h5':((spread r).length:Int)=k:=by simpa using h5
  simp only[go_sem,h5]
  refine AAT _ (Tu (spread r) hsl) fun _=>?_
  simp only[go_sem]
  refine AAT _ (Il (FU (spread r)) b) fun _=>?_
  rcases h6:decide (FU (spread r)=b) with _ | _
  ·have e:again b k (spread r) (FU (spread r))=none:=aZ fun q=>by simp at h6; exact h6 q.2.2.2.symm
   simp only[go_sem,h5,h6,e,Dn]
  ·have e:again b k (spread r) (FU (spread r))=some (spread r):=bu ⟨hk.1,hk.2,h5',by simp at h6; exact h6.symm⟩
   simp only[go_sem,h5,h6,e,Dn]
theorem TF {b:List Int} {w k:Int} {o:List Int} (h:unpack b w k=some o):o.length≤64:=by
 have h1:=Nu h
 unfold unpack at h
 split at h
 ·rename_i h2
  omega
 ·cases h
theorem ABL:∀ (f:Nat) (x:Int),0≤Gm f x∧Gm f x≤f
 | 0,_=>by simp[Gm]
 | f+1,x=>by
  have:=ABL f (x/2)
  rw[Gm]
  split<;>omega
theorem zx (n:Int):0≤Aq n∧Aq n≤32:=by
 unfold Aq
 split
 ·exact ABL 32 n
 ·omega
theorem YZ (l:List Int):0≤DL l∧DL l≤32:=by
 have key:∀ (l:List Int) (w:Int),0≤w∧w≤32→0≤l.foldl (fun w n=>max w (Aq n)) w∧l.foldl (fun w n=>max w (Aq n)) w≤32:=by
  intro l
  induction l with
  | nil=>intro w h; exact h
  | cons n l ih =>
   intro w h
   have:=zx n
   exact ih (max w (Aq n)) ⟨AOh,AOh⟩
 exact key l 0 AOh
theorem Iz (l:List Int) (w:Int):(Eg l w).length≤4*l.length+1:=by
 unfold Eg
 split
 ·rename_i h
  simp only[ae,List.length_range]
  have:l.length*w.toNat≤l.length*31:=Nat.mul_le_mul_left _ AOh
  omega
 ·simp
theorem Nr (l:List DVal) (hl:l.length≤1048576):Ctr prog 405 [.c (.sl (l.map DVal.c))] [.own 5 1 ((Dh l).map byteC) true]:=by
 refine CM call405 func405 ntmps405 results405 fun hw=>?_
 simp only[go_sem]
 refine AAT _ (DF l hl) fun _=>?_
 rcases h1:typeOf l != 1 with _ | _
 rotate_left
 ·have h1':typeOf l≠1:=by simpa using h1
  have e:Dh l = []:=bu h1'
  exact AJY
 have h1':typeOf l=1:=AO0
 obtain⟨q1,q2,q3⟩:=Df (l:=l) AOh
 have e:Dh l=FH (Cm l)++(DL (offsets l)::Eg (offsets l) (DL (offsets l))):=aZ AOh
 have hol:(offsets l).length=l.length:=APy
 rw[e]
 simp only[go_sem,h1]
 refine AAT _ (jZ l hl) fun _=>?_
 simp only[go_sem]
 refine AAT _ (fZ (offsets l) AOh) fun _=>?_
 simp only[go_sem]
 refine AAT _ (g_ l hl) fun _=>?_
 have hw:=YZ (offsets l)
 have hpl:=Iz (offsets l) (DL (offsets l))
 have hq:=EI (Cm l)
 have hbn:EL (Cm l)=true:=by
  exact AM0
 have hw1:IntKind.u8.wrap (DL (offsets l))=DL (offsets l):=wrap_u8 AOh AOh
 simp only[go_sem]
 refine AAT _ (GR [] (Cm l) AOi) fun _=>?_
 rw[J6 hbn,aN]
 have hl2:(FH (Cm l)).length+1≤2147483648:=AOh
 simp only[go_sem,hw1,hl2]
 refine AAT _ (gQ (offsets l) (DL (offsets l)) AOh) fun _=>?_
 exact AMe
theorem RZ (l:List DVal) (hl:l.length≤1048576):Ctr prog 401 [.c (.sl (l.map DVal.c))] [.own 5 1 ((Dh l).map byteC) true]:=by
 refine CM call401 func401 ntmps401 results401 fun hw=>?_
 simp only[go_sem]
 refine AAT _ (En l hl) fun _=>?_
 rcases h1:typeOf l != 1 with _ | _
 rotate_left
 ·have h1':typeOf l≠1:=by simpa using h1
  have e:Dh l = []:=bu h1'
  exact AJY
 have h1':typeOf l=1:=AO0
 obtain⟨q1,q2,q3⟩:=Df (l:=l) AOh
 have e:Dh l=FH (Cm l)++(DL (offsets l)::Eg (offsets l) (DL (offsets l))):=aZ AOh
 have hol:(offsets l).length=l.length:=APy
 rw[e]
 simp only[go_sem,h1]
 refine AAT _ (ja l hl) fun _=>?_
 simp only[go_sem]
 refine AAT _ (f_ (offsets l) AOh) fun _=>?_
 simp only[go_sem]
 refine AAT _ (gz l hl) fun _=>?_
 have hw:=YZ (offsets l)
 have hpl:=Iz (offsets l) (DL (offsets l))
 have hq:=EI (Cm l)
 have hbn:EL (Cm l)=true:=by
  exact AM0
 have hw1:IntKind.u8.wrap (DL (offsets l))=DL (offsets l):=wrap_u8 AOh AOh
 simp only[go_sem]
 refine AAT _ (J5 [] (Cm l) AOi) fun _=>?_
 rw[J6 hbn,aN]
 have hl2:(FH (Cm l)).length+1≤2147483648:=AOh
 simp only[go_sem,hw1,hl2]
 refine AAT _ (gU (offsets l) (DL (offsets l)) AOh) fun _=>?_
 exact AMe
theorem gm (b:List Int) (k:Int) (hb:Ad b) (hl:b.length≤1048576):Ctr prog 394 [.c (.sl (b.map byteC)),.c (.v (.int .i64 (k)))] (Dn (Eh b k)):=by
 rw[← Yf]
 refine CM call394 func394 ntmps394 results394 fun hw=>?_
 simp only[go_sem]
 have hg:=GN b 0 hb hl
 rcases h1:BX b 0 with _ | ⟨n,q⟩<;>rw[h1] at hg<;>simp only[Vw] at hg
 ·have e:I4 b k=none:=by simp only[I4,h1]
  rw[e]
  refine AAT _ hg fun _=>?_
  exact ALc
 refine AAT _ hg fun _=>?_
 rcases h2:decide ((q:Int)≥(b.length:Int)) with _ | _
 rotate_left
 ·have e:I4 b k=none:=by
   have:b[q]?=none:=by rw[abn]; simp at h2; omega
   simp only[I4,h1,this]
  rw[e]
  exact ANW
 have hq:q<b.length:=AOw
 have hc:isByte b[q]:=hb _ (ax hq)
 have hall:I4 b k=match unpack (b.drop (q+1)) b[q] k with
    | none=>none
    | some o=>again b k ((raised n o).getD []) (Dh ((raised n o).getD [])):=by simp only[I4,h1,au hq]; rfl
 rw[hall]
 have q1:=IP (k:=.i64) (n:=(q:Int)+1) (m:=q+1) AOh
 have q5:q+1≤b.length:=hq
 have hc2:=hc.1
 have hc3:=hc.2
 have q7:(b.map byteC).length-(q+1)=(b.drop (q+1)).length:=AOi
 simp only[go_sem,h2,AA _ hq,q1,q5,BJ,aT,wrap_i64 (n:=(q:Int)+1) AOh AOh,wrap_i64 (n:=b[q]) AOh AOh,← bY,← bV]
 have htk:(b.drop (q+1)).take (b.length-(q+1))=b.drop (q+1):=aaz AOi
 have hbd:Ad (b.drop (q+1)):=fun c hc=>hb c (aaG hc)
 have hu:=Vx (b.drop (q+1)) b[q] k hbd AOj
 refine ABU ?_
 simp only[go_sem,h2,AA _ hq,q1,q5,BJ,aT,wrap_i64 (n:=(q:Int)+1) AOh AOh,wrap_i64 (n:=b[q]) AOh AOh,← bY,← bV,htk]
 rcases h3:unpack (b.drop (q+1)) b[q] k with _ | o<;>rw[h3] at hu<;>simp only[ZU] at hu
 ·refine ACJ _ hu ?_
  simp only[go_sem,Dn,AA _ hq,q1,q5,BJ,aT,← bY,← bV,htk,wrap_i64 (n:=b[q]) AOh AOh,wrap_i64 (n:=(q:Int)+1) AOh AOh]
 refine ACJ _ hu ?_
 have hol:=TF h3
 simp only[go_sem,AA _ hq,q1,q5,BJ,aT,← bY,← bV,htk,wrap_i64 (n:=b[q]) AOh AOh,wrap_i64 (n:=(q:Int)+1) AOh AOh]
 have hr:=qO n o AOh
 rcases h4:raised n o with _ | l<;>rw[h4] at hr<;>simp only[Dn] at hr
 ·refine AAT _ hr fun _=>?_
  simp only[go_sem,xY]
  refine AAT _ (Nr [] AOi) fun _=>?_
  simp only[go_sem]
  refine AAT _ (CJ b k [] (Dh [])) fun _=>?_
  rcases h5:again b k [] (Dh []) with _ | l'<;>simp only[go_sem,Dn]
 ·have hll:=QN h4
  refine AAT _ hr fun _=>?_
  simp only[go_sem]
  refine AAT _ (Nr l AOh) fun _=>?_
  simp only[go_sem]
  refine AAT _ (CJ b k l (Dh l)) fun _=>?_
  rcases h5:again b k l (Dh l) with _ | l'<;>simp only[go_sem,Dn]
theorem gp (b:List Int) (k:Int) (hb:Ad b) (hl:b.length≤1048576):Ctr prog 385 [.c (.sl (b.map byteC)),.c (.v (.int .i64 (k)))] (Dn (Eh b k)):=by
 refine CM call385 func385 ntmps385 results385 fun hw=>?_
 simp only[go_sem]
 have hg:=GM b 0 hb hl
 rcases h1:BX b 0 with _ | ⟨n,q⟩<;>rw[h1] at hg<;>simp only[Vw] at hg
 ·have e:Eh b k=none:=by simp only[Eh,h1]
  rw[e]
  refine AAT _ hg fun _=>?_
  exact ALc
 refine AAT _ hg fun _=>?_
 rcases h2:decide ((q:Int)≥(b.length:Int)) with _ | _
 rotate_left
 ·have e:Eh b k=none:=by
   have:b[q]?=none:=by rw[abn]; simp at h2; omega
   simp only[Eh,h1,this]
  rw[e]
  exact ANW
 have hq:q<b.length:=AOw
 have hc:isByte b[q]:=hb _ (ax hq)
 simp only[go_sem,h2]
 refine AAT _ (AP _ _ _) fun _=>?_
 rcases h6:Aa k 1 64 with _ | _
 ·have e:Eh b k=none:=by
   simp only[Eh,h1,au hq]
   exact aZ (by simp[Aa] at h6; omega)
  rw[e]
  simp only[go_sem,h6,Dn]
 have hk:1≤k∧k≤64:=by simp[Aa] at h6; omega
 have hall:Eh b k=match unpack (b.drop (q+1)) b[q] k with
    | none=>none
    | some o=>match raised n o with
     | none=>none
     | some l=>if Dh l=b then some l else none:=by
  simp only[Eh,h1,au hq]
  exact bu hk
 rw[hall]
 have q1:=IP (k:=.i64) (n:=(q:Int)+1) (m:=q+1) AOh
 have q5:q+1≤b.length:=hq
 have hc2:=hc.1
 have hc3:=hc.2
 have htk:(b.drop (q+1)).take (b.length-(q+1))=b.drop (q+1):=aaz AOi
 have hbd:Ad (b.drop (q+1)):=fun c hc=>hb c (aaG hc)
 have hu:=Vy (b.drop (q+1)) b[q] k hbd AOj
 simp only[go_sem,h6,AA _ hq,q1,q5,BJ,aT,wrap_i64 (n:=(q:Int)+1) AOh AOh,wrap_i64 (n:=b[q]) AOh AOh,← bY,← bV]
 refine ABU ?_
 simp only[go_sem,AA _ hq,q1,q5,BJ,aT,wrap_i64 (n:=(q:Int)+1) AOh AOh,wrap_i64 (n:=b[q]) AOh AOh,← bY,← bV,htk]
 rcases h3:unpack (b.drop (q+1)) b[q] k with _ | o<;>rw[h3] at hu<;>simp only[ZU] at hu
 ·refine ACJ _ hu ?_
  simp only[go_sem,AA _ hq,q1,q5,BJ,aT,← bY,← bV,htk,wrap_i64 (n:=b[q]) AOh AOh,wrap_i64 (n:=(q:Int)+1) AOh AOh]
  have hr:=V9 n [] AOi
  rcases h4:raised n [] with _ | l<;>rw[h4] at hr<;>simp only[Dn] at hr
  ·exact AKY
  ·exact AKY
 refine ACJ _ hu ?_
 have hol:=TF h3
 simp only[go_sem,AA _ hq,q1,q5,BJ,aT,← bY,← bV,htk,wrap_i64 (n:=b[q]) AOh AOh,wrap_i64 (n:=(q:Int)+1) AOh AOh]
 have hr:=V9 n o AOh
 rcases h4:raised n o with _ | l<;>rw[h4] at hr<;>simp only[Dn] at hr
 ·exact AKY
 have hll:=QN h4
 refine AAT _ hr fun _=>?_
 simp only[go_sem]
 refine AAT _ (RZ l AOh) fun _=>?_
 simp only[go_sem]
 refine AAT _ (Il (Dh l) b) fun _=>?_
 rcases h5:decide (Dh l=b) with _ | _
 ·have e:¬ Dh l=b:=by simpa using h5
  simp only[go_sem,h5,aZ e,Dn]
 ·have e:Dh l=b:=by simpa using h5
  simp only[go_sem,h5,bu e,Dn]
theorem Rf (l:List DVal):∃ p,places (DN l) l=some p∧p.length=l.length:=by
 have key:∀ (d l:List DVal),(∀ x∈l,x∈d)→∃ p,places d l=some p∧p.length=l.length:=by
  intro d l
  induction l with
  | nil=>intro _; exact⟨[],rfl,rfl⟩
  | cons v l ih =>
   intro h
   obtain⟨p,h1,h2⟩:=ih fun x hx=>h x (aa3 v hx)
   have key2:∀ (d:List DVal) (k:Nat),v∈d→∃ i,placeOf v d k=some i:=by
    intro d
    induction d with
    | nil=>intro k hk; cases hk
    | cons x r ih =>
     intro k hk
     rw[NC]
     split
     ·exact⟨_,rfl⟩
     ·rename_i hne
      rcases dh.1 hk with rfl | hk
      ·exact absurd ((LK v v).2 rfl) hne
      ·exact ih (k+1) hk
   obtain⟨i,hi⟩:=key2 d 0 (h v AOi)
   exact⟨i::p,by rw[places_cons,hi,h1],by simp[h2]⟩
 exact key _ _ fun x hx=>(Lr l x).2 hx
theorem Uc {l:List DVal} (h:typeOf l≠0) {p:List Int} (hp:places (DN l) l=some p):EZ l=FH (DN l).length++(J9 (DN l)++Eg p (Aq ((DN l).length-1))):=by
 unfold EZ
 rw[aZ h,hp]; rfl
theorem Tv (l:List DVal) (hl:l.length≤1048576):Ctr prog 400 [.c (.sl (l.map DVal.c))] [.own 5 1 ((EZ l).map byteC) true]:=by
 refine CM call400 func400 ntmps400 results400 fun hw=>?_
 simp only[go_sem]
 refine AAT _ (En l hl) fun _=>?_
 rcases h1:typeOf l==0 with _ | _
 rotate_left
 ·have h1':typeOf l=0:=by simpa using h1
  have e:EZ l = []:=bu h1'
  exact AJY
 have h1':typeOf l≠0:=AO0
 obtain⟨q1,q2,q3⟩:=Df h1'
 have hdl:=PR l
 obtain⟨p,hp,hpl⟩:=Rf l
 rw[Uc h1' hp]
 simp only[go_sem,h1]
 refine AAT _ (AAA l hl) fun _=>?_
 simp only[go_sem]
 have hps:=qM (DN l) l hl AOh
 rw[hp] at hps
 simp only[ZU] at hps
 refine AAT _ hps fun _=>?_
 have hd0:0<(DN l).length:=by
  exact AOC
 have hq:=EI ((DN l).length:Int)
 have hdv:∀ v∈DN l,BK v=true:=fun v hv=>(q3 v ((Lr l v).1 hv)).1
 simp only[go_sem]
 refine AAT _ (J5 [] ((DN l).length:Int) AOi) fun _=>?_
 rw[J6 (by rw[ED]; omega),aN]
 simp only[go_sem]
 have hvl:=fun i=>Kv (l:=(DN l).take i) fun v hv=>hdv v (aar hv)
 refine AB6 [20,23] (A:=Nat) (fun x=>[(7,.c (.v (.int .i64 (x)))),(6,.c (.ref 1))]) (fun x=>[⟨3,1,p.map intC,true,true⟩,⟨5,1,(FH (DN l).length++J9 ((DN l).take x)).map byteC,true,true⟩]) (fun x=>x≤(DN l).length) (fun x=>(DN l).length-x) 0 (AB3 [(0,false),(2,false)] ⟨rfl,rfl,CB _,E5 _,trivial⟩ (by simp only[abe,J9,cu,aaH,bI]; rfl)) (az _) ?_
 rintro i hi
 refine AOb (fun h=>?_) fun h=>?_
 ·have hi':i<(DN l).length:=by simp at h; omega
  have hvi:=hvl i
  rw[bz] at hvi
  simp only[go_sem,AA _ hi']
  refine AAT _ (QH _ _ APK) fun _=>?_
  rw[TC (hdv _ (ax hi')),bM,← QI hi']
  simp only[go_sem,wrap_i64 (n:=(i:Int)+1) AOh AOh]
  exact⟨i+1,AB3 [(0,false),(2,false)] ⟨rfl,rfl,CB _,E5 _,trivial⟩ rfl,hi',AOh⟩
 ·have hpb:=Iz p (Aq ((DN l).length-1))
  have hw1:IntKind.i64.wrap (((DN l).length:Int)-1)=((DN l).length:Int)-1:=wrap_i64 AOh AOh
  have hvi:=hvl (DN l).length
  rw[bz] at hvi
  have hl3:(FH (DN l).length).length+(J9 (DN l)).length+(Eg p (Aq ((DN l).length-1))).length≤2147483648:=by
   rw[bD] at hvi; omega
  have hi':i=(DN l).length:=AOs
  subst hi'
  simp only[go_sem,bD,hw1]
  refine AAT _ (JK _) fun _=>?_
  simp only[go_sem,hw1]
  refine AAT _ (gU p (Aq ((DN l).length-1)) AOh) fun _=>?_
  simp only[go_sem,hl3,F5,bM,RV]
  try exact AIj
theorem Ov (l:List DVal) (hl:l.length≤1048576):Ctr prog 404 [.c (.sl (l.map DVal.c))] [.own 5 1 ((EZ l).map byteC) true]:=by
 refine CM call404 func404 ntmps404 results404 fun hw=>?_
 simp only[go_sem]
 refine AAT _ (DF l hl) fun _=>?_
 rcases h1:typeOf l==0 with _ | _
 rotate_left
 ·have h1':typeOf l=0:=by simpa using h1
  have e:EZ l = []:=bu h1'
  exact AJY
 have h1':typeOf l≠0:=AO0
 obtain⟨q1,q2,q3⟩:=Df h1'
 have hdl:=PR l
 obtain⟨p,hp,hpl⟩:=Rf l
 rw[Uc h1' hp]
 simp only[go_sem,h1]
 refine AAT _ (AAC l hl) fun _=>?_
 have hd0:0<(DN l).length:=by
  exact AOC
 have hq:=EI ((DN l).length:Int)
 have hdv:∀ v∈DN l,BK v=true:=fun v hv=>(q3 v ((Lr l v).1 hv)).1
 have hps:=qL (DN l) l hl AOh
 rw[hp] at hps
 simp only[ZU] at hps
 simp only[go_sem]
 refine AAT _ (GR [] ((DN l).length:Int) AOi) fun _=>?_
 rw[J6 (by rw[ED]; omega),aN]
 simp only[go_sem]
 have hvl:=fun i=>Kv (l:=(DN l).take i) fun v hv=>hdv v (aar hv)
 refine AB6 [9,16,19] (A:=Nat) (fun x=>[(22,.c (.v (.int .i64 (x)))),(3,.c (.ref 0))]) (fun x=>[⟨5,1,(FH (DN l).length++J9 ((DN l).take x)).map byteC,true,true⟩]) (fun x=>x≤(DN l).length) (fun x=>(DN l).length-x) 0 (AB3 [(1,false)] ⟨rfl,rfl,E5 _,trivial⟩ (by simp only[abe,J9,cu,aaH,bI]; rfl)) (az _) ?_
 rintro i hi
 refine AOb (fun h=>?_) fun h=>?_
 ·have hi':i<(DN l).length:=by simp at h; omega
  have hvi:=hvl i
  rw[bz] at hvi
  simp only[go_sem,AA _ hi']
  refine AAT _ (QG _ _ APK) fun _=>?_
  rw[TC (hdv _ (ax hi')),bM,← QI hi']
  exact AMu
 ·have hpb:=Iz p (Aq ((DN l).length-1))
  have hw1:IntKind.i64.wrap (((DN l).length:Int)-1)=((DN l).length:Int)-1:=wrap_i64 AOh AOh
  have hvi:=hvl (DN l).length
  rw[bz] at hvi
  have hl3:(FH (DN l).length).length+(J9 (DN l)).length+(Eg p (Aq ((DN l).length-1))).length≤2147483648:=by
   rw[bD] at hvi; omega
  have hi':i=(DN l).length:=AOs
  subst hi'
  simp only[go_sem,bD]
  refine AAT _ hps fun _=>?_
  simp only[go_sem,hw1]
  refine AAT _ (LH _) fun _=>?_
  simp only[go_sem,hw1]
  refine AAT _ (gQ p (Aq ((DN l).length-1)) AOh) fun _=>?_
  simp only[go_sem,hl3,F5,bM,RV]
  try exact AIj
theorem Ya (kind:Int) (l:List DVal) (hl:l.length≤1048576):Ctr prog 369 [.c (.v (.int .i64 (kind))),.c (.sl (l.map DVal.c))] [.own 5 1 ((EX kind l).map byteC) true]:=by
 refine CM call369 func369 ntmps369 results369 fun hw=>?_
 unfold EX
 rcases h0:kind==0 with _ | _
 rotate_left
 ·rw[bu APU]
  simp only[go_sem,h0]
  refine AAT _ (RX l hl) fun _=>?_
  simp only[go_sem]
  try exact AIj
 rw[aZ APU]
 rcases h1:kind==1 with _ | _
 rotate_left
 ·rw[bu AO0]
  simp only[go_sem,h0,h1]
  refine AAT _ (Tu l hl) fun _=>?_
  simp only[go_sem]
  try exact AIj
 rw[aZ AO0]
 rcases h2:kind==2 with _ | _
 rotate_left
 ·rw[bu APP]
  simp only[go_sem,h0,h1,h2]
  refine AAT _ (Tv l hl) fun _=>?_
  simp only[go_sem]
  try exact AIj
 rw[aZ APP]
 rcases h3:kind==3 with _ | _
 rotate_left
 ·rw[bu AOx]
  simp only[go_sem,h0,h1,h2,h3]
  refine AAT _ (RZ l hl) fun _=>?_
  simp only[go_sem]
  try exact AIj
 rw[aZ AOx]
 simp only[go_sem,h0,h1,h2,h3]
 try exact AKW
theorem Lp (kind:Int) (l:List DVal) (hl:l.length≤1048576):Ctr prog 373 [.c (.v (.int .i64 (kind))),.c (.sl (l.map DVal.c))] [.own 5 1 ((EX kind l).map byteC) true]:=by
 refine CM call373 func373 ntmps373 results373 fun hw=>?_
 unfold EX
 rcases h0:kind==0 with _ | _
 rotate_left
 ·rw[bu APU]
  simp only[go_sem,h0]
  refine AAT _ (Nq l hl) fun _=>?_
  simp only[go_sem]
  try exact AIj
 rw[aZ APU]
 rcases h1:kind==1 with _ | _
 rotate_left
 ·rw[bu AO0]
  simp only[go_sem,h0,h1]
  refine AAT _ (Tt l hl) fun _=>?_
  simp only[go_sem]
  try exact AIj
 rw[aZ AO0]
 rcases h2:kind==2 with _ | _
 rotate_left
 ·rw[bu APP]
  simp only[go_sem,h0,h1,h2]
  refine AAT _ (Ov l hl) fun _=>?_
  simp only[go_sem]
  try exact AIj
 rw[aZ APP]
 rcases h3:kind==3 with _ | _
 rotate_left
 ·rw[bu AOx]
  simp only[go_sem,h0,h1,h2,h3]
  refine AAT _ (Nr l hl) fun _=>?_
  simp only[go_sem]
  try exact AIj
 rw[aZ AOx]
 simp only[go_sem,h0,h1,h2,h3]
 try exact AKW
noncomputable def MG (l:List DVal):Nat→Int
 | 0=>0
 | x+1=>if(x=2→typeOf l=1)∧(EX ((x:Int)+1) l).length<(EX (MG l x) l).length then(x:Int)+1 else MG l x
theorem zy (l:List DVal):bk3 l=MG l 3:=by
 have h1:bk1 l=MG l 1:=by simp[MG,bk1]
 have h2:bk2 l=MG l 2:=by
  rw[bk2,h1]
  show _=(if((1:Nat)=2→typeOf l=1)∧(EX (((1:Nat):Int)+1) l).length<(EX (MG l 1) l).length then((1:Nat):Int)+1 else MG l 1)
  simp
 rw[bk3,h2]
 show _=(if((2:Nat)=2→typeOf l=1)∧(EX (((2:Nat):Int)+1) l).length<(EX (MG l 2) l).length then((2:Nat):Int)+1 else MG l 2)
 simp
theorem V6 {l:List DVal} {x:Nat} (h1:x=2→typeOf l=1) (h2:(EX ((x:Int)+1) l).length<(EX (MG l x) l).length):MG l (x+1)=(x:Int)+1:=bu ⟨h1,h2⟩
theorem qG {l:List DVal} {x:Nat} (h1:x=2) (h2:typeOf l≠1):MG l (x+1)=MG l x:=aZ fun q=>h2 (q.1 h1)
theorem V7 {l:List DVal} {x:Nat} (h2:¬ (EX ((x:Int)+1) l).length<(EX (MG l x) l).length):MG l (x+1)=MG l x:=aZ fun q=>h2 q.2
theorem gq (l:List DVal) (hl:l.length≤1048576):Ctr prog 368 [.c (.sl (l.map DVal.c))] [.val (.c (.v (.int .i64 (BA l))))]:=by
 refine CM call368 func368 ntmps368 results368 fun hw=>?_
 simp only[go_sem]
 refine AAT _ (En l hl) fun _=>?_
 rcases h1:typeOf l==0 with _ | _
 rotate_left
 ·exact ANi
 have e:BA l=MG l 3:=by rw[← zy]; exact aZ AO0
 have e0:Ef l=EX 0 l:=rfl
 rw[e]
 simp only[go_sem,h1]
 refine AAT _ (RX l hl) fun _=>?_
 simp only[go_sem]
 refine AB6 [13] (A:=Nat) (fun x=>[(6,.c (.v (.int .i64 ((x:Int)+1)))),(5,.c (.v (.int .i64 ((EX (MG l x) l).length:Int)))),(4,.c (.v (.int .i64 (MG l x))))]) (fun _=>[]) (fun x=>x≤3) (fun x=>3-x) 0 (AB3 [] ⟨rfl,rfl,trivial⟩ rfl) (az _) ?_
 rintro x hx
 refine AOb (fun h=>?_) fun h=>?_
 ·have hx':x<3:=by simp at h; omega
  simp only[go_sem]
  refine AAT _ (Ya _ l hl) fun _=>?_
  rcases h2:((x:Int)+1 != 3) with _ | _<;>rcases h3:(typeOf l==1) with _ | _<;>rcases h4:decide (((EX ((x:Int)+1) l).length:Int)<((EX (MG l x) l).length:Int)) with _ | _<;>simp only[go_sem,h2,h3,h4,wrap_i64 (n:=(x:Int)+1+1) AOh AOh]
  ·have hb:MG l (x+1)=MG l x:=qG AOw AOx
   exact AIb
  ·have hb:MG l (x+1)=MG l x:=qG AOw AOx
   exact AIb
  ·have hb:MG l (x+1)=MG l x:=V7 APD
   exact AIb
  ·have hb:MG l (x+1)=(x:Int)+1:=V6 (fun _=>AOx) APD
   exact AIb
  ·have hb:MG l (x+1)=MG l x:=V7 APD
   exact AIb
  ·have hb:MG l (x+1)=(x:Int)+1:=V6 (fun q=>AOw) APD
   exact AIb
  ·have hb:MG l (x+1)=MG l x:=V7 APD
   exact AIb
  ·have hb:MG l (x+1)=(x:Int)+1:=V6 (fun q=>AOw) APD
   exact AIb
 ·have hx':x=3:=by simp at h; omega
  subst hx'
  exact AIk
theorem gu (l:List DVal) (hl:l.length≤1048576):Ctr prog 372 [.c (.sl (l.map DVal.c))] [.val (.c (.v (.int .i64 (BA l))))]:=by
 refine CM call372 func372 ntmps372 results372 fun hw=>?_
 simp only[go_sem]
 refine AAT _ (DF l hl) fun _=>?_
 rcases h1:typeOf l==0 with _ | _
 rotate_left
 ·exact ANi
 have e:BA l=MG l 3:=by rw[← zy]; exact aZ AO0
 rw[e]
 simp only[go_sem,h1]
 refine AB6 [] (A:=Nat) (fun x=>[(5,.c (.v (.int .i64 ((x:Int)+1)))),(4,.c (.v (.int .i64 (MG l x))))]) (fun _=>[]) (fun x=>x≤3) (fun x=>3-x) 0 (AB3 [] ⟨rfl,rfl,trivial⟩ rfl) (az _) ?_
 rintro x hx
 refine AOb (fun h=>?_) fun h=>?_
 ·have hx':x<3:=by simp at h; omega
  rcases h2:((x:Int)+1==3) with _ | _
  ·simp only[go_sem,h2]
   refine AAT _ (Lp _ l hl) fun _=>?_
   simp only[go_sem]
   refine AAT _ (Lp _ l hl) fun _=>?_
   rcases h4:decide (((EX ((x:Int)+1) l).length:Int)<((EX (MG l x) l).length:Int)) with _ | _<;>simp only[go_sem,h4,wrap_i64 (n:=(x:Int)+1+1) AOh AOh]
   ·have hb:MG l (x+1)=MG l x:=V7 APD
    exact AIb
   ·have hb:MG l (x+1)=(x:Int)+1:=V6 (fun q=>AOw) APD
    exact AIb
  ·rcases h3:(typeOf l != 1) with _ | _
   ·simp only[go_sem,h2,h3]
    refine AAT _ (Lp _ l hl) fun _=>?_
    simp only[go_sem]
    refine AAT _ (Lp _ l hl) fun _=>?_
    rcases h4:decide (((EX ((x:Int)+1) l).length:Int)<((EX (MG l x) l).length:Int)) with _ | _<;>simp only[go_sem,h4,wrap_i64 (n:=(x:Int)+1+1) AOh AOh]
    ·have hb:MG l (x+1)=MG l x:=V7 APD
     exact AIb
    ·have hb:MG l (x+1)=(x:Int)+1:=V6 (fun _=>AOx) APD
     exact AIb
   ·simp only[go_sem,h2,h3,wrap_i64 (n:=(x:Int)+1+1) AOh AOh]
    have hb:MG l (x+1)=MG l x:=qG AOw AOx
    exact AIb
 ·have hx':x=3:=by simp at h; omega
  subst hx'
  exact AIk
theorem AEf (l:List DVal):∀ x,0≤MG l x∧MG l x≤x
 | 0=>by simp[MG]
 | x+1=>by
  have:=AEf l x
  rw[MG]
  split<;>omega
theorem Yb {l:List DVal} (h:typeOf l≠0):0≤BA l∧BA l≤3:=by
 have e:BA l=MG l 3:=by rw[← zy]; exact aZ h
 have:=AEf l 3
 rw[e]; omega
theorem qH (l:List DVal):(Ef l).length≤448:=by
 unfold Ef
 split
 ·simp
 ·rename_i h
  obtain⟨q1,q2,q3⟩:=Df h
  have:=Kv fun v hv=>(q3 v hv).1
  omega
theorem wM (l:List DVal):(FU l).length≤1000:=by
 by_cases h:typeOf l=0
 ·rw[show FU l = [] from bu h]; simp
 ·obtain⟨q1,q2,q3⟩:=Df h
  rw[Ub l h]
  have h1:=EI ((runs l).length:Int)
  have h2:=PN l
  have h3:=RY Xc 12 (runs l) fun x hx=>by
   have hx':=Lm hx
   exact AM3
  simp only[bn]; omega
theorem wO (l:List DVal):(EZ l).length≤1000:=by
 by_cases h:typeOf l=0
 ·rw[show EZ l = [] from bu h]; simp
 ·obtain⟨q1,q2,q3⟩:=Df h
  obtain⟨p,hp,hpl⟩:=Rf l
  rw[Uc h hp]
  have h1:=EI ((DN l).length:Int)
  have h2:=PR l
  have h3:=Kv (l:=DN l) fun v hv=>(q3 v ((Lr l v).1 hv)).1
  have h4:=Iz p (Aq ((DN l).length-1))
  simp only[bn]; omega
theorem qI (l:List DVal):(Dh l).length≤1000:=by
 by_cases h:typeOf l=1
 ·obtain⟨q1,q2,q3⟩:=Df (l:=l) AOh
  have e:Dh l=FH (Cm l)++(DL (offsets l)::Eg (offsets l) (DL (offsets l))):=aZ AOh
  have hol:(offsets l).length=l.length:=APy
  have h1:=EI (Cm l)
  have h4:=Iz (offsets l) (DL (offsets l))
  rw[e]
  simp only[bn,df]; omega
 ·rw[show Dh l = [] from bu h]; simp
theorem Xd (k:Int) (l:List DVal):(EX k l).length≤1000:=by
 have h0:=qH l
 have h1:=wM l
 have h2:=wO l
 have h3:=qI l
 unfold EX
 repeat' split
 all_goals first | omega | simp
theorem gy (l:List DVal):(Aw l).length≤1001:=by
 have:=Xd (BA l) l
 unfold Aw
 split
 ·simp
 ·simp only[df]; omega
theorem M_ (l:List DVal) (hl:l.length≤1048576):Ctr prog 327 [.c (.sl (l.map DVal.c))] [.own 5 1 ((Aw l).map byteC) true]:=by
 refine CM call327 func327 ntmps327 results327 fun hw=>?_
 simp only[go_sem]
 refine AAT _ (gq l hl) fun _=>?_
 rcases h1:decide (BA l<0) with _ | _
 rotate_left
 ·have e:Aw l = []:=bu AO0
  exact AJY
 have h1':¬ BA l<0:=AO0
 have e:Aw l=BA l::EX (BA l) l:=aZ h1'
 have ht:typeOf l≠0:=fun q=>h1' (by rw[show BA l = -1 from bu q]; decide)
 have hk:=Yb ht
 have hw1:IntKind.u8.wrap (BA l)=BA l:=wrap_u8 AOh AOh
 rw[e]
 simp only[go_sem,h1,hw1]
 have hel:=Xd (BA l) l
 have hl2:1+(EX (BA l) l).length≤2147483648:=AOh
 have hl3:(EX (BA l) l).length+1≤2147483648:=AOh
 refine AAT _ (Ya (BA l) l hl) fun _=>?_
 exact ANm
theorem Eo (l:List DVal) (hl:l.length≤1048576):Ctr prog 333 [.c (.sl (l.map DVal.c))] [.own 5 1 ((Aw l).map byteC) true]:=by
 refine CM call333 func333 ntmps333 results333 fun hw=>?_
 simp only[go_sem]
 refine AAT _ (gu l hl) fun _=>?_
 rcases h1:decide (BA l<0) with _ | _
 rotate_left
 ·have e:Aw l = []:=bu AO0
  exact AJY
 have h1':¬ BA l<0:=AO0
 have e:Aw l=BA l::EX (BA l) l:=aZ h1'
 have ht:typeOf l≠0:=fun q=>h1' (by rw[show BA l = -1 from bu q]; decide)
 have hk:=Yb ht
 have hw1:IntKind.u8.wrap (BA l)=BA l:=wrap_u8 AOh AOh
 rw[e]
 simp only[go_sem,h1,hw1]
 have hel:=Xd (BA l) l
 have hl2:1+(EX (BA l) l).length≤2147483648:=AOh
 have hl3:(EX (BA l) l).length+1≤2147483648:=AOh
 refine AAT _ (Lp (BA l) l hl) fun _=>?_
 exact ANm
end Go.Proofs.YtnoldekcdlaahaaGreat
