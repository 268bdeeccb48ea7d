/- A part. -/
import Derived.Test.YthmifbbmgnhddaaGreatYh
import Derived.Test.YthmifbbmgnhddaaGreatYo
import Derived.Test.YthmifbbmgnhddaaGreatYe
set_option linter.unusedSimpArgs false
set_option linter.unusedVariables false
set_option maxHeartbeats 2000000
set_option maxRecDepth 10000
open Go.Proofs.Tryz
namespace Go.Proofs.YthmifbbmgnhddaaGreat
open Go.Vm
theorem uY (r:List (DVal×Int)) (hl:r.length≤1048576):Ctr prog 402 [.c (.sl (r.map F8))] [.val (.c (.sl ((spread r).map DVal.c)))]:=by
 refine CM call402 func402 ntmps402 results402 fun hw=>?_
 simp only[go_sem]
 refine AAU [6] (A:=Nat×List DVal) (fun x=>[(4,.c (.v (.int .i64 (x.1)))),(3,.c (.ref 0))]) (fun x=>[⟨66,3,x.2.map DVal.c,true,true⟩]) (fun x=>x.1≤r.length∧x.2.length≤64∧(Ir (r.drop x.1) x.2.length).map (fun y=>x.2++y)=Ir r 0) (fun x=>r.length-x.1) (0,[]) (AAQ [(0,false)] ⟨rfl,rfl,rfl,trivial⟩ rfl) ⟨au _,au _,AQ3⟩ ?_
 rintro⟨i,out⟩ ⟨hi,hll,hp⟩
 dsimp only at hi hll hp
 refine AQx (fun h=>?_) fun h=>?_
 ·have hi':i<r.length:=by simp at h; omega
  rw[RS hi',show r[i]=(r[i].1,r[i].2) from rfl,RQ] at hp
  rcases h2:decide (r[i].2<1) with _ | _
  rotate_left
  ·rw[bG (.inl ARw)] at hp
   simp only[X6] at hp
   have e:spread r = []:=AR3
   rw[e]
   simp only[go_sem,AA _ hi',F8,h2,df]
   try simp[D7]
  have h2':1≤r[i].2:=ARN
  have hw1:IntKind.i64.wrap (64-(out.length:Int))=64-(out.length:Int):=wrap_i64 AQ2 AQ2
  rcases h3:decide (r[i].2>64-(out.length:Int)) with _ | _
  rotate_left
  ·rw[bG (.inr ARQ)] at hp
   simp only[X6] at hp
   have e:spread r = []:=AR3
   rw[e]
   simp only[go_sem,AA _ hi',F8,h2,hw1,h3,df]
   try simp[D7]
  have h3':r[i].2≤64-(out.length:Int):=ARr
  obtain⟨K,hK⟩:=aU (show 0≤r[i].2 from AQ2)
  rw[bu AQ2,hK,YM] at hp
  rw[hK] at h2 h3 h2' h3'
  simp only[go_sem,AA _ hi',F8,hK,h2,hw1,h3]
  refine AAU [25] (A:=Nat) (fun x=>[(5,.c (.v (.int .i64 (x)))),(3,.c (.ref 0))]) (fun x=>[⟨66,3,(out++List.replicate x r[i].1).map DVal.c,true,true⟩]) (fun x=>x≤K) (fun x=>K-x) 0 (AAQ [(0,false)] ⟨rfl,rfl,RI _,trivial⟩ (by simp only[List.replicate_zero,bK]; rfl)) (au _) ?_
  rintro j hj
  have hl2:out.length+j+1≤2147483648:=AQ2
  simp only[go_sem,AA _ hi',F8,hK]
  refine AAP (fun h=>?_) (fun h=>?_)
  ·have hj':j<K:=by simp at h; omega
   simp only[go_sem,AA _ hi',F8,hl2,aap,wrap_i64 (n:=(j:Int)+1) AQ2 AQ2]
   exact⟨j+1,AAQ [(2,false)] ⟨rfl,rfl,AG1 _ _ _,trivial⟩ (by rw[zu]; rfl),hj',AQ2⟩
  ·have hj':j=K:=by simp at h; omega
   exact AM4
 ·have hi':i=r.length:=by simp at h; omega
  subst hi'
  rw[aJ] at hp
  simp only[Ir,dm,bK] at hp
  have e:spread r=out:=AR3
  rw[e]
  simp only[go_sem]
  try exact AHA
def Yl (r:DVal×Int):List Int:=FX r.2++X0 r.1
theorem Vu (l:List DVal) (h:typeOf l≠0):Fh l=FX (runs l).length++((runs l).map Yl).flatten:=bu h
theorem pF {α:Type} (f:α→List Int) {l:List α} {i:Nat} (h:i<l.length):((l.take (i+1)).map f).flatten=((l.take i).map f).flatten++f l[i]:=by
 rw[aaB h]
 simp only[bQ,aaS,TA,df,lL,aaU,bK]
theorem Tn {α:Type} (f:α→List Int) (m:Nat):∀ (l:List α),(∀ x∈l,(f x).length≤m)→((l.map f).flatten).length≤m*l.length
 | [],_=>AQ3
 | x::l,h=>by
  have h1:=h x AQ3
  have h2:=Tn f m l fun y hy=>h y ASE
  simp only[TA,lL,aN,bz,Nat.mul_add]
  omega
theorem VB (l:List DVal) (hl:l.length≤1048576):Ctr prog 416 [.c (.sl (l.map DVal.c))] [.own 5 1 ((Fh l).map byteC) true]:=by
 refine CM call416 func416 ntmps416 results416 fun hw=>?_
 simp only[go_sem]
 refine AAN _ (DC l hl) fun _=>?_
 rcases h1:typeOf l==0 with _ | _
 rotate_left
 ·have h1':typeOf l=0:=by simpa using h1
  have e:Fh l = []:=bG h1'
  exact AKC
 have h1':typeOf l≠0:=ARR
 obtain⟨q1,q2,q3⟩:=Dh h1'
 rw[Vu l h1']
 simp only[go_sem,h1]
 refine AAN _ (AB2 l hl) fun _=>?_
 simp only[go_sem]
 refine AAN _ (Gu [] ((runs l).length:Int) AQ3) fun _=>?_
 have hrl:=QN l
 have hq:=EJ ((runs l).length:Int)
 rw[Kw (by simp[EN,Ad]; omega),aG]
 simp only[go_sem]
 refine AAU [7,14,17] (A:=Nat) (fun x=>[(20,.c (.v (.int .i64 (x)))),(3,.c (.ref 0))]) (fun x=>[⟨5,1,(FX (runs l).length++(((runs l).take x).map Yl).flatten).map byteC,true,true⟩]) (fun x=>x≤(runs l).length) (fun x=>(runs l).length-x) 0 (AAQ [(1,false)] ⟨rfl,rfl,FN _,trivial⟩ (by simp only[VY,df,aaU,bK]; rfl)) (au _) ?_
 rintro i hi
 refine AQx (fun h=>?_) fun h=>?_
 ·have hi':i<(runs l).length:=by simp at h; omega
  obtain⟨b1,b2,b3⟩:=M_ (aj hi')
  have hv:=(q3 _ b1).1
  have hn:EN (runs l)[i].2=true:=(EF _).2 ⟨AQ2,AQ2⟩
  have hfl:=Tn Yl 12 ((runs l).take i) fun x hx=>by
   have hx':=M_ (aaz hx)
   exact APM
  rw[bJ] at hfl
  have hq2:=EJ (runs l)[i].2
  simp only[go_sem,AA _ hi',F8]
  refine AAR ?_
  simp only[go_sem,AA _ hi',F8]
  refine ABO _ (Gu _ _ ARh) ?_
  rw[Kw hn]
  simp only[go_sem,AA _ hi',F8]
  refine ABO _ (RJ _ (runs l)[i].1 ARh) ?_
  rw[Ub hv]
  simp only[go_sem,AA _ hi',F8,wrap_i64 (n:=(i:Int)+1) AQ2 AQ2]
  exact⟨i+1,AAQ [(3,false)] ⟨rfl,rfl,FN _,trivial⟩ (by rw[pF Yl hi',Yl]; simp only[aZ]; rfl),hi',AQ2⟩
 ·have hi':i=(runs l).length:=by simp at h; omega
  subst hi'
  simp only[go_sem,bP]
  try exact AHA
theorem VC (l:List DVal) (hl:l.length≤1048576):Ctr prog 403 [.c (.sl (l.map DVal.c))] [.own 5 1 ((Fh l).map byteC) true]:=by
 refine CM call403 func403 ntmps403 results403 fun hw=>?_
 simp only[go_sem]
 refine AAN _ (Ey l hl) fun _=>?_
 rcases h1:typeOf l==0 with _ | _
 rotate_left
 ·have h1':typeOf l=0:=by simpa using h1
  have e:Fh l = []:=bG h1'
  exact AKC
 have h1':typeOf l≠0:=ARR
 obtain⟨q1,q2,q3⟩:=Dh h1'
 rw[Vu l h1']
 simp only[go_sem,h1]
 refine AAN _ (AB3 l hl) fun _=>?_
 simp only[go_sem]
 refine AAN _ (Kv [] ((runs l).length:Int) AQ3) fun _=>?_
 have hrl:=QN l
 have hq:=EJ ((runs l).length:Int)
 rw[Kw (by simp[EN,Ad]; omega),aG]
 simp only[go_sem]
 refine AAU [12,15] (A:=Nat) (fun x=>[(5,.c (.v (.int .i64 (x)))),(4,.c (.ref 0))]) (fun x=>[⟨5,1,(FX (runs l).length++(((runs l).take x).map Yl).flatten).map byteC,true,true⟩]) (fun x=>x≤(runs l).length) (fun x=>(runs l).length-x) 0 (AAQ [(1,false)] ⟨rfl,rfl,FN _,trivial⟩ (by simp only[VY,df,aaU,bK]; rfl)) (au _) ?_
 rintro i hi
 refine AQx (fun h=>?_) fun h=>?_
 ·have hi':i<(runs l).length:=by simp at h; omega
  obtain⟨b1,b2,b3⟩:=M_ (aj hi')
  have hv:=(q3 _ b1).1
  have hn:EN (runs l)[i].2=true:=(EF _).2 ⟨AQ2,AQ2⟩
  have hfl:=Tn Yl 12 ((runs l).take i) fun x hx=>by
   have hx':=M_ (aaz hx)
   exact APM
  rw[bJ] at hfl
  have hq2:=EJ (runs l)[i].2
  simp only[go_sem,AA _ hi',F8]
  refine AAR ?_
  simp only[go_sem,AA _ hi',F8]
  refine ABO _ (Kv _ _ ARh) ?_
  rw[Kw hn]
  simp only[go_sem,AA _ hi',F8]
  refine ABO _ (RN _ (runs l)[i].1 ARh) ?_
  rw[Ub hv]
  simp only[go_sem,AA _ hi',F8,wrap_i64 (n:=(i:Int)+1) AQ2 AQ2]
  exact⟨i+1,AAQ [(2,false)] ⟨rfl,rfl,FN _,trivial⟩ (by rw[pF Yl hi',Yl]; simp only[aZ]; rfl),hi',AQ2⟩
 ·have hi':i=(runs l).length:=by simp at h; omega
  subst hi'
  simp only[go_sem,bP]
  try exact AHA
theorem Zo:∀ {r:List (DVal×Int)} {n:Nat} {l:List DVal},n≤64→Ir r n=some l→n+l.length≤64
 | [],n,l,hn,h=>by
  simp only[Ir,ai] at h
  subst h; simpa using hn
 | (v,k)::r,n,l,hn,h=>by
  rw[RQ] at h
  split at h
  ·cases h
  ·rename_i hk
   cases h2:Ir r (n+k.toNat) with
   | none=>rw[h2] at h; cases h
   | some l' =>
    rw[h2] at h
    simp only[dm,ai] at h
    subst h
    have:=Zo AQ2 h2
    simp only[aN,aap]; omega
theorem kQ (r:List (DVal×Int)):(spread r).length≤64:=by
 unfold spread
 cases h:Ir r 0 with
 | none=>simp
 | some l =>
  have:=Zo (au _) h
  simpa using this
theorem uZ (rs:List (DVal×Int)) (v:DVal) (m:Int):(rs ++ [(v,m)]).map F8=rs.map F8 ++ [[.v (.int .i64 v.ty),.v (.int .i64 v.n),.v (.string v.s),.v (.int .i64 m)]]:=by simp[F8]
theorem AJR (rs:List (DVal×Int)) (v:DVal) (m:Int):Fv (rs.map F8 ++ [[.v (.int .i64 v.ty),.v (.int .i64 v.n),.v (.string v.s),.v (.int .i64 m)]])=true:=by rw[← uZ]; exact Le _
theorem mJ (b:List Int) (ty k:Int) (hb:Af b) (hl:b.length≤1048576):Ctr prog 385 [.c (.sl (b.map byteC)),.c (.v (.int .i64 (ty))),.c (.v (.int .i64 (k)))] (Dt (EW b ty k)):=by
 refine CM call385 func385 ntmps385 results385 fun hw=>?_
 simp only[go_sem]
 have hg:=Gt b 0 hb hl
 rcases h1:BU b 0 with _ | ⟨n,q⟩<;>rw[h1] at hg<;>simp only[Xn] at hg
 ·have e:EW b ty k=none:=by simp only[EW,h1]
  rw[e]
  refine AAN _ hg fun _=>?_
  exact AM5
 refine AAN _ hg fun _=>?_
 simp only[go_sem]
 refine AAN _ (AL _ _ _) fun _=>?_
 rcases h2:Ad n 1 64 with _ | _
 ·have e:EW b ty k=none:=by simp only[EW,h1]; exact bu ARH
  rw[e]
  exact APs
 have h2':1≤n∧n≤64:=ARH
 have hall:EW b ty k=match Jr b ty n.toNat q with
   | none=>none
   | some r=>again b k (spread r) (Fh (spread r)):=by simp only[EW,h1]; exact bG h2'
 simp only[go_sem,h2]
 obtain⟨N,rfl⟩:=aU (show 0≤n from AQ2)
 rw[YM] at hall
 refine AAU [32] (A:=Nat×Nat×List (DVal×Int)) (fun x=>[(12,.c (.v (.int .i64 (x.1)))),(11,.c (.ref 0)),(9,.c (.v (.int .i64 ((x.2.1:Int)))))]) (fun x=>[⟨336,4,x.2.2.map F8,true,true⟩]) (fun x=>x.1≤N∧x.2.2.length=x.1∧(Jr b ty (N-x.1) x.2.1).map (fun y=>x.2.2++y)=Jr b ty N q) (fun x=>N-x.1) (0,q,[]) (AAQ [(0,false)] ⟨rfl,rfl,rfl,trivial⟩ rfl) ⟨au _,rfl,AQ3⟩ ?_
 rintro⟨i,p,r⟩ ⟨hi,hll,hp⟩
 dsimp only at hi hll hp
 refine AQx (fun h=>?_) fun h=>?_
 ·have hi':i<N:=by simp at h; omega
  rw[show N-i=(N-(i+1))+1 from AQ2,Jr] at hp
  have hg2:=Gt b p hb hl
  simp only[go_sem]
  rcases h3:BU b p with _ | ⟨m,p2⟩<;>rw[h3] at hg2 hp<;>simp only[Xn] at hg2
  ·refine AAN _ hg2 fun _=>?_
   simp only[X6] at hp
   rw[hall,← hp]
   exact AM5
  refine AAN _ hg2 fun _=>?_
  have hg3:=Xr b p2 ty hb hl
  simp only[go_sem]
  rcases h4:GK b p2 ty with _ | ⟨v,p3⟩<;>rw[h4] at hg3<;>simp only[h4] at hp<;>simp only[kL] at hg3
  ·refine AAN _ hg3 fun _=>?_
   simp only[X6] at hp
   rw[hall,← hp]
   exact AM5
  refine AAN _ hg3 fun _=>?_
  have hl2:r.length+1≤2147483648:=AQ2
  simp only[go_sem,hl2,wrap_i64 (n:=(i:Int)+1) AQ2 AQ2]
  exact⟨(i+1,p3,r ++ [(v,m)]),AAQ [(3,false)] ⟨rfl,rfl,AJR _ _ _,trivial⟩ (by rw[uZ]; rfl),⟨hi',AQ5,ASB⟩,AQ4⟩
 ·have hi':i=N:=by simp at h; omega
  subst hi'
  rw[ZO,Jr] at hp
  simp only[dm,bK] at hp
  rw[hall,← hp]
  simp only[go_sem,Le]
  refine AAN _ (uX r AQ2) fun _=>?_
  simp only[go_sem]
  have hsl:(spread r).length≤1048576:=by have:=kQ r; omega
  refine AAN _ (VB (spread r) hsl) fun _=>?_
  simp only[go_sem]
  refine AAN _ (CG b k (spread r) (Fh (spread r))) fun _=>?_
  rcases h4:again b k (spread r) (Fh (spread r)) with _ | l'<;>simp only[go_sem,Dt]
theorem mM (b:List Int) (ty k:Int) (hb:Af b) (hl:b.length≤1048576):Ctr prog 377 [.c (.sl (b.map byteC)),.c (.v (.int .i64 (ty))),.c (.v (.int .i64 (k)))] (Dt (EW b ty k)):=by
 refine CM call377 func377 ntmps377 results377 fun hw=>?_
 simp only[go_sem]
 have hg:=Gs b 0 hb hl
 rcases h1:BU b 0 with _ | ⟨n,q⟩<;>rw[h1] at hg<;>simp only[Xn] at hg
 ·have e:EW b ty k=none:=by simp only[EW,h1]
  rw[e]
  refine AAN _ hg fun _=>?_
  simp only[go_sem,Dt]
  try simp[D7]
 refine AAN _ hg fun _=>?_
 simp only[go_sem]
 refine AAN _ (AQ _ _ _) fun _=>?_
 have hkn:¬ (1≤k∧k≤64)→EW b ty k=none:=fun hk=>by
  simp only[EW,h1]
  split
  ·split
   ·rfl
   ·exact bu fun q=>hk ⟨q.1,q.2.1⟩
  ·rfl
 rcases h2:Ad k 1 64 with _ | _
 ·rw[hkn ARH]
  simp only[go_sem,h2,Dt]
  try simp[D7]
 simp only[go_sem,h2]
 refine AAN _ (AQ _ _ _) fun _=>?_
 have hk:1≤k∧k≤64:=ARH
 rcases h3:Ad n 1 64 with _ | _
 ·have e:EW b ty k=none:=by simp only[EW,h1]; exact bu ASU
  rw[e]
  simp only[go_sem,h3,Dt]
  try simp[D7]
 have h3':1≤n∧n≤64:=ASU
 have hall:EW b ty k=match Jr b ty n.toNat q with
   | none=>none
   | some r=>again b k (spread r) (Fh (spread r)):=by simp only[EW,h1]; exact bG h3'
 simp only[go_sem,h3]
 obtain⟨N,rfl⟩:=aU (show 0≤n from AQ2)
 rw[YM] at hall
 refine AAU [41] (A:=Nat×Nat×List (DVal×Int)) (fun x=>[(13,.c (.v (.int .i64 (x.1)))),(12,.c (.ref 1)),(10,.c (.v (.int .i64 ((x.2.1:Int)))))]) (fun x=>[⟨66,3,[],true,true⟩,⟨336,4,x.2.2.map F8,true,true⟩]) (fun x=>x.1≤N∧x.2.2.length=x.1∧(Jr b ty (N-x.1) x.2.1).map (fun y=>x.2.2++y)=Jr b ty N q) (fun x=>N-x.1) (0,q,[]) (AAQ [(0,false),(1,false)] ⟨rfl,rfl,rfl,rfl,trivial⟩ rfl) ⟨au _,rfl,AQ3⟩ ?_
 rintro⟨i,p,r⟩ ⟨hi,hll,hp⟩
 dsimp only at hi hll hp
 refine AQx (fun h=>?_) fun h=>?_
 ·have hi':i<N:=by simp at h; omega
  rw[show N-i=(N-(i+1))+1 from AQ2,Jr] at hp
  have hg2:=Gs b p hb hl
  simp only[go_sem]
  rcases h4:BU b p with _ | ⟨m,p2⟩<;>rw[h4] at hg2 hp<;>simp only[Xn] at hg2
  ·refine AAN _ hg2 fun _=>?_
   simp only[X6] at hp
   rw[hall,← hp]
   have hg3:=Ny b 0 ty hb hl
   simp only[go_sem]
   rcases h5:GK b 0 ty with _ | ⟨v,p3⟩<;>rw[h5] at hg3<;>simp only[kL] at hg3
   ·refine AAN _ hg3 fun _=>?_
    exact AM5
   ·refine AAN _ hg3 fun _=>?_
    exact AM5
  refine AAN _ hg2 fun _=>?_
  have hg3:=Ny b p2 ty hb hl
  simp only[go_sem]
  rcases h5:GK b p2 ty with _ | ⟨v,p3⟩<;>rw[h5] at hg3<;>simp only[h5] at hp<;>simp only[kL] at hg3
  ·refine AAN _ hg3 fun _=>?_
   simp only[X6] at hp
   rw[hall,← hp]
   exact AM5
  refine AAN _ hg3 fun _=>?_
  have hl2:r.length+1≤2147483648:=AQ2
  simp only[go_sem,hl2,wrap_i64 (n:=(i:Int)+1) AQ2 AQ2]
  exact⟨(i+1,p3,r ++ [(v,m)]),AAQ [(0,false),(4,false)] ⟨rfl,rfl,rfl,AJR _ _ _,trivial⟩ (by rw[uZ]; rfl),⟨hi',AQ5,ASB⟩,AQ4⟩
 ·have hi':i=N:=by simp at h; omega
  subst hi'
  rw[ZO,Jr] at hp
  simp only[dm,bK] at hp
  rw[hall,← hp]
  simp only[go_sem,Le]
  refine AAN _ (uY r AQ2) fun _=>?_
  simp only[go_sem]
  have hsl:(spread r).length≤1048576:=by have:=kQ r; omega
  rcases h5:((spread r).length:Int) != k with _ | _
  rotate_left
  ·have e:again b k (spread r) (Fh (spread r))=none:=bu fun q=>by simp at h5; exact h5 q.2.2.1
   simp only[go_sem,h5,e,Dt]
  have h5':((spread r).length:Int)=k:=by simpa using h5
  simp only[go_sem,h5]
  refine AAN _ (VC (spread r) hsl) fun _=>?_
  simp only[go_sem]
  refine AAN _ (JI (Fh (spread r)) b) fun _=>?_
  rcases h6:decide (Fh (spread r)=b) with _ | _
  ·have e:again b k (spread r) (Fh (spread r))=none:=bu fun q=>by simp at h6; exact h6 q.2.2.2.symm
   simp only[go_sem,h5,h6,e,Dt]
  ·have e:again b k (spread r) (Fh (spread r))=some (spread r):=bG ⟨hk.1,hk.2,h5',by simp at h6; exact h6.symm⟩
   simp only[go_sem,h5,h6,e,Dt]
theorem Ue {b:List Int} {w k:Int} {o:List Int} (h:unpack b w k=some o):o.length≤64:=by
 have h1:=O1 h
 unfold unpack at h
 split at h
 ·rename_i h2
  omega
 ·cases h
theorem ADJ:∀ (f:Nat) (x:Int),0≤HY f x∧HY f x≤f
 | 0,_=>by simp[HY]
 | f+1,x=>by
  have:=ADJ f (x/2)
  rw[HY]
  split<;>omega
theorem AB4 (n:Int):0≤A8 n∧A8 n≤32:=by
 unfold A8
 split
 ·exact ADJ 32 n
 ·omega
theorem Zp (l:List Int):0≤DI l∧DI l≤32:=by
 have key:∀ (l:List Int) (w:Int),0≤w∧w≤32→0≤l.foldl (fun w n=>max w (A8 n)) w∧l.foldl (fun w n=>max w (A8 n)) w≤32:=by
  intro l
  induction l with
  | nil=>intro w h; exact h
  | cons n l ih =>
   intro w h
   have:=AB4 n
   exact ih (max w (A8 n)) ⟨AQ2,AQ2⟩
 exact key l 0 AQ2
theorem JQ (l:List Int) (w:Int):(Eo l w).length≤4*l.length+1:=by
 unfold Eo
 split
 ·rename_i h
  simp only[ae,List.length_range]
  have:l.length*w.toNat≤l.length*31:=Nat.mul_le_mul_left _ AQ2
  omega
 ·simp
theorem Oz (l:List DVal) (hl:l.length≤1048576):Ctr prog 422 [.c (.sl (l.map DVal.c))] [.own 5 1 ((Di l).map byteC) true]:=by
 refine CM call422 func422 ntmps422 results422 fun hw=>?_
 simp only[go_sem]
 refine AAN _ (DC l hl) fun _=>?_
 rcases h1:typeOf l != 1 with _ | _
 rotate_left
 ·have h1':typeOf l≠1:=by simpa using h1
  have e:Di l = []:=bG h1'
  exact AKC
 have h1':typeOf l=1:=ARR
 obtain⟨q1,q2,q3⟩:=Dh (l:=l) AQ2
 have e:Di l=FX (Cc l)++(DI (offsets l)::Eo (offsets l) (DI (offsets l))):=bu AQ2
 have hol:(offsets l).length=l.length:=ASP
 rw[e]
 simp only[go_sem,h1]
 refine AAN _ (mO l hl) fun _=>?_
 simp only[go_sem]
 refine AAN _ (j_ (offsets l) AQ2) fun _=>?_
 simp only[go_sem]
 refine AAN _ (kX l hl) fun _=>?_
 have hw:=Zp (offsets l)
 have hpl:=JQ (offsets l) (DI (offsets l))
 have hq:=EJ (Cc l)
 have hbn:EN (Cc l)=true:=by
  exact API
 have hw1:IntKind.u8.wrap (DI (offsets l))=DI (offsets l):=wrap_u8 AQ2 AQ2
 simp only[go_sem]
 refine AAN _ (Gu [] (Cc l) AQ3) fun _=>?_
 rw[Kw hbn,aG]
 have hl2:(FX (Cc l)).length+1≤2147483648:=AQ2
 simp only[go_sem,hw1,hl2]
 refine AAN _ (kJ (offsets l) (DI (offsets l)) AQ2) fun _=>?_
 exact AOz
theorem Tq (l:List DVal) (hl:l.length≤1048576):Ctr prog 409 [.c (.sl (l.map DVal.c))] [.own 5 1 ((Di l).map byteC) true]:=by
 refine CM call409 func409 ntmps409 results409 fun hw=>?_
 simp only[go_sem]
 refine AAN _ (Ey l hl) fun _=>?_
 rcases h1:typeOf l != 1 with _ | _
 rotate_left
 ·have h1':typeOf l≠1:=by simpa using h1
  have e:Di l = []:=bG h1'
  exact AKC
 have h1':typeOf l=1:=ARR
 obtain⟨q1,q2,q3⟩:=Dh (l:=l) AQ2
 have e:Di l=FX (Cc l)++(DI (offsets l)::Eo (offsets l) (DI (offsets l))):=bu AQ2
 have hol:(offsets l).length=l.length:=ASP
 rw[e]
 simp only[go_sem,h1]
 refine AAN _ (mP l hl) fun _=>?_
 simp only[go_sem]
 refine AAN _ (kC (offsets l) AQ2) fun _=>?_
 simp only[go_sem]
 refine AAN _ (kW l hl) fun _=>?_
 have hw:=Zp (offsets l)
 have hpl:=JQ (offsets l) (DI (offsets l))
 have hq:=EJ (Cc l)
 have hbn:EN (Cc l)=true:=by
  exact API
 have hw1:IntKind.u8.wrap (DI (offsets l))=DI (offsets l):=wrap_u8 AQ2 AQ2
 simp only[go_sem]
 refine AAN _ (Kv [] (Cc l) AQ3) fun _=>?_
 rw[Kw hbn,aG]
 have hl2:(FX (Cc l)).length+1≤2147483648:=AQ2
 simp only[go_sem,hw1,hl2]
 refine AAN _ (kK (offsets l) (DI (offsets l)) AQ2) fun _=>?_
 exact AOz
theorem kR (b:List Int) (k:Int) (hb:Af b) (hl:b.length≤1048576):Ctr prog 387 [.c (.sl (b.map byteC)),.c (.v (.int .i64 (k)))] (Dt (Ep b k)):=by
 rw[← Zw]
 refine CM call387 func387 ntmps387 results387 fun hw=>?_
 simp only[go_sem]
 have hg:=Gt b 0 hb hl
 rcases h1:BU b 0 with _ | ⟨n,q⟩<;>rw[h1] at hg<;>simp only[Xn] at hg
 ·have e:JR b k=none:=by simp only[JR,h1]
  rw[e]
  refine AAN _ hg fun _=>?_
  exact AM5
 refine AAN _ hg fun _=>?_
 rcases h2:decide ((q:Int)≥(b.length:Int)) with _ | _
 rotate_left
 ·have e:JR b k=none:=by
   have:b[q]?=none:=by rw[abB]; simp at h2; omega
   simp only[JR,h1,this]
  rw[e]
  exact APs
 have hq:q<b.length:=ARN
 have hc:isByte b[q]:=hb _ (aj hq)
 have hall:JR b k=match unpack (b.drop (q+1)) b[q] k with
    | none=>none
    | some o=>again b k ((raised n o).getD []) (Di ((raised n o).getD [])):=by simp only[JR,h1,aC hq]; rfl
 rw[hall]
 have q1:=Iq (k:=.i64) (n:=(q:Int)+1) (m:=q+1) AQ2
 have q5:q+1≤b.length:=hq
 have hc2:=hc.1
 have hc3:=hc.2
 have q7:(b.map byteC).length-(q+1)=(b.drop (q+1)).length:=AQ3
 simp only[go_sem,h2,AA _ hq,q1,q5,BL,aI,wrap_i64 (n:=(q:Int)+1) AQ2 AQ2,wrap_i64 (n:=b[q]) AQ2 AQ2,← cO,← cZ]
 have htk:(b.drop (q+1)).take (b.length-(q+1))=b.drop (q+1):=aat AQ3
 have hbd:Af (b.drop (q+1)):=fun c hc=>hb c (aaM hc)
 have hu:=Xo (b.drop (q+1)) b[q] k hbd AQ5
 refine AAR ?_
 simp only[go_sem,h2,AA _ hq,q1,q5,BL,aI,wrap_i64 (n:=(q:Int)+1) AQ2 AQ2,wrap_i64 (n:=b[q]) AQ2 AQ2,← cO,← cZ,htk]
 rcases h3:unpack (b.drop (q+1)) b[q] k with _ | o<;>rw[h3] at hu<;>simp only[eP] at hu
 ·refine ABO _ hu ?_
  simp only[go_sem,Dt,AA _ hq,q1,q5,BL,aI,← cO,← cZ,htk,wrap_i64 (n:=b[q]) AQ2 AQ2,wrap_i64 (n:=(q:Int)+1) AQ2 AQ2]
 refine ABO _ hu ?_
 have hol:=Ue h3
 simp only[go_sem,AA _ hq,q1,q5,BL,aI,← cO,← cZ,htk,wrap_i64 (n:=b[q]) AQ2 AQ2,wrap_i64 (n:=(q:Int)+1) AQ2 AQ2]
 have hr:=uo n o AQ2
 rcases h4:raised n o with _ | l<;>rw[h4] at hr<;>simp only[Dt] at hr
 ·refine AAN _ hr fun _=>?_
  simp only[go_sem,aaF]
  refine AAN _ (Oz [] AQ3) fun _=>?_
  simp only[go_sem]
  refine AAN _ (CG b k [] (Di [])) fun _=>?_
  rcases h5:again b k [] (Di []) with _ | l'<;>simp only[go_sem,Dt]
 ·have hll:=RY h4
  refine AAN _ hr fun _=>?_
  simp only[go_sem]
  refine AAN _ (Oz l AQ2) fun _=>?_
  simp only[go_sem]
  refine AAN _ (CG b k l (Di l)) fun _=>?_
  rcases h5:again b k l (Di l) with _ | l'<;>simp only[go_sem,Dt]
theorem kS (b:List Int) (k:Int) (hb:Af b) (hl:b.length≤1048576):Ctr prog 379 [.c (.sl (b.map byteC)),.c (.v (.int .i64 (k)))] (Dt (Ep b k)):=by
 refine CM call379 func379 ntmps379 results379 fun hw=>?_
 simp only[go_sem]
 have hg:=Gs b 0 hb hl
 rcases h1:BU b 0 with _ | ⟨n,q⟩<;>rw[h1] at hg<;>simp only[Xn] at hg
 ·have e:Ep b k=none:=by simp only[Ep,h1]
  rw[e]
  refine AAN _ hg fun _=>?_
  exact AM5
 refine AAN _ hg fun _=>?_
 rcases h2:decide ((q:Int)≥(b.length:Int)) with _ | _
 rotate_left
 ·have e:Ep b k=none:=by
   have:b[q]?=none:=by rw[abB]; simp at h2; omega
   simp only[Ep,h1,this]
  rw[e]
  exact APs
 have hq:q<b.length:=ARN
 have hc:isByte b[q]:=hb _ (aj hq)
 simp only[go_sem,h2]
 refine AAN _ (AQ _ _ _) fun _=>?_
 rcases h6:Ad k 1 64 with _ | _
 ·have e:Ep b k=none:=by
   simp only[Ep,h1,aC hq]
   exact bu (by simp[Ad] at h6; omega)
  rw[e]
  simp only[go_sem,h6,Dt]
 have hk:1≤k∧k≤64:=by simp[Ad] at h6; omega
 have hall:Ep b k=match unpack (b.drop (q+1)) b[q] k with
    | none=>none
    | some o=>match raised n o with
     | none=>none
     | some l=>if Di l=b then some l else none:=by
  simp only[Ep,h1,aC hq]
  exact bG hk
 rw[hall]
 have q1:=Iq (k:=.i64) (n:=(q:Int)+1) (m:=q+1) AQ2
 have q5:q+1≤b.length:=hq
 have hc2:=hc.1
 have hc3:=hc.2
 have htk:(b.drop (q+1)).take (b.length-(q+1))=b.drop (q+1):=aat AQ3
 have hbd:Af (b.drop (q+1)):=fun c hc=>hb c (aaM hc)
 have hu:=Xp (b.drop (q+1)) b[q] k hbd AQ5
 simp only[go_sem,h6,AA _ hq,q1,q5,BL,aI,wrap_i64 (n:=(q:Int)+1) AQ2 AQ2,wrap_i64 (n:=b[q]) AQ2 AQ2,← cO,← cZ]
 refine AAR ?_
 simp only[go_sem,AA _ hq,q1,q5,BL,aI,wrap_i64 (n:=(q:Int)+1) AQ2 AQ2,wrap_i64 (n:=b[q]) AQ2 AQ2,← cO,← cZ,htk]
 rcases h3:unpack (b.drop (q+1)) b[q] k with _ | o<;>rw[h3] at hu<;>simp only[eP] at hu
 ·refine ABO _ hu ?_
  simp only[go_sem,AA _ hq,q1,q5,BL,aI,← cO,← cZ,htk,wrap_i64 (n:=b[q]) AQ2 AQ2,wrap_i64 (n:=(q:Int)+1) AQ2 AQ2]
  have hr:=Xy n [] AQ3
  rcases h4:raised n [] with _ | l<;>rw[h4] at hr<;>simp only[Dt] at hr
  ·exact AL0
  ·exact AL0
 refine ABO _ hu ?_
 have hol:=Ue h3
 simp only[go_sem,AA _ hq,q1,q5,BL,aI,← cO,← cZ,htk,wrap_i64 (n:=b[q]) AQ2 AQ2,wrap_i64 (n:=(q:Int)+1) AQ2 AQ2]
 have hr:=Xy n o AQ2
 rcases h4:raised n o with _ | l<;>rw[h4] at hr<;>simp only[Dt] at hr
 ·exact AL0
 have hll:=RY h4
 refine AAN _ hr fun _=>?_
 simp only[go_sem]
 refine AAN _ (Tq l AQ2) fun _=>?_
 simp only[go_sem]
 refine AAN _ (JI (Di l) b) fun _=>?_
 rcases h5:decide (Di l=b) with _ | _
 ·have e:¬ Di l=b:=by simpa using h5
  simp only[go_sem,h5,bu e,Dt]
 ·have e:Di l=b:=by simpa using h5
  simp only[go_sem,h5,bG e,Dt]
theorem Tt (l:List DVal):∃ p,places (DJ l) l=some p∧p.length=l.length:=by
 have key:∀ (d l:List DVal),(∀ x∈l,x∈d)→∃ p,places d l=some p∧p.length=l.length:=by
  intro d l
  induction l with
  | nil=>intro _; exact⟨[],rfl,rfl⟩
  | cons v l ih =>
   intro h
   obtain⟨p,h1,h2⟩:=ih fun x hx=>h x (abD v hx)
   have key2:∀ (d:List DVal) (k:Nat),v∈d→∃ i,placeOf v d k=some i:=by
    intro d
    induction d with
    | nil=>intro k hk; cases hk
    | cons x r ih =>
     intro k hk
     rw[N8]
     split
     ·exact⟨_,rfl⟩
     ·rename_i hne
      rcases Rx.1 hk with rfl | hk
      ·exact absurd ((L_ v v).2 rfl) hne
      ·exact ih (k+1) hk
   obtain⟨i,hi⟩:=key2 d 0 (h v AQ3)
   exact⟨i::p,by rw[places_cons,hi,h1],by simp[h2]⟩
 exact key _ _ fun x hx=>(ND l x).2 hx
theorem Vw {l:List DVal} (h:typeOf l≠0) {p:List Int} (hp:places (DJ l) l=some p):EX l=FX (DJ l).length++(Ky (DJ l)++Eo p (A8 ((DJ l).length-1))):=by
 unfold EX
 rw[bu h,hp]; rfl
theorem VD (l:List DVal) (hl:l.length≤1048576):Ctr prog 407 [.c (.sl (l.map DVal.c))] [.own 5 1 ((EX l).map byteC) true]:=by
 refine CM call407 func407 ntmps407 results407 fun hw=>?_
 simp only[go_sem]
 refine AAN _ (Ey l hl) fun _=>?_
 rcases h1:typeOf l==0 with _ | _
 rotate_left
 ·have h1':typeOf l=0:=by simpa using h1
  have e:EX l = []:=bG h1'
  exact AKC
 have h1':typeOf l≠0:=ARR
 obtain⟨q1,q2,q3⟩:=Dh h1'
 have hdl:=QR l
 obtain⟨p,hp,hpl⟩:=Tt l
 rw[Vw h1' hp]
 simp only[go_sem,h1]
 refine AAN _ (AB7 l hl) fun _=>?_
 simp only[go_sem]
 have hps:=ul (DJ l) l hl AQ2
 rw[hp] at hps
 simp only[eP] at hps
 refine AAN _ hps fun _=>?_
 have hd0:0<(DJ l).length:=by
  exact AQU
 have hq:=EJ ((DJ l).length:Int)
 have hdv:∀ v∈DJ l,BO v=true:=fun v hv=>(q3 v ((ND l v).1 hv)).1
 simp only[go_sem]
 refine AAN _ (Kv [] ((DJ l).length:Int) AQ3) fun _=>?_
 rw[Kw (by rw[EF]; omega),aG]
 simp only[go_sem]
 have hvl:=fun i=>Ld (l:=(DJ l).take i) fun v hv=>hdv v (aaz hv)
 refine AAU [20,23] (A:=Nat) (fun x=>[(7,.c (.v (.int .i64 (x)))),(6,.c (.ref 1))]) (fun x=>[⟨3,1,p.map intC,true,true⟩,⟨5,1,(FX (DJ l).length++Ky ((DJ l).take x)).map byteC,true,true⟩]) (fun x=>x≤(DJ l).length) (fun x=>(DJ l).length-x) 0 (AAQ [(0,false),(2,false)] ⟨rfl,rfl,CB _,FN _,trivial⟩ (by simp only[VY,Ky,df,aaU,bK]; rfl)) (au _) ?_
 rintro i hi
 refine AQx (fun h=>?_) fun h=>?_
 ·have hi':i<(DJ l).length:=by simp at h; omega
  have hvi:=hvl i
  rw[bJ] at hvi
  simp only[go_sem,AA _ hi']
  refine AAN _ (RN _ _ ARh) fun _=>?_
  rw[Ub (hdv _ (aj hi')),aZ,← RP hi']
  simp only[go_sem,wrap_i64 (n:=(i:Int)+1) AQ2 AQ2]
  exact⟨i+1,AAQ [(0,false),(2,false)] ⟨rfl,rfl,CB _,FN _,trivial⟩ rfl,hi',AQ2⟩
 ·have hpb:=JQ p (A8 ((DJ l).length-1))
  have hw1:IntKind.i64.wrap (((DJ l).length:Int)-1)=((DJ l).length:Int)-1:=wrap_i64 AQ2 AQ2
  have hvi:=hvl (DJ l).length
  rw[bJ] at hvi
  have hl3:(FX (DJ l).length).length+(Ky (DJ l)).length+(Eo p (A8 ((DJ l).length-1))).length≤2147483648:=by
   rw[bP] at hvi; omega
  have hi':i=(DJ l).length:=ARD
  subst hi'
  simp only[go_sem,bP,hw1]
  refine AAN _ (Jl _) fun _=>?_
  simp only[go_sem,hw1]
  refine AAN _ (kK p (A8 ((DJ l).length-1)) AQ2) fun _=>?_
  simp only[go_sem,hl3,Gg,aZ,Tj]
  try exact AHA
theorem Pq (l:List DVal) (hl:l.length≤1048576):Ctr prog 420 [.c (.sl (l.map DVal.c))] [.own 5 1 ((EX l).map byteC) true]:=by
 refine CM call420 func420 ntmps420 results420 fun hw=>?_
 simp only[go_sem]
 refine AAN _ (DC l hl) fun _=>?_
 rcases h1:typeOf l==0 with _ | _
 rotate_left
 ·have h1':typeOf l=0:=by simpa using h1
  have e:EX l = []:=bG h1'
  exact AKC
 have h1':typeOf l≠0:=ARR
 obtain⟨q1,q2,q3⟩:=Dh h1'
 have hdl:=QR l
 obtain⟨p,hp,hpl⟩:=Tt l
 rw[Vw h1' hp]
 simp only[go_sem,h1]
 refine AAN _ (AB9 l hl) fun _=>?_
 have hd0:0<(DJ l).length:=by
  exact AQU
 have hq:=EJ ((DJ l).length:Int)
 have hdv:∀ v∈DJ l,BO v=true:=fun v hv=>(q3 v ((ND l v).1 hv)).1
 have hps:=uk (DJ l) l hl AQ2
 rw[hp] at hps
 simp only[eP] at hps
 simp only[go_sem]
 refine AAN _ (Gu [] ((DJ l).length:Int) AQ3) fun _=>?_
 rw[Kw (by rw[EF]; omega),aG]
 simp only[go_sem]
 have hvl:=fun i=>Ld (l:=(DJ l).take i) fun v hv=>hdv v (aaz hv)
 refine AAU [9,16,19] (A:=Nat) (fun x=>[(22,.c (.v (.int .i64 (x)))),(3,.c (.ref 0))]) (fun x=>[⟨5,1,(FX (DJ l).length++Ky ((DJ l).take x)).map byteC,true,true⟩]) (fun x=>x≤(DJ l).length) (fun x=>(DJ l).length-x) 0 (AAQ [(1,false)] ⟨rfl,rfl,FN _,trivial⟩ (by simp only[VY,Ky,df,aaU,bK]; rfl)) (au _) ?_
 rintro i hi
 refine AQx (fun h=>?_) fun h=>?_
 ·have hi':i<(DJ l).length:=by simp at h; omega
  have hvi:=hvl i
  rw[bJ] at hvi
  simp only[go_sem,AA _ hi']
  refine AAN _ (RJ _ _ ARh) fun _=>?_
  rw[Ub (hdv _ (aj hi')),aZ,← RP hi']
  exact APD
 ·have hpb:=JQ p (A8 ((DJ l).length-1))
  have hw1:IntKind.i64.wrap (((DJ l).length:Int)-1)=((DJ l).length:Int)-1:=wrap_i64 AQ2 AQ2
  have hvi:=hvl (DJ l).length
  rw[bJ] at hvi
  have hl3:(FX (DJ l).length).length+(Ky (DJ l)).length+(Eo p (A8 ((DJ l).length-1))).length≤2147483648:=by
   rw[bP] at hvi; omega
  have hi':i=(DJ l).length:=ARD
  subst hi'
  simp only[go_sem,bP]
  refine AAN _ hps fun _=>?_
  simp only[go_sem,hw1]
  refine AAN _ (L8 _) fun _=>?_
  simp only[go_sem,hw1]
  refine AAN _ (kJ p (A8 ((DJ l).length-1)) AQ2) fun _=>?_
  simp only[go_sem,hl3,Gg,aZ,Tj]
  try exact AHA
theorem Zq (kind:Int) (l:List DVal) (hl:l.length≤1048576):Ctr prog 411 [.c (.v (.int .i64 (kind))),.c (.sl (l.map DVal.c))] [.own 5 1 ((EU kind l).map byteC) true]:=by
 refine CM call411 func411 ntmps411 results411 fun hw=>?_
 unfold EU
 rcases h0:kind==0 with _ | _
 rotate_left
 ·rw[bG AR8]
  simp only[go_sem,h0]
  refine AAN _ (Tm l hl) fun _=>?_
  simp only[go_sem]
  try exact AHA
 rw[bu AR8]
 rcases h1:kind==1 with _ | _
 rotate_left
 ·rw[bG ARR]
  simp only[go_sem,h0,h1]
  refine AAN _ (VC l hl) fun _=>?_
  simp only[go_sem]
  try exact AHA
 rw[bu ARR]
 rcases h2:kind==2 with _ | _
 rotate_left
 ·rw[bG ARw]
  simp only[go_sem,h0,h1,h2]
  refine AAN _ (VD l hl) fun _=>?_
  simp only[go_sem]
  try exact AHA
 rw[bu ARw]
 rcases h3:kind==3 with _ | _
 rotate_left
 ·rw[bG ARQ]
  simp only[go_sem,h0,h1,h2,h3]
  refine AAN _ (Tq l hl) fun _=>?_
  simp only[go_sem]
  try exact AHA
 rw[bu ARQ]
 simp only[go_sem,h0,h1,h2,h3]
 try exact ALC
theorem NC (kind:Int) (l:List DVal) (hl:l.length≤1048576):Ctr prog 424 [.c (.v (.int .i64 (kind))),.c (.sl (l.map DVal.c))] [.own 5 1 ((EU kind l).map byteC) true]:=by
 refine CM call424 func424 ntmps424 results424 fun hw=>?_
 unfold EU
 rcases h0:kind==0 with _ | _
 rotate_left
 ·rw[bG AR8]
  simp only[go_sem,h0]
  refine AAN _ (Oy l hl) fun _=>?_
  simp only[go_sem]
  try exact AHA
 rw[bu AR8]
 rcases h1:kind==1 with _ | _
 rotate_left
 ·rw[bG ARR]
  simp only[go_sem,h0,h1]
  refine AAN _ (VB l hl) fun _=>?_
  simp only[go_sem]
  try exact AHA
 rw[bu ARR]
 rcases h2:kind==2 with _ | _
 rotate_left
 ·rw[bG ARw]
  simp only[go_sem,h0,h1,h2]
  refine AAN _ (Pq l hl) fun _=>?_
  simp only[go_sem]
  try exact AHA
 rw[bu ARw]
 rcases h3:kind==3 with _ | _
 rotate_left
 ·rw[bG ARQ]
  simp only[go_sem,h0,h1,h2,h3]
  refine AAN _ (Oz l hl) fun _=>?_
  simp only[go_sem]
  try exact AHA
 rw[bu ARQ]
 simp only[go_sem,h0,h1,h2,h3]
 try exact ALC
noncomputable def NS (l:List DVal):Nat→Int
 | 0=>0
 | x+1=>if(x=2→typeOf l=1)∧(EU ((x:Int)+1) l).length<(EU (NS l x) l).length then(x:Int)+1 else NS l x
theorem AB5 (l:List DVal):bk3 l=NS l 3:=by
 have h1:bk1 l=NS l 1:=by simp[NS,bk1]
 have h2:bk2 l=NS l 2:=by
  rw[bk2,h1]
  show _=(if((1:Nat)=2→typeOf l=1)∧(EU (((1:Nat):Int)+1) l).length<(EU (NS l 1) l).length then((1:Nat):Int)+1 else NS l 1)
  simp
 rw[bk3,h2]
 show _=(if((2:Nat)=2→typeOf l=1)∧(EU (((2:Nat):Int)+1) l).length<(EU (NS l 2) l).length then((2:Nat):Int)+1 else NS l 2)
 simp
theorem Xv {l:List DVal} {x:Nat} (h1:x=2→typeOf l=1) (h2:(EU ((x:Int)+1) l).length<(EU (NS l x) l).length):NS l (x+1)=(x:Int)+1:=bG ⟨h1,h2⟩
theorem uf {l:List DVal} {x:Nat} (h1:x=2) (h2:typeOf l≠1):NS l (x+1)=NS l x:=bu fun q=>h2 (q.1 h1)
theorem Xw {l:List DVal} {x:Nat} (h2:¬ (EU ((x:Int)+1) l).length<(EU (NS l x) l).length):NS l (x+1)=NS l x:=bu fun q=>h2 q.2
theorem kT (l:List DVal) (hl:l.length≤1048576):Ctr prog 410 [.c (.sl (l.map DVal.c))] [.val (.c (.v (.int .i64 (BF l))))]:=by
 refine CM call410 func410 ntmps410 results410 fun hw=>?_
 simp only[go_sem]
 refine AAN _ (Ey l hl) fun _=>?_
 rcases h1:typeOf l==0 with _ | _
 rotate_left
 ·exact AP3
 have e:BF l=NS l 3:=by rw[← AB5]; exact bu ARR
 have e0:En l=EU 0 l:=rfl
 rw[e]
 simp only[go_sem,h1]
 refine AAN _ (Tm l hl) fun _=>?_
 simp only[go_sem]
 refine AAU [13] (A:=Nat) (fun x=>[(6,.c (.v (.int .i64 ((x:Int)+1)))),(5,.c (.v (.int .i64 ((EU (NS l x) l).length:Int)))),(4,.c (.v (.int .i64 (NS l x))))]) (fun _=>[]) (fun x=>x≤3) (fun x=>3-x) 0 (AAQ [] ⟨rfl,rfl,trivial⟩ rfl) (au _) ?_
 rintro x hx
 refine AQx (fun h=>?_) fun h=>?_
 ·have hx':x<3:=by simp at h; omega
  simp only[go_sem]
  refine AAN _ (Zq _ l hl) fun _=>?_
  rcases h2:((x:Int)+1 != 3) with _ | _<;>rcases h3:(typeOf l==1) with _ | _<;>rcases h4:decide (((EU ((x:Int)+1) l).length:Int)<((EU (NS l x) l).length:Int)) with _ | _<;>simp only[go_sem,h2,h3,h4,wrap_i64 (n:=(x:Int)+1+1) AQ2 AQ2]
  ·have hb:NS l (x+1)=NS l x:=uf ARN ARQ
   exact AIt
  ·have hb:NS l (x+1)=NS l x:=uf ARN ARQ
   exact AIt
  ·have hb:NS l (x+1)=NS l x:=Xw ARd
   exact AIt
  ·have hb:NS l (x+1)=(x:Int)+1:=Xv (fun _=>ARQ) ARd
   exact AIt
  ·have hb:NS l (x+1)=NS l x:=Xw ARd
   exact AIt
  ·have hb:NS l (x+1)=(x:Int)+1:=Xv (fun q=>ARN) ARd
   exact AIt
  ·have hb:NS l (x+1)=NS l x:=Xw ARd
   exact AIt
  ·have hb:NS l (x+1)=(x:Int)+1:=Xv (fun q=>ARN) ARd
   exact AIt
 ·have hx':x=3:=by simp at h; omega
  subst hx'
  exact AIu
theorem kU (l:List DVal) (hl:l.length≤1048576):Ctr prog 423 [.c (.sl (l.map DVal.c))] [.val (.c (.v (.int .i64 (BF l))))]:=by
 refine CM call423 func423 ntmps423 results423 fun hw=>?_
 simp only[go_sem]
 refine AAN _ (DC l hl) fun _=>?_
 rcases h1:typeOf l==0 with _ | _
 rotate_left
 ·exact AP3
 have e:BF l=NS l 3:=by rw[← AB5]; exact bu ARR
 rw[e]
 simp only[go_sem,h1]
 refine AAU [] (A:=Nat) (fun x=>[(5,.c (.v (.int .i64 ((x:Int)+1)))),(4,.c (.v (.int .i64 (NS l x))))]) (fun _=>[]) (fun x=>x≤3) (fun x=>3-x) 0 (AAQ [] ⟨rfl,rfl,trivial⟩ rfl) (au _) ?_
 rintro x hx
 refine AQx (fun h=>?_) fun h=>?_
 ·have hx':x<3:=by simp at h; omega
  rcases h2:((x:Int)+1==3) with _ | _
  ·simp only[go_sem,h2]
   refine AAN _ (NC _ l hl) fun _=>?_
   simp only[go_sem]
   refine AAN _ (NC _ l hl) fun _=>?_
   rcases h4:decide (((EU ((x:Int)+1) l).length:Int)<((EU (NS l x) l).length:Int)) with _ | _<;>simp only[go_sem,h4,wrap_i64 (n:=(x:Int)+1+1) AQ2 AQ2]
   ·have hb:NS l (x+1)=NS l x:=Xw ARd
    exact AIt
   ·have hb:NS l (x+1)=(x:Int)+1:=Xv (fun q=>ARN) ARd
    exact AIt
  ·rcases h3:(typeOf l != 1) with _ | _
   ·simp only[go_sem,h2,h3]
    refine AAN _ (NC _ l hl) fun _=>?_
    simp only[go_sem]
    refine AAN _ (NC _ l hl) fun _=>?_
    rcases h4:decide (((EU ((x:Int)+1) l).length:Int)<((EU (NS l x) l).length:Int)) with _ | _<;>simp only[go_sem,h4,wrap_i64 (n:=(x:Int)+1+1) AQ2 AQ2]
    ·have hb:NS l (x+1)=NS l x:=Xw ARd
     exact AIt
    ·have hb:NS l (x+1)=(x:Int)+1:=Xv (fun _=>ARQ) ARd
     exact AIt
   ·simp only[go_sem,h2,h3,wrap_i64 (n:=(x:Int)+1+1) AQ2 AQ2]
    have hb:NS l (x+1)=NS l x:=uf ARN ARQ
    exact AIt
 ·have hx':x=3:=by simp at h; omega
  subst hx'
  exact AIu
theorem AG2 (l:List DVal):∀ x,0≤NS l x∧NS l x≤x
 | 0=>by simp[NS]
 | x+1=>by
  have:=AG2 l x
  rw[NS]
  split<;>omega
theorem Zr {l:List DVal} (h:typeOf l≠0):0≤BF l∧BF l≤3:=by
 have e:BF l=NS l 3:=by rw[← AB5]; exact bu h
 have:=AG2 l 3
 rw[e]; omega
theorem ug (l:List DVal):(En l).length≤448:=by
 unfold En
 split
 ·simp
 ·rename_i h
  obtain⟨q1,q2,q3⟩:=Dh h
  have:=Ld fun v hv=>(q3 v hv).1
  omega
theorem zx (l:List DVal):(Fh l).length≤1000:=by
 by_cases h:typeOf l=0
 ·rw[show Fh l = [] from bG h]; simp
 ·obtain⟨q1,q2,q3⟩:=Dh h
  rw[Vu l h]
  have h1:=EJ ((runs l).length:Int)
  have h2:=QN l
  have h3:=Tn Yl 12 (runs l) fun x hx=>by
   have hx':=M_ hx
   exact APM
  simp only[aN]; omega
theorem zy (l:List DVal):(EX l).length≤1000:=by
 by_cases h:typeOf l=0
 ·rw[show EX l = [] from bG h]; simp
 ·obtain⟨q1,q2,q3⟩:=Dh h
  obtain⟨p,hp,hpl⟩:=Tt l
  rw[Vw h hp]
  have h1:=EJ ((DJ l).length:Int)
  have h2:=QR l
  have h3:=Ld (l:=DJ l) fun v hv=>(q3 v ((ND l v).1 hv)).1
  have h4:=JQ p (A8 ((DJ l).length-1))
  simp only[aN]; omega
theorem uh (l:List DVal):(Di l).length≤1000:=by
 by_cases h:typeOf l=1
 ·obtain⟨q1,q2,q3⟩:=Dh (l:=l) AQ2
  have e:Di l=FX (Cc l)++(DI (offsets l)::Eo (offsets l) (DI (offsets l))):=bu AQ2
  have hol:(offsets l).length=l.length:=ASP
  have h1:=EJ (Cc l)
  have h4:=JQ (offsets l) (DI (offsets l))
  rw[e]
  simp only[aN,bz]; omega
 ·rw[show Di l = [] from bG h]; simp
theorem Ym (k:Int) (l:List DVal):(EU k l).length≤1000:=by
 have h0:=ug l
 have h1:=zx l
 have h2:=zy l
 have h3:=uh l
 unfold EU
 repeat' split
 all_goals first | omega | simp
theorem kV (l:List DVal):(A_ l).length≤1001:=by
 have:=Ym (BF l) l
 unfold A_
 split
 ·simp
 ·simp only[bz]; omega
theorem N7 (l:List DVal) (hl:l.length≤1048576):Ctr prog 382 [.c (.sl (l.map DVal.c))] [.own 5 1 ((A_ l).map byteC) true]:=by
 refine CM call382 func382 ntmps382 results382 fun hw=>?_
 simp only[go_sem]
 refine AAN _ (kT l hl) fun _=>?_
 rcases h1:decide (BF l<0) with _ | _
 rotate_left
 ·have e:A_ l = []:=bG ARR
  exact AKC
 have h1':¬ BF l<0:=ARR
 have e:A_ l=BF l::EU (BF l) l:=bu h1'
 have ht:typeOf l≠0:=fun q=>h1' (by rw[show BF l = -1 from bG q]; decide)
 have hk:=Zr ht
 have hw1:IntKind.u8.wrap (BF l)=BF l:=wrap_u8 AQ2 AQ2
 rw[e]
 simp only[go_sem,h1,hw1]
 have hel:=Ym (BF l) l
 have hl2:1+(EU (BF l) l).length≤2147483648:=AQ2
 have hl3:(EU (BF l) l).length+1≤2147483648:=AQ2
 refine AAN _ (Zq (BF l) l hl) fun _=>?_
 exact AP7
theorem Ez (l:List DVal) (hl:l.length≤1048576):Ctr prog 390 [.c (.sl (l.map DVal.c))] [.own 5 1 ((A_ l).map byteC) true]:=by
 refine CM call390 func390 ntmps390 results390 fun hw=>?_
 simp only[go_sem]
 refine AAN _ (kU l hl) fun _=>?_
 rcases h1:decide (BF l<0) with _ | _
 rotate_left
 ·have e:A_ l = []:=bG ARR
  exact AKC
 have h1':¬ BF l<0:=ARR
 have e:A_ l=BF l::EU (BF l) l:=bu h1'
 have ht:typeOf l≠0:=fun q=>h1' (by rw[show BF l = -1 from bG q]; decide)
 have hk:=Zr ht
 have hw1:IntKind.u8.wrap (BF l)=BF l:=wrap_u8 AQ2 AQ2
 rw[e]
 simp only[go_sem,h1,hw1]
 have hel:=Ym (BF l) l
 have hl2:1+(EU (BF l) l).length≤2147483648:=AQ2
 have hl3:(EU (BF l) l).length+1≤2147483648:=AQ2
 refine AAN _ (NC (BF l) l hl) fun _=>?_
 exact AP7
end Go.Proofs.YthmifbbmgnhddaaGreat
