/- A part. -/
import Derived.Test.YtnoldekcdlaahaaGreatPYh
import Derived.Test.YtnoldekcdlaahaaGreatPYi
import Derived.Test.YtnoldekcdlaahaaGreatPYj
set_option linter.unusedSimpArgs false
set_option linter.unusedVariables false
set_option maxHeartbeats 2000000
set_option maxRecDepth 10000
open Go.Proofs.Tryz
namespace Go.Proofs.YtnoldekcdlaahaaGreat
open Go.Vm
theorem o6 (r:List (DVal×Int)) (hl:r.length≤1048576):Ctr prog 413 [.c (.sl (r.map Fe))] [.val (.c (.sl ((spread r).map DVal.c)))]:=by
 refine CM call413 func413 ntmps413 results413 fun hw=>?_
 simp only[go_sem]
 refine ABZ [6] (A:=Nat×List DVal) (fun x=>[(4,.c (.v (.int .i64 (x.1)))),(3,.c (.ref 0))]) (fun x=>[⟨64,3,x.2.map DVal.c,true,true⟩]) (fun x=>x.1≤r.length∧x.2.length≤64∧(IV (r.drop x.1) x.2.length).map (fun y=>x.2++y)=IV r 0) (fun x=>r.length-x.1) (0,[]) (ABJ [(0,false)] ⟨rfl,rfl,rfl,trivial⟩ rfl) ⟨aA _,aA _,AOR⟩ ?_
 rintro⟨i,out⟩ ⟨hi,hll,hp⟩
 dsimp only at hi hll hp
 refine AOJ (fun h=>?_) fun h=>?_
 ·have hi':i<r.length:=by simp at h; omega
  rw[P5 hi',show r[i]=(r[i].1,r[i].2) from rfl,Pz] at hp
  rcases h2:decide (r[i].2<1) with _ | _
  rotate_left
  ·rw[bF (.inl APG)] at hp
   simp only[WB] at hp
   have e:spread r = []:=APT
   rw[e]
   simp only[go_sem,AA _ hi',Fe,h2,di]
   try simp[BJ]
  have h2':1≤r[i].2:=AOh
  have hw1:IntKind.i64.wrap (64-(out.length:Int))=64-(out.length:Int):=wrap_i64 AOQ AOQ
  rcases h3:decide (r[i].2>64-(out.length:Int)) with _ | _
  rotate_left
  ·rw[bF (.inr AOm)] at hp
   simp only[WB] at hp
   have e:spread r = []:=APT
   rw[e]
   simp only[go_sem,AA _ hi',Fe,h2,hw1,h3,di]
   try simp[BJ]
  have h3':r[i].2≤64-(out.length:Int):=APC
  obtain⟨K,hK⟩:=aQ (show 0≤r[i].2 from AOQ)
  rw[bz AOQ,hK,bW] at hp
  rw[hK] at h2 h3 h2' h3'
  simp only[go_sem,AA _ hi',Fe,hK,h2,hw1,h3]
  refine ABZ [25] (A:=Nat) (fun x=>[(5,.c (.v (.int .i64 (x)))),(3,.c (.ref 0))]) (fun x=>[⟨64,3,(out++List.replicate x r[i].1).map DVal.c,true,true⟩]) (fun x=>x≤K) (fun x=>K-x) 0 (ABJ [(0,false)] ⟨rfl,rfl,Pq _,trivial⟩ (by simp only[List.replicate_zero,bQ]; rfl)) (aA _) ?_
  rintro j hj
  have hl2:out.length+j+1≤2147483648:=AOQ
  simp only[go_sem,AA _ hi',Fe,hK]
  refine ABG (fun h=>?_) (fun h=>?_)
  ·have hj':j<K:=by simp at h; omega
   simp only[go_sem,AA _ hi',Fe,hl2,bU,wrap_i64 (n:=(j:Int)+1) AOQ AOQ]
   exact⟨j+1,ABJ [(2,false)] ⟨rfl,rfl,AEA _ _ _,trivial⟩ (by rw[uy]; rfl),hj',AOQ⟩
  ·have hj':j=K:=by simp at h; omega
   exact ALD
 ·have hi':i=r.length:=by simp at h; omega
  subst hi'
  rw[aY] at hp
  simp only[IV,bY,bQ] at hp
  have e:spread r=out:=APT
  rw[e]
  simp only[go_sem]
  try exact AII
def XJ (r:DVal×Int):List Int:=FO r.2++Vq r.1
theorem UR (l:List DVal) (h:typeOf l≠0):FX l=FO (runs l).length++((runs l).map XJ).flatten:=bz h
theorem kL {α:Type} (f:α→List Int) {l:List α} {i:Nat} (h:i<l.length):((l.take (i+1)).map f).flatten=((l.take i).map f).flatten++f l[i]:=by
 rw[aas h]
 simp only[WU,aaM,YR,di,df,aaH,bQ]
theorem RG {α:Type} (f:α→List Int) (m:Nat):∀ (l:List α),(∀ x∈l,(f x).length≤m)→((l.map f).flatten).length≤m*l.length
 | [],_=>AOR
 | x::l,h=>by
  have h1:=h x AOR
  have h2:=RG f m l fun y hy=>h y APi
  simp only[YR,df,bu,aI,Nat.mul_add]
  omega
theorem TT (l:List DVal) (hl:l.length≤1048576):Ctr prog 403 [.c (.sl (l.map DVal.c))] [.own 5 1 ((FX l).map byteC) true]:=by
 refine CM call403 func403 ntmps403 results403 fun hw=>?_
 simp only[go_sem]
 refine AAM _ (DF l hl) fun _=>?_
 rcases h1:typeOf l==0 with _ | _
 rotate_left
 ·have h1':typeOf l=0:=by simpa using h1
  have e:FX l = []:=bF h1'
  exact AI6
 have h1':typeOf l≠0:=AOn
 obtain⟨q1,q2,q3⟩:=Dk h1'
 rw[UR l h1']
 simp only[go_sem,h1]
 refine AAM _ (yg l hl) fun _=>?_
 simp only[go_sem]
 refine AAM _ (GX [] ((runs l).length:Int) AOR) fun _=>?_
 have hrl:=O4 l
 have hq:=EN ((runs l).length:Int)
 rw[Jv (by simp[ER,Ad]; omega),aO]
 simp only[go_sem]
 refine ABZ [7,14,17] (A:=Nat) (fun x=>[(20,.c (.v (.int .i64 (x)))),(3,.c (.ref 0))]) (fun x=>[⟨5,1,(FO (runs l).length++(((runs l).take x).map XJ).flatten).map byteC,true,true⟩]) (fun x=>x≤(runs l).length) (fun x=>(runs l).length-x) 0 (ABJ [(1,false)] ⟨rfl,rfl,FI _,trivial⟩ APv) (aA _) ?_
 rintro i hi
 refine AOJ (fun h=>?_) fun h=>?_
 ·have hi':i<(runs l).length:=by simp at h; omega
  obtain⟨b1,b2,b3⟩:=Lc (ax hi')
  have hv:=(q3 _ b1).1
  have hn:ER (runs l)[i].2=true:=(EH _).2 ⟨AOQ,AOQ⟩
  have hfl:=RG XJ 12 ((runs l).take i) fun x hx=>by
   have hx':=Lc (ru hx)
   exact AMg
  rw[bI] at hfl
  have hq2:=EN (runs l)[i].2
  simp only[go_sem,AA _ hi',Fe]
  refine ABH ?_
  simp only[go_sem,AA _ hi',Fe]
  refine ACI _ (GX _ _ AO8) ?_
  rw[Jv hn]
  simp only[go_sem,AA _ hi',Fe]
  refine ACI _ (Pv _ (runs l)[i].1 AO8) ?_
  rw[Sr hv]
  simp only[go_sem,AA _ hi',Fe,wrap_i64 (n:=(i:Int)+1) AOQ AOQ]
  exact⟨i+1,ABJ [(3,false)] ⟨rfl,rfl,FI _,trivial⟩ (by rw[kL XJ hi',XJ]; simp only[bT]; rfl),hi',AOQ⟩
 ·have hi':i=(runs l).length:=by simp at h; omega
  subst hi'
  simp only[go_sem,bM]
  try exact AII
theorem TU (l:List DVal) (hl:l.length≤1048576):Ctr prog 399 [.c (.sl (l.map DVal.c))] [.own 5 1 ((FX l).map byteC) true]:=by
 refine CM call399 func399 ntmps399 results399 fun hw=>?_
 simp only[go_sem]
 refine AAM _ (Ez l hl) fun _=>?_
 rcases h1:typeOf l==0 with _ | _
 rotate_left
 ·have h1':typeOf l=0:=by simpa using h1
  have e:FX l = []:=bF h1'
  exact AI6
 have h1':typeOf l≠0:=AOn
 obtain⟨q1,q2,q3⟩:=Dk h1'
 rw[UR l h1']
 simp only[go_sem,h1]
 refine AAM _ (yh l hl) fun _=>?_
 simp only[go_sem]
 refine AAM _ (Ju [] ((runs l).length:Int) AOR) fun _=>?_
 have hrl:=O4 l
 have hq:=EN ((runs l).length:Int)
 rw[Jv (by simp[ER,Ad]; omega),aO]
 simp only[go_sem]
 refine ABZ [12,15] (A:=Nat) (fun x=>[(5,.c (.v (.int .i64 (x)))),(4,.c (.ref 0))]) (fun x=>[⟨5,1,(FO (runs l).length++(((runs l).take x).map XJ).flatten).map byteC,true,true⟩]) (fun x=>x≤(runs l).length) (fun x=>(runs l).length-x) 0 (ABJ [(1,false)] ⟨rfl,rfl,FI _,trivial⟩ APv) (aA _) ?_
 rintro i hi
 refine AOJ (fun h=>?_) fun h=>?_
 ·have hi':i<(runs l).length:=by simp at h; omega
  obtain⟨b1,b2,b3⟩:=Lc (ax hi')
  have hv:=(q3 _ b1).1
  have hn:ER (runs l)[i].2=true:=(EH _).2 ⟨AOQ,AOQ⟩
  have hfl:=RG XJ 12 ((runs l).take i) fun x hx=>by
   have hx':=Lc (ru hx)
   exact AMg
  rw[bI] at hfl
  have hq2:=EN (runs l)[i].2
  simp only[go_sem,AA _ hi',Fe]
  refine ABH ?_
  simp only[go_sem,AA _ hi',Fe]
  refine ACI _ (Ju _ _ AO8) ?_
  rw[Jv hn]
  simp only[go_sem,AA _ hi',Fe]
  refine ACI _ (Px _ (runs l)[i].1 AO8) ?_
  rw[Sr hv]
  simp only[go_sem,AA _ hi',Fe,wrap_i64 (n:=(i:Int)+1) AOQ AOQ]
  exact⟨i+1,ABJ [(2,false)] ⟨rfl,rfl,FI _,trivial⟩ (by rw[kL XJ hi',XJ]; simp only[bT]; rfl),hi',AOQ⟩
 ·have hi':i=(runs l).length:=by simp at h; omega
  subst hi'
  simp only[go_sem,bM]
  try exact AII
theorem X_:∀ {r:List (DVal×Int)} {n:Nat} {l:List DVal},n≤64→IV r n=some l→n+l.length≤64
 | [],n,l,hn,h=>by
  simp only[IV,ak] at h
  subst h; simpa using hn
 | (v,k)::r,n,l,hn,h=>by
  rw[Pz] at h
  split at h
  ·cases h
  ·rename_i hk
   cases h2:IV r (n+k.toNat) with
   | none=>rw[h2] at h; cases h
   | some l' =>
    rw[h2] at h
    simp only[bY,ak] at h
    subst h
    have:=X_ AOQ h2
    simp only[bu,bU]; omega
theorem fF (r:List (DVal×Int)):(spread r).length≤64:=by
 unfold spread
 cases h:IV r 0 with
 | none=>simp
 | some l =>
  have:=X_ (aA _) h
  simpa using this
theorem o7 (rs:List (DVal×Int)) (v:DVal) (m:Int):(rs ++ [(v,m)]).map Fe=rs.map Fe ++ [[.v (.int .i64 v.ty),.v (.int .i64 v.n),.v (.string v.s),.v (.int .i64 m)]]:=by simp[Fe]
theorem AGh (rs:List (DVal×Int)) (v:DVal) (m:Int):Gq (rs.map Fe ++ [[.v (.int .i64 v.ty),.v (.int .i64 v.n),.v (.string v.s),.v (.int .i64 m)]])=true:=by rw[← o7]; exact Kr _
theorem jB (b:List Int) (ty k:Int) (hb:Ae b) (hl:b.length≤1048576):Ctr prog 392 [.c (.sl (b.map byteC)),.c (.v (.int .i64 (ty))),.c (.v (.int .i64 (k)))] (Dv (Ea b ty k)):=by
 refine CM call392 func392 ntmps392 results392 fun hw=>?_
 simp only[go_sem]
 have hg:=GV b 0 hb hl
 rcases h1:Bf b 0 with _ | ⟨n,q⟩<;>rw[h1] at hg<;>simp only[Ve] at hg
 ·have e:Ea b ty k=none:=by simp only[Ea,h1]
  rw[e]
  refine AAM _ hg fun _=>?_
  exact ALC
 refine AAM _ hg fun _=>?_
 simp only[go_sem]
 refine AAM _ (AL _ _ _) fun _=>?_
 rcases h2:Ad n 1 64 with _ | _
 ·have e:Ea b ty k=none:=by simp only[Ea,h1]; exact bz AOa
  rw[e]
  exact ANE
 have h2':1≤n∧n≤64:=AOa
 have hall:Ea b ty k=match JO b ty n.toNat q with
   | none=>none
   | some r=>again b k (spread r) (FX (spread r)):=by simp only[Ea,h1]; exact bF h2'
 simp only[go_sem,h2]
 obtain⟨N,rfl⟩:=aQ (show 0≤n from AOQ)
 rw[bW] at hall
 refine ABZ [32] (A:=Nat×Nat×List (DVal×Int)) (fun x=>[(12,.c (.v (.int .i64 (x.1)))),(11,.c (.ref 0)),(9,.c (.v (.int .i64 ((x.2.1:Int)))))]) (fun x=>[⟨312,4,x.2.2.map Fe,true,true⟩]) (fun x=>x.1≤N∧x.2.2.length=x.1∧(JO b ty (N-x.1) x.2.1).map (fun y=>x.2.2++y)=JO b ty N q) (fun x=>N-x.1) (0,q,[]) (ABJ [(0,false)] ⟨rfl,rfl,rfl,trivial⟩ rfl) ⟨aA _,rfl,AOR⟩ ?_
 rintro⟨i,p,r⟩ ⟨hi,hll,hp⟩
 dsimp only at hi hll hp
 refine AOJ (fun h=>?_) fun h=>?_
 ·have hi':i<N:=by simp at h; omega
  rw[show N-i=(N-(i+1))+1 from AOQ,JO] at hp
  have hg2:=GV b p hb hl
  simp only[go_sem]
  rcases h3:Bf b p with _ | ⟨m,p2⟩<;>rw[h3] at hg2 hp<;>simp only[Ve] at hg2
  ·refine AAM _ hg2 fun _=>?_
   simp only[WB] at hp
   rw[hall,← hp]
   exact ALC
  refine AAM _ hg2 fun _=>?_
  have hg3:=Vj b p2 ty hb hl
  simp only[go_sem]
  rcases h4:Fv b p2 ty with _ | ⟨v,p3⟩<;>rw[h4] at hg3<;>simp only[h4] at hp<;>simp only[eY] at hg3
  ·refine AAM _ hg3 fun _=>?_
   simp only[WB] at hp
   rw[hall,← hp]
   exact ALC
  refine AAM _ hg3 fun _=>?_
  have hl2:r.length+1≤2147483648:=AOQ
  simp only[go_sem,hl2,wrap_i64 (n:=(i:Int)+1) AOQ AOQ]
  exact⟨(i+1,p3,r ++ [(v,m)]),ABJ [(3,false)] ⟨rfl,rfl,AGh _ _ _,trivial⟩ (by rw[o7]; rfl),⟨hi',AOS,APg⟩,AOV⟩
 ·have hi':i=N:=by simp at h; omega
  subst hi'
  rw[jV,JO] at hp
  simp only[bY,bQ] at hp
  rw[hall,← hp]
  simp only[go_sem,Kr]
  refine AAM _ (oW r AOQ) fun _=>?_
  simp only[go_sem]
  have hsl:(spread r).length≤1048576:=by have:=fF r; omega
  refine AAM _ (TT (spread r) hsl) fun _=>?_
  simp only[go_sem]
  refine AAM _ (Cb b k (spread r) (FX (spread r))) fun _=>?_
  rcases h4:again b k (spread r) (FX (spread r)) with _ | l'<;>simp only[go_sem,Dv]
theorem jC (b:List Int) (ty k:Int) (hb:Ae b) (hl:b.length≤1048576):Ctr prog 383 [.c (.sl (b.map byteC)),.c (.v (.int .i64 (ty))),.c (.v (.int .i64 (k)))] (Dv (Ea b ty k)):=by
 refine CM call383 func383 ntmps383 results383 fun hw=>?_
 simp only[go_sem]
 have hg:=GU b 0 hb hl
 rcases h1:Bf b 0 with _ | ⟨n,q⟩<;>rw[h1] at hg<;>simp only[Ve] at hg
 ·have e:Ea b ty k=none:=by simp only[Ea,h1]
  rw[e]
  refine AAM _ hg fun _=>?_
  simp only[go_sem,Dv]
  try simp[BJ]
 refine AAM _ hg fun _=>?_
 simp only[go_sem]
 refine AAM _ (AO _ _ _) fun _=>?_
 have hkn:¬ (1≤k∧k≤64)→Ea b ty k=none:=fun hk=>by
  simp only[Ea,h1]
  split
  ·split
   ·rfl
   ·exact bz fun q=>hk ⟨q.1,q.2.1⟩
  ·rfl
 rcases h2:Ad k 1 64 with _ | _
 ·rw[hkn AOa]
  simp only[go_sem,h2,Dv]
  try simp[BJ]
 simp only[go_sem,h2]
 refine AAM _ (AO _ _ _) fun _=>?_
 have hk:1≤k∧k≤64:=AOa
 rcases h3:Ad n 1 64 with _ | _
 ·have e:Ea b ty k=none:=by simp only[Ea,h1]; exact bz APx
  rw[e]
  simp only[go_sem,h3,Dv]
  try simp[BJ]
 have h3':1≤n∧n≤64:=APx
 have hall:Ea b ty k=match JO b ty n.toNat q with
   | none=>none
   | some r=>again b k (spread r) (FX (spread r)):=by simp only[Ea,h1]; exact bF h3'
 simp only[go_sem,h3]
 obtain⟨N,rfl⟩:=aQ (show 0≤n from AOQ)
 rw[bW] at hall
 refine ABZ [41] (A:=Nat×Nat×List (DVal×Int)) (fun x=>[(13,.c (.v (.int .i64 (x.1)))),(12,.c (.ref 1)),(10,.c (.v (.int .i64 ((x.2.1:Int)))))]) (fun x=>[⟨64,3,[],true,true⟩,⟨312,4,x.2.2.map Fe,true,true⟩]) (fun x=>x.1≤N∧x.2.2.length=x.1∧(JO b ty (N-x.1) x.2.1).map (fun y=>x.2.2++y)=JO b ty N q) (fun x=>N-x.1) (0,q,[]) (ABJ [(0,false),(1,false)] ⟨rfl,rfl,rfl,rfl,trivial⟩ rfl) ⟨aA _,rfl,AOR⟩ ?_
 rintro⟨i,p,r⟩ ⟨hi,hll,hp⟩
 dsimp only at hi hll hp
 refine AOJ (fun h=>?_) fun h=>?_
 ·have hi':i<N:=by simp at h; omega
  rw[show N-i=(N-(i+1))+1 from AOQ,JO] at hp
  have hg2:=GU b p hb hl
  simp only[go_sem]
  rcases h4:Bf b p with _ | ⟨m,p2⟩<;>rw[h4] at hg2 hp<;>simp only[Ve] at hg2
  ·refine AAM _ hg2 fun _=>?_
   simp only[WB] at hp
   rw[hall,← hp]
   have hg3:=MR b 0 ty hb hl
   simp only[go_sem]
   rcases h5:Fv b 0 ty with _ | ⟨v,p3⟩<;>rw[h5] at hg3<;>simp only[eY] at hg3
   ·refine AAM _ hg3 fun _=>?_
    exact ALC
   ·refine AAM _ hg3 fun _=>?_
    exact ALC
  refine AAM _ hg2 fun _=>?_
  have hg3:=MR b p2 ty hb hl
  simp only[go_sem]
  rcases h5:Fv b p2 ty with _ | ⟨v,p3⟩<;>rw[h5] at hg3<;>simp only[h5] at hp<;>simp only[eY] at hg3
  ·refine AAM _ hg3 fun _=>?_
   simp only[WB] at hp
   rw[hall,← hp]
   exact ALC
  refine AAM _ hg3 fun _=>?_
  have hl2:r.length+1≤2147483648:=AOQ
  simp only[go_sem,hl2,wrap_i64 (n:=(i:Int)+1) AOQ AOQ]
  exact⟨(i+1,p3,r ++ [(v,m)]),ABJ [(0,false),(4,false)] ⟨rfl,rfl,rfl,AGh _ _ _,trivial⟩ (by rw[o7]; rfl),⟨hi',AOS,APg⟩,AOV⟩
 ·have hi':i=N:=by simp at h; omega
  subst hi'
  rw[jV,JO] at hp
  simp only[bY,bQ] at hp
  rw[hall,← hp]
  simp only[go_sem,Kr]
  refine AAM _ (o6 r AOQ) fun _=>?_
  simp only[go_sem]
  have hsl:(spread r).length≤1048576:=by have:=fF r; omega
  rcases h5:((spread r).length:Int) != k with _ | _
  rotate_left
  ·have e:again b k (spread r) (FX (spread r))=none:=bz fun q=>by simp at h5; exact h5 q.2.2.1
   simp only[go_sem,h5,e,Dv]
  have h5':((spread r).length:Int)=k:=by simpa using h5
  simp only[go_sem,h5]
  refine AAM _ (TU (spread r) hsl) fun _=>?_
  simp only[go_sem]
  refine AAM _ (Ik (FX (spread r)) b) fun _=>?_
  rcases h6:decide (FX (spread r)=b) with _ | _
  ·have e:again b k (spread r) (FX (spread r))=none:=bz fun q=>by simp at h6; exact h6 q.2.2.2.symm
   simp only[go_sem,h5,h6,e,Dv]
  ·have e:again b k (spread r) (FX (spread r))=some (spread r):=bF ⟨hk.1,hk.2,h5',by simp at h6; exact h6.symm⟩
   simp only[go_sem,h5,h6,e,Dv]
end Go.Proofs.YtnoldekcdlaahaaGreat
