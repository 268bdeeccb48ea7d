/- A part. -/
import Derived.Test.YtdagmocgcanknaaGreatYh
import Derived.Test.YtdagmocgcanknaaGreatYm
import Derived.Test.YtdagmocgcanknaaGreatYu
set_option linter.unusedSimpArgs false
set_option linter.unusedVariables false
set_option maxHeartbeats 4000000
set_option maxRecDepth 100000
open Go.Proofs.Tryz
namespace Go.Proofs.YtdagmocgcanknaaGreat
open Go.Vm
section
variable {p q r:Prop}
theorem AQl(h:p:=by kernel_rfl):p:=h
end
theorem nD (r:List (DVal×Int)) (hl:r.length<=1048576):Ctr prog 332 [.c (.sl (r.map Fj))] [.val (.c (.sl ((spread r).map DVal.c)))]:=by
 refine CM call332 func332 ntmps332 results332 fun hw=>?_;simp only[go_sem];refine AAv [6] (A:=Nat×List DVal) (fun x=>[(4,.c (.v (.int .i64 (x.1)))),(3,.c (.ref 0))]) (fun x=>[⟨112,3,x.2.map DVal.c,true,true⟩]) (fun x=>x.1<=r.length/\x.2.length<=64/\(Il (r.drop x.1) x.2.length).map (fun y=>x.2++y)=Il r 0) (fun x=>r.length-x.1) (0,[]) (AAS [(0,false)] ⟨rfl,rfl,rfl,trivial⟩ rfl) ⟨aq _,aq _,AOm⟩ ?_;rintro⟨i,out⟩ ⟨hi,hll,hp⟩;dsimp only at hi hll hp;refine AOd (fun h=>?_) fun h=>?_
 .have hi':i<r.length:=by simp at h; omega
  rw[Qg hi',show r[i]=(r[i].1,r[i].2) from rfl,Qe] at hp;rcases h2:decide (r[i].2<1) with _ | _;rotate_left
  .rw[aV (.inl APc)] at hp;simp only[W_] at hp;have e:spread r = []:=APu;rw[e];simp only[go_sem,AA _ hi',Fj,h2,ap];try simp[DR]
  have h2':1<=r[i].2:=AO3;have hw1:IntKind.i64.wrap (64-(out.length:Int))=64-(out.length:Int):=wrap_i64 AOl AOl;rcases h3:decide (r[i].2>64-(out.length:Int)) with _ | _;rotate_left
  .rw[aV (.inr AO7)] at hp;simp only[W_] at hp;have e:spread r = []:=APu;rw[e];simp only[go_sem,AA _ hi',Fj,h2,hw1,h3,ap];try simp[DR]
  have h3':r[i].2<=64-(out.length:Int):=APj;obtain⟨K,hK⟩:=aF (show 0<=r[i].2 from AOl);rw[aR AOl,hK,aZ] at hp;rw[hK] at h2 h3 h2' h3';simp only[go_sem,AA _ hi',Fj,hK,h2,hw1,h3];refine AAv [25] (A:=Nat) (fun x=>[(5,.c (.v (.int .i64 (x)))),(3,.c (.ref 0))]) (fun x=>[⟨112,3,(out++List.replicate x r[i].1).map DVal.c,true,true⟩]) (fun x=>x<=K) (fun x=>K-x) 0 (AAS [(0,false)] ⟨rfl,rfl,Qa _,trivial⟩ (by simp only[List.replicate_zero,bc]; rfl)) (aq _) ?_;rintro j hj;have hl2:out.length+j+1<=2147483648:=AOl;simp only[go_sem,AA _ hi',Fj,hK];refine AAQ (fun h=>?_) (fun h=>?_)
  .have hj':j<K:=by simp at h; omega
   simp only[go_sem,AA _ hi',Fj,hl2,aaa,wrap_i64 (n:=(j:Int)+1) AOl AOl];exact⟨j+1,AAS [(2,false)] ⟨rfl,rfl,AEO _ _ _,trivial⟩ (by rw[wC]; rfl),hj',AOl⟩
  .have hj':j=K:=by simp at h; omega
   exact ALH
 .have hi':i=r.length:=by simp at h; omega
  subst hi';rw[aK] at hp;simp only[Il,bi,bc] at hp;have e:spread r=out:=APu;rw[e];simp only[go_sem];try exact AIG
def XL (r:DVal×Int):List Int:=Ey r.2++WB r.1
theorem Ud (l:List DVal) (h:typeOf l≠0):Fa l=Ey (runs l).length++((runs l).map XL).flatten:=aR h
theorem jZ {α:Type} (f:α->List Int) {l:List α} {i:Nat} (h:i<l.length):((l.take (i+1)).map f).flatten=((l.take i).map f).flatten++f l[i]:=by rw[aap h];simp only[bl,aaD,ao,ap,XV,aaH,bc]
theorem Nl {α:Type} (f:α->List Int) (m:Nat):∀ (l:List α),(∀ x∈l,(f x).length<=m)->((l.map f).flatten).length<=m*l.length
 | [],_=>AOm
 | x::l,h=>by have h1:=h x AOm;have h2:=Nl f m l fun y hy=>h y AP_;simp only[ao,XV,aP,ag,Nat.mul_add];omega
theorem UC (l:List DVal) (hl:l.length<=1048576):Ctr prog 328 [.c (.sl (l.map DVal.c))] [.own 5 1 ((Fa l).map byteC) true]:=by
 refine CM call328 func328 ntmps328 results328 fun hw=>?_;simp only[go_sem];refine AAO _ (DN l hl) fun _=>?_;rcases h1:typeOf l==0 with _ | _;rotate_left
 .have h1':typeOf l=0:=by simpa using h1
  have e:Fa l = []:=aV h1';exact AJ8
 have h1':typeOf l≠0:=AO8;obtain⟨q1,q2,q3⟩:=Dt h1';rw[Ud l h1'];simp only[go_sem,h1];refine AAO _ (zI l hl) fun _=>?_;simp only[go_sem];refine AAO _ (Gy [] ((runs l).length:Int) AOm) fun _=>?_;have hrl:=Pq l;have hq:=Di ((runs l).length:Int);rw[Ip (by simp[EE,Ae]; omega),aA];simp only[go_sem];refine AAv [7,14,17] (A:=Nat) (fun x=>[(20,.c (.v (.int .i64 (x)))),(3,.c (.ref 0))]) (fun x=>[⟨5,1,(Ey (runs l).length++(((runs l).take x).map XL).flatten).map byteC,true,true⟩]) (fun x=>x<=(runs l).length) (fun x=>(runs l).length-x) 0 (AAS [(1,false)] ⟨rfl,rfl,EI _,trivial⟩ AQV) (aq _) ?_;rintro i hi;refine AOd (fun h=>?_) fun h=>?_
 .have hi':i<(runs l).length:=by simp at h; omega
  obtain⟨b1,b2,b3⟩:=MI (an hi');have hv:=(q3 _ b1).1;have hn:EE (runs l)[i].2=true:=(Du _).2 ⟨AOl,AOl⟩;have hfl:=Nl XL 12 ((runs l).take i) fun x hx=>by have hx':=MI (uF hx);exact AMs
  rw[aU] at hfl;have hq2:=Di (runs l)[i].2;simp only[go_sem,AA _ hi',Fj];refine AAR ?_;simp only[go_sem,AA _ hi',Fj];refine ABg _ (Gy _ _ APK) ?_;rw[Ip hn];simp only[go_sem,AA _ hi',Fj];refine ABg _ (Qb _ (runs l)[i].1 APK) ?_;rw[Ti hv];simp only[go_sem,AA _ hi',Fj,wrap_i64 (n:=(i:Int)+1) AOl AOl];exact⟨i+1,AAS [(3,false)] ⟨rfl,rfl,EI _,trivial⟩ (by rw[jZ XL hi',XL]; simp only[ba]; rfl),hi',AOl⟩
 .have hi':i=(runs l).length:=by simp at h; omega
  subst hi';simp only[go_sem,aX];try exact AIG
theorem UD (l:List DVal) (hl:l.length<=1048576):Ctr prog 316 [.c (.sl (l.map DVal.c))] [.own 5 1 ((Fa l).map byteC) true]:=by
 refine CM call316 func316 ntmps316 results316 fun hw=>?_;simp only[go_sem];refine AAO _ (FB l hl) fun _=>?_;rcases h1:typeOf l==0 with _ | _;rotate_left
 .have h1':typeOf l=0:=by simpa using h1
  have e:Fa l = []:=aV h1';exact AJ8
 have h1':typeOf l≠0:=AO8;obtain⟨q1,q2,q3⟩:=Dt h1';rw[Ud l h1'];simp only[go_sem,h1];refine AAO _ (zJ l hl) fun _=>?_;simp only[go_sem];refine AAO _ (Gz [] ((runs l).length:Int) AOm) fun _=>?_;have hrl:=Pq l;have hq:=Di ((runs l).length:Int);rw[Ip (by simp[EE,Ae]; omega),aA];simp only[go_sem];refine AAv [12,15] (A:=Nat) (fun x=>[(5,.c (.v (.int .i64 (x)))),(4,.c (.ref 0))]) (fun x=>[⟨5,1,(Ey (runs l).length++(((runs l).take x).map XL).flatten).map byteC,true,true⟩]) (fun x=>x<=(runs l).length) (fun x=>(runs l).length-x) 0 (AAS [(1,false)] ⟨rfl,rfl,EI _,trivial⟩ AQV) (aq _) ?_;rintro i hi;refine AOd (fun h=>?_) fun h=>?_
 .have hi':i<(runs l).length:=by simp at h; omega
  obtain⟨b1,b2,b3⟩:=MI (an hi');have hv:=(q3 _ b1).1;have hn:EE (runs l)[i].2=true:=(Du _).2 ⟨AOl,AOl⟩;have hfl:=Nl XL 12 ((runs l).take i) fun x hx=>by have hx':=MI (uF hx);exact AMs
  rw[aU] at hfl;have hq2:=Di (runs l)[i].2;simp only[go_sem,AA _ hi',Fj];refine AAR ?_;simp only[go_sem,AA _ hi',Fj];refine ABg _ (Gz _ _ APK) ?_;rw[Ip hn];simp only[go_sem,AA _ hi',Fj];refine ABg _ (Qc _ (runs l)[i].1 APK) ?_;rw[Ti hv];simp only[go_sem,AA _ hi',Fj,wrap_i64 (n:=(i:Int)+1) AOl AOl];exact⟨i+1,AAS [(2,false)] ⟨rfl,rfl,EI _,trivial⟩ (by rw[jZ XL hi',XL]; simp only[ba]; rfl),hi',AOl⟩
 .have hi':i=(runs l).length:=by simp at h; omega
  subst hi';simp only[go_sem,aX];try exact AIG
theorem YQ:∀ {r:List (DVal×Int)} {n:Nat} {l:List DVal},n<=64->Il r n=some l->n+l.length<=64
 | [],n,l,hn,h=>by simp only[Il,ai] at h;subst h; simpa using hn
 | (v,k)::r,n,l,hn,h=>by
  rw[Qe] at h;split at h
  .cases h
  .rename_i hk;cases h2:Il r (n+k.toNat) with
   | none=>rw[h2] at h; cases h
   | some l' =>
    rw[h2] at h
    simp only[bi,ai] at h
    subst h
    have:=YQ AOl h2
    simp only[aP,aaa]; omega
theorem bK (r:List (DVal×Int)):(spread r).length<=64:=by
 unfold spread;cases h:Il r 0 with
 | none=>simp
 | some l =>
  have:=YQ (aq _) h
  simpa using this
theorem nG (rs:List (DVal×Int)) (v:DVal) (m:Int):(rs ++ [(v,m)]).map Fj=rs.map Fj ++ [[.v (.int .i64 v.ty),.v (.int .i64 v.n),.v (.string v.s),.v (.int .i64 m)]]:=by simp[Fj]
theorem AGB (rs:List (DVal×Int)) (v:DVal) (m:Int):GL (rs.map Fj ++ [[.v (.int .i64 v.ty),.v (.int .i64 v.n),.v (.string v.s),.v (.int .i64 m)]])=true:=by rw[<- nG]; exact La _
theorem iZ (b:List Int) (ty k:Int) (hb:Ai b) (hl:b.length<=1048576):Ctr prog 321 [.c (.sl (b.map byteC)),.c (.v (.int .i64 (ty))),.c (.v (.int .i64 (k)))] (Dx (Ec b ty k)):=by
 refine CM call321 func321 ntmps321 results321 fun hw=>?_;simp only[go_sem];have hg:=Gx b 0 hb hl;rcases h1:Bh b 0 with _ | ⟨n,q⟩<;>rw[h1] at hg<;>simp only[WJ] at hg
 .have e:Ec b ty k=none:=by simp only[Ec,h1]
  rw[e];refine AAO _ hg fun _=>?_;exact ALI
 refine AAO _ hg fun _=>?_;simp only[go_sem];refine AAO _ (AL _ _ _) fun _=>?_;rcases h2:Ae n 1 64 with _ | _
 .have e:Ec b ty k=none:=by simp only[Ec,h1]; exact aR AOw
  rw[e];exact ANR
 have h2':1<=n/\n<=64:=AOw
 have hall:Ec b ty k=match Jj b ty n.toNat q with
   | none=>none
   | some r=>again b k (spread r) (Fa (spread r)):=by simp only[Ec,h1]; exact aV h2'
 simp only[go_sem,h2];obtain⟨N,rfl⟩:=aF (show 0<=n from AOl);rw[aZ] at hall;refine AAv [32] (A:=Nat×Nat×List (DVal×Int)) (fun x=>[(12,.c (.v (.int .i64 (x.1)))),(11,.c (.ref 0)),(9,.c (.v (.int .i64 ((x.2.1:Int)))))]) (fun x=>[⟨292,4,x.2.2.map Fj,true,true⟩]) (fun x=>x.1<=N/\x.2.2.length=x.1/\(Jj b ty (N-x.1) x.2.1).map (fun y=>x.2.2++y)=Jj b ty N q) (fun x=>N-x.1) (0,q,[]) (AAS [(0,false)] ⟨rfl,rfl,rfl,trivial⟩ rfl) ⟨aq _,rfl,AOm⟩ ?_;rintro⟨i,p,r⟩ ⟨hi,hll,hp⟩;dsimp only at hi hll hp;refine AOd (fun h=>?_) fun h=>?_
 .have hi':i<N:=by simp at h; omega
  rw[show N-i=(N-(i+1))+1 from AOl,Jj] at hp;have hg2:=Gx b p hb hl;simp only[go_sem];rcases h3:Bh b p with _ | ⟨m,p2⟩<;>rw[h3] at hg2 hp<;>simp only[WJ] at hg2
  .refine AAO _ hg2 fun _=>?_;simp only[W_] at hp;rw[hall,<- hp];exact ALI
  refine AAO _ hg2 fun _=>?_;have hg3:=WO b p2 ty hb hl;simp only[go_sem];rcases h4:F8 b p2 ty with _ | ⟨v,p3⟩<;>rw[h4] at hg3<;>simp only[h4] at hp<;>simp only[fU] at hg3
  .refine AAO _ hg3 fun _=>?_;simp only[W_] at hp;rw[hall,<- hp];exact ALI
  refine AAO _ hg3 fun _=>?_;have hl2:r.length+1<=2147483648:=AOl;simp only[go_sem,hl2,wrap_i64 (n:=(i:Int)+1) AOl AOl];exact⟨(i+1,p3,r ++ [(v,m)]),AAS [(3,false)] ⟨rfl,rfl,AGB _ _ _,trivial⟩ (by rw[nG]; rfl),⟨hi',AOn,AP7⟩,AOp⟩
 .have hi':i=N:=by simp at h; omega
  subst hi';rw[jv,Jj] at hp;simp only[bi,bc] at hp;rw[hall,<- hp];simp only[go_sem,La];refine AAO _ (pY r AOl) fun _=>?_;simp only[go_sem];have hsl:(spread r).length<=1048576:=by have:=bK r; omega
  refine AAO _ (UC (spread r) hsl) fun _=>?_;simp only[go_sem];refine AAO _ (Cj b k (spread r) (Fa (spread r))) fun _=>?_;rcases h4:again b k (spread r) (Fa (spread r)) with _ | l'<;>simp only[go_sem,Dx]
theorem ig (b:List Int) (ty k:Int) (hb:Ai b) (hl:b.length<=1048576):Ctr prog 308 [.c (.sl (b.map byteC)),.c (.v (.int .i64 (ty))),.c (.v (.int .i64 (k)))] (Dx (Ec b ty k)):=by
 refine CM call308 func308 ntmps308 results308 fun hw=>?_;simp only[go_sem];have hg:=Gw b 0 hb hl;rcases h1:Bh b 0 with _ | ⟨n,q⟩<;>rw[h1] at hg<;>simp only[WJ] at hg
 .have e:Ec b ty k=none:=by simp only[Ec,h1]
  rw[e];refine AAO _ hg fun _=>?_;simp only[go_sem,Dx];try simp[DR]
 refine AAO _ hg fun _=>?_;simp only[go_sem];refine AAO _ (AP _ _ _) fun _=>?_
 have hkn:¬ (1<=k/\k<=64)->Ec b ty k=none:=fun hk=>by
  simp only[Ec,h1];split
  .split
   .rfl
   .exact aR fun q=>hk ⟨q.1,q.2.1⟩
  .rfl
 rcases h2:Ae k 1 64 with _ | _
 .rw[hkn AOw];simp only[go_sem,h2,Dx];try simp[DR]
 simp only[go_sem,h2];refine AAO _ (AP _ _ _) fun _=>?_;have hk:1<=k/\k<=64:=AOw;rcases h3:Ae n 1 64 with _ | _
 .have e:Ec b ty k=none:=by simp only[Ec,h1]; exact aR AQY
  rw[e];simp only[go_sem,h3,Dx];try simp[DR]
 have h3':1<=n/\n<=64:=AQY
 have hall:Ec b ty k=match Jj b ty n.toNat q with
   | none=>none
   | some r=>again b k (spread r) (Fa (spread r)):=by simp only[Ec,h1]; exact aV h3'
 simp only[go_sem,h3];obtain⟨N,rfl⟩:=aF (show 0<=n from AOl);rw[aZ] at hall;refine AAv [41] (A:=Nat×Nat×List (DVal×Int)) (fun x=>[(13,.c (.v (.int .i64 (x.1)))),(12,.c (.ref 1)),(10,.c (.v (.int .i64 ((x.2.1:Int)))))]) (fun x=>[⟨112,3,[],true,true⟩,⟨292,4,x.2.2.map Fj,true,true⟩]) (fun x=>x.1<=N/\x.2.2.length=x.1/\(Jj b ty (N-x.1) x.2.1).map (fun y=>x.2.2++y)=Jj b ty N q) (fun x=>N-x.1) (0,q,[]) (AAS [(0,false),(1,false)] ⟨rfl,rfl,rfl,rfl,trivial⟩ rfl) ⟨aq _,rfl,AOm⟩ ?_;rintro⟨i,p,r⟩ ⟨hi,hll,hp⟩;dsimp only at hi hll hp;refine AOd (fun h=>?_) fun h=>?_
 .have hi':i<N:=by simp at h; omega
  rw[show N-i=(N-(i+1))+1 from AOl,Jj] at hp;have hg2:=Gw b p hb hl;simp only[go_sem];rcases h4:Bh b p with _ | ⟨m,p2⟩<;>rw[h4] at hg2 hp<;>simp only[WJ] at hg2
  .refine AAO _ hg2 fun _=>?_;simp only[W_] at hp;rw[hall,<- hp];have hg3:=NP b 0 ty hb hl;simp only[go_sem];rcases h5:F8 b 0 ty with _ | ⟨v,p3⟩<;>rw[h5] at hg3<;>simp only[fU] at hg3
   .refine AAO _ hg3 fun _=>?_;exact ALI
   .refine AAO _ hg3 fun _=>?_;exact ALI
  refine AAO _ hg2 fun _=>?_;have hg3:=NP b p2 ty hb hl;simp only[go_sem];rcases h5:F8 b p2 ty with _ | ⟨v,p3⟩<;>rw[h5] at hg3<;>simp only[h5] at hp<;>simp only[fU] at hg3
  .refine AAO _ hg3 fun _=>?_;simp only[W_] at hp;rw[hall,<- hp];exact ALI
  refine AAO _ hg3 fun _=>?_;have hl2:r.length+1<=2147483648:=AOl;simp only[go_sem,hl2,wrap_i64 (n:=(i:Int)+1) AOl AOl];exact⟨(i+1,p3,r ++ [(v,m)]),AAS [(0,false),(4,false)] ⟨rfl,rfl,rfl,AGB _ _ _,trivial⟩ (by rw[nG]; rfl),⟨hi',AOn,AP7⟩,AOp⟩
 .have hi':i=N:=by simp at h; omega
  subst hi';rw[jv,Jj] at hp;simp only[bi,bc] at hp;rw[hall,<- hp];simp only[go_sem,La];refine AAO _ (nD r AOl) fun _=>?_;simp only[go_sem];have hsl:(spread r).length<=1048576:=by have:=bK r; omega
  rcases h5:((spread r).length:Int) != k with _ | _;rotate_left
  .have e:again b k (spread r) (Fa (spread r))=none:=aR fun q=>by simp at h5; exact h5 q.2.2.1
   simp only[go_sem,h5,e,Dx]
  have h5':((spread r).length:Int)=k:=by simpa using h5
  simp only[go_sem,h5];refine AAO _ (UD (spread r) hsl) fun _=>?_;simp only[go_sem];refine AAO _ (JA (Fa (spread r)) b) fun _=>?_;rcases h6:decide (Fa (spread r)=b) with _ | _
  .have e:again b k (spread r) (Fa (spread r))=none:=aR fun q=>by simp at h6; exact h6 q.2.2.2.symm
   simp only[go_sem,h5,h6,e,Dx]
  .have e:again b k (spread r) (Fa (spread r))=some (spread r):=aV ⟨hk.1,hk.2,h5',by simp at h6; exact h6.symm⟩;simp only[go_sem,h5,h6,e,Dx]
theorem NU {s:MS} (l:Nat) {ob:Ob} (h:DF s.st l=some ob) (hp:GL ob.xs=true):Head s ⟨s.n,s.env,Qw s.st l⟩:=Head.frz [l] (by simp only[Yb,h,hp,aO])
theorem QK (l:List DVal):((l.map DVal.c).all fun r=>r.length==3)=true:=aC.2 fun r hr=>by obtain⟨x,_,rfl⟩:=jB.1 hr;rfl
theorem bM (v x:DVal) (r:List DVal):ins v (x::r)=if Ff x v=true then x::ins v r else if N7 x v=true then x::r else v::x::r:=rfl
theorem zx (v:DVal):∀ {d:List DVal},(∀ m (h:m<d.length),Ff d[m] v=true)->ins v d=d ++ [v]
 | [],_=>rfl
 | x::r,h=>by
  have h0:=h 0 AOm;simp only[abw] at h0
  rw[bM,aV h0,zx v fun m hm=>by
   have:=h (m+1) (by simpa using hm);simpa using this]
  rfl
theorem zy (v:DVal):∀ {d:List DVal} {k:Nat} (hk:k<d.length),(∀ m (h:m<d.length),m<k->Ff d[m] v=true)->Ff d[k] v=false->ins v d=if N7 d[k] v=true then d else d.take k++v::d.drop k
 | [],k,hk,_,_=>APZ
 | x::r,0,_,_,h2=>by simp only[abw] at h2;rw[bM,h2,aR AOm];rfl
 | x::r,k+1,hk,h1,h2=>by
  have h0:=h1 0 AOm AOl;simp only[abw] at h0;simp only[abx] at h2
  rw[bM,aV h0,zy v (k:=k) APQ (fun m hm hm2=>by
   have:=h1 (m+1) (by simpa using hm) AOl;simpa using this) h2]
  simp only[abx];split<;>rfl
theorem ABQ {l:List DVal} {i:Nat} (h:i<l.length):DW (l.take (i+1))=ins l[i] (DW (l.take i)):=by rw[take_snoc h];simp only[DW,abu,abB,List.foldl_nil]
theorem Ue (a b:List DVal) (v:DVal):(a++v::b).map DVal.c=a.map DVal.c ++ [v.c]++b.map DVal.c:=AOm
theorem MO (a b:List DVal) (v:DVal):GL (a.map DVal.c ++ [v.c]++b.map DVal.c)=true:=by rw[<- Ue]; exact Qa _
theorem xh (l:List DVal) (hl:l.length<=1048576):Ctr prog 339 [.c (.sl (l.map DVal.c))] [.val (.c (.sl ((DW l).map DVal.c)))]:=by
 refine CM call339 func339 ntmps339 results339 fun hw=>?_;simp only[go_sem];refine AAv [6] (A:=Nat) (fun x=>[(4,.c (.v (.int .i64 (x)))),(3,.c (.ref 0))]) (fun x=>[⟨112,3,(DW (l.take x)).map DVal.c,false,true⟩]) (fun x=>x<=l.length) (fun x=>l.length-x) 0 (Head.trans (Head.frz [0] rfl) (AAS [(0,false)] ⟨rfl,rfl,rfl,trivial⟩ rfl)) (aq _) ?_;rintro i hi;refine AOd (fun h=>?_) fun h=>?_
 .have hi':i<l.length:=by simp at h; omega
  have hdl:=Pn (l.take i);rw[aU] at hdl;have hds:=ABQ hi';generalize hd:DW (l.take i)=d at hdl hds;simp only[go_sem,hd];refine AAe 1 (A:=Nat) (fun x=>[(5,.c (.v (.int .i64 (x))))]) (fun _=>[⟨112,3,d.map DVal.c,false,true⟩]) (fun x=>x<=d.length/\∀ m (h:m<d.length),m<x->Ff d[m] l[i]=true) (fun x=>d.length-x) 0 ⟨⟨rfl,all1 (AX (Ce _))⟩,rfl,aq _,fun m h h2=>AOl⟩ ?_;rintro k ⟨hk,hless⟩;rcases h2:decide ((k:Int)<(d.length:Int)) with _ | _
  .have h2':k=d.length:=by simp at h2; omega
   have hkle:k<=d.length:=hk;have hins:=zx l[i] fun m hm=>hless m hm AOl;have hds:DW (l.take (i+1))=d.take k++l[i]::d.drop k:=by rw[hds,hins,h2']; simp
   have h3:((k:Int)==(d.length:Int))=true:=AOn;simp only[go_sem];refine AAP ?_;simp only[go_sem,h2];refine AAP ?_;simp only[go_sem,h3];have hkm:min k d.length=k:=AOl;have g1:k<=2147483648:=AOl;have g2:k+1<=2147483648:=AOl;have g3:k+1+(d.length-k)<=2147483648:=AOl;have htk:(d.drop k).take (d.length-k)=d.drop k:=aau AOm;refine ACb 4 9 [0,1,2,3,4,5,6,7,8,9,10,11,12,13,14,15] [0,5,6,7,8,9,1,2,3,4,10,11,12,13,14,15] rfl AQl AQl ?_ ?_
   .exact AGF
   .simp only[go_sem];refine ACb 0 5 [0,1,2,3,4,5,6,7,8,9,10,11,12,13,14,15] [1,2,3,4,5,0,6,7,8,9,10,11,12,13,14,15] rfl AQl AQl ?_ ?_
    .exact AGF
    .exact AGF
  have h2':k<d.length:=APc;simp only[go_sem];refine AAP ?_;simp only[go_sem,h2,h2',AA _ h2',AA _ hi'];have e1:(d[k].ty==l[i].ty&&(d[k].n==l[i].n&&d[k].s.toList==l[i].s.toList))=N7 d[k] l[i]:=rfl;refine CY (jF d[k] l[i]) ?_;rcases h3:Ff d[k] l[i] with _ | _
  .have hins:=zy l[i] h2' hless h3;have h4:((k:Int)==(d.length:Int))=false:=AOn;simp only[go_sem];refine AAP ?_;simp only[go_sem,h4,h2',AA _ h2',AA _ hi',EW,IZ,e1];rcases h5:N7 d[k] l[i] with _ | _;rotate_left
   .have hds:DW (l.take (i+1))=d:=by rw[hds,hins,aV h5]
    simp only[go_sem,h5,wrap_i64 (n:=(i:Int)+1) AOl AOl];exact⟨i+1,AAS [(0,false)] ⟨rfl,rfl,Qa _,trivial⟩ (by rw[hds]; rfl),hi',AOl⟩
   have hds:DW (l.take (i+1))=d.take k++l[i]::d.drop k:=by rw[hds,hins,h5,aR AOm]
   have hkle:k<=d.length:=hk;simp only[go_sem,h5];have hkm:min k d.length=k:=AOl;have g1:k<=2147483648:=AOl;have g2:k+1<=2147483648:=AOl;have g3:k+1+(d.length-k)<=2147483648:=AOl;have htk:(d.drop k).take (d.length-k)=d.drop k:=aau AOm;refine ACb 4 9 [0,1,2,3,4,5,6,7,8,9,10,11,12,13,14,15] [0,5,6,7,8,9,1,2,3,4,10,11,12,13,14,15] rfl AQl AQl ?_ ?_
   .exact AGF
   .simp only[go_sem];refine ACb 0 5 [0,1,2,3,4,5,6,7,8,9,10,11,12,13,14,15] [1,2,3,4,5,0,6,7,8,9,10,11,12,13,14,15] rfl AQl AQl ?_ ?_
    .exact AGF
    .exact AGF
  .simp only[go_sem,wrap_i64 (n:=(k:Int)+1) AOl AOl]
   exact⟨k+1,⟨rfl,all1 (AX (Ce _))⟩,rfl,⟨h2',fun m h4 h5=>by
    by_cases e:m=k
    .subst e; exact h3
    .exact hless m h4 AOl⟩,AOl⟩
 .have hi':i=l.length:=by simp at h; omega
  subst hi';simp only[go_sem,aX];try exact AIG
open Go.RowKit
theorem bP {w:World} {b:Nat} {l:List DVal} {cs:Array Value} {ty:TypeId} (hb:w.heap[b]?=some (.cells cs ty (0,0))) (hc:∀ (k:Nat) (c:Cl),(l.map DVal.c).flatten[k]?=some c->∃ y,cs[k]?=some y/\c = .v y) :
  Go.Sort.HoldsK ER 3 w b 0 l.toArray:=by
 intro t ht
 have ht':t<l.length*3:=by simpa using ht
 have hk:t/3<l.length:=AOl
 have hr:(l.map DVal.c)[t/3]?=some l[t/3].c:=by simp[hk]
 have hlen:∀ x∈l.map DVal.c,x.length=3:=fun x hx=>by obtain⟨v,_,rfl⟩:=jB.1 hx;rfl
 have h3:t%3<3:=Nat.mod_lt _ AOl
 have he:(ER l.toArray[t/3]!)[t%3]! = (ER l[t/3])[t%3]!:=by simp[hk]
 rw[Go.Sort.get_flatK _ _ _ _ (by simpa using ht'),he,nY]
 have hc1:∃ y,l[t/3].c[t%3]?=some (.v y)/\(ER l[t/3])[t%3]! = y:=by rcases(show t%3=0\/t%3=1\/t%3=2 from AOl) with e | e | e<;>rw[e]<;>exact⟨_,rfl,rfl⟩
 obtain⟨y,hy1,hy2⟩:=hc1
 have hf:=F6 hlen (t/3) (t%3) _ _ hr hy1
 rw[show t/3*3+t%3=t from AOl] at hf
 obtain⟨z,hz1,hz2⟩:=hc t _ hf
 cases hz2
 rw[hy2]
 constructor
 .show (match w.heap[b]? with | some (.cells cs _ _)=>cs[t]? | _=>none)=some y
  rw[hb]; exact hz1
 .show (match w.heap[b]? with | some (.cells _ _ (lo,hi))=>decide (lo<=t)&&decide (t<hi) | _=>false)=false
  rw[hb]; simp
theorem ru {w:World} {b q:Nat} {F:Array Value} {n:Nat} (h:Go.Sort.Holds id w b 0 F) {G:Array Value} (hs:G.size=F.size) (hn:n<F.size):(Go.Sort.putRow id (Go.Sort.ahead w q) b 0 G).cell? ⟨b,n,none⟩=some G[n]!:=by have:=(Go.Sort.holds_putRow id (Go.Sort.ahead w q) b 0 F G (Go.Sort.holds_ahead id w q b 0 F h) hs n AOl).1;rwa [nY] at this
theorem ik (l:List DVal) (hl:l.length<=1048576) (w:World) (St:Nat->Nat->Prop) (u:Value) (hSt:∀ b o,St b o->b<w.heap.size) (hu:RdA w St (.c (.sl (l.map DVal.c))) u) :
  Calls prog 195 #[u] w fun e w1=>∃ a cap,e = .returned (.slice a l.length cap)/\l.length<=cap/\cap<=maxLen/\Below w.heap.size w w1/\(l = []\/∃ b,a=some ⟨b,0,none⟩/\w.heap.size<=b/\b<w1.heap.size/\Go.Sort.HoldsK ER 3 w1 b 0 l.toArray):=by
 refine((F_ l hl).2 w St [u] hSt ⟨u,[],rfl,hu,rfl⟩).mono ?_
 rintro e w1 ⟨us,bs,St1,hb⟩
 obtain⟨Φs,hR,_⟩:=hb.res
 obtain⟨u1,us',b1,bs',Φ,Φs',rfl,rfl,rfl,h1,h2,_,_⟩:=hR
 subst h2
 have hret:=hb.ret
 cases b1 with
 | none =>
  obtain⟨rfl,h3⟩:=h1
  have:l = []:=AO7
  subst this
  exact⟨none,0,hret,aG _,aq _,hb.below,.inl rfl⟩
 | some b =>
  obtain⟨g1,g2,g3,g4,cap,cs,rfl,g5,g6,g7,g8,g9⟩:=h1
  rw[aa] at g5
  refine⟨_,cap,by rw[hret]; simp[Xd],g5,g6,hb.below,.inr ⟨b,rfl,g1,g2,bP g7 fun k c hc=>?_⟩⟩
  obtain⟨y,hy1,hy2⟩:=g9 k c hc
  have hm:=aT hc
  obtain⟨r,hr,hcr⟩:=aa0.1 hm
  obtain⟨v,_,rfl⟩:=jB.1 hr
  have hcr:c∈ [Cl.v (.int .i64 v.ty),Cl.v (.int .i64 v.n),Cl.v (.string v.s)]:=hcr
  simp only[TM,List.not_mem_nil,or_false] at hcr
  rcases hcr with rfl | rfl | rfl<;>simp only[RdO] at hy2<;>exact⟨_,hy1,by rw[hy2.1]⟩
theorem ry:∀ args w,(callFunc 369 args).run prog w = .ok (.enter 369 args) w:=call369
theorem iq (a:Option Addr) (cap:Nat) (w:World):Calls prog 370 #[.slice a 0 cap] w fun e w'=>e = .returned (.slice a 0 cap)/\w'=w:=by go_enter func370,ntmps370;go_wp2;go_ret;exact⟨rfl,rfl⟩
def z_ (l:List DVal) (b:Nat) (w w':World):Prop:=∃ d n os,Go.Sort.PermIn 0 l.length l.toArray d/\(∀ i j,i<j->j<d.size->Ff d[j]! d[i]! = false)/\w'=sortWorldK ER 3 w b 0 n d os
def xk (l:List DVal) (b:Nat) (w w':World):Prop:=∃ q F,w'=Go.Sort.putRow id (Go.Sort.ahead w q) b 0 F/\F.size=l.length*3/\∀ j,j<(DW l).length->∀ c,c<3->F[j*3+c]! = (ER (DW l)[j]!)[c]!
theorem r_ {l:List DVal} {b cap:Nat} {w1 w2:World} (hH:Go.Sort.HoldsK ER 3 w1 b 0 l.toArray) (hb:b<w1.heap.size) (hl:l.length<=1048576) (hc:l.length<=cap) (h:z_ l b w1 w2) :
  Calls prog 370 #[.slice (some ⟨b,0,none⟩) l.length cap] w2 fun e w3=>e = .returned (.slice (some ⟨b,0,none⟩) (DW l).length cap)/\xk l b w2 w3:=by
 obtain⟨d,n,os,hp,hs,rfl⟩:=h
 have hd:d.size=l.length:=by simpa using hp.1
 have hH2:=Go.Proofs.holdsK_sortWorldK_c ER 3 w1 b 0 l.toArray d n os hH hb (by simpa using hd)
 have hk:=qE b 0 cap d _ hH2 AOl AOl
 rw[AF0 hp hs,hd] at hk
 exact hk.mono fun e w3 ⟨h1,q,F,h2,h3,h4⟩=>⟨h1,q,F,h2,h3,h4⟩
theorem sD (b cap:Nat) (l:List DVal) (w:World) (hH:Go.Sort.HoldsK ER 3 w b 0 l.toArray) (hb:b<w.heap.size) (hl:l.length<=1048576) :
  Calls prog 368 #[.slice (some ⟨b,0,none⟩) l.length cap,.func (.func 369) #[] #[]] w fun e w'=>e = .returned (.tuple #[])/\z_ l b w w':=by
 have h:=AnyQ.slices_SortFunc AA4 3 isAgg112 sizeOf112 ER (fun _=>rfl) (fun x v hv=>by
  simp only[ER,TM,List.not_mem_nil,or_false] at hv;rcases hv with rfl | rfl | rfl<;>rfl) zN AK3 369 #[] b 0 cap l.toArray w ry (AF1 b 0 _ w) hH hb (by show l.length<_; omega)
 refine Calls.mono h ?_
 rintro e w' ⟨rfl,d,n,os,hp,hs,rfl⟩
 refine⟨rfl,d,n,os,hp,fun i j hij hj=>?_,rfl⟩
 have:=hs i j (aq _) hij (by rw[<- hp.1]; exact hj)
 rwa [WT] at this
theorem ABR {w:World} {b:Nat} {St:Nat->Nat->Prop} (l:List DVal) (F:Array Value) (hF:l.length*3<=F.size) (hSt:∀ o,o<l.length*3->St b o) (hc:∀ n,n<F.size->w.cell? ⟨b,n,none⟩=some F[n]!) (hv:∀ j,j<l.length->∀ c,c<3->F[j*3+c]! = (ER l[j]!)[c]!) (hw:∀ v∈l,Xa v.c):RdE w St (l.map DVal.c) b 0:=by
 refine ADP 3 (fun x hx=>by obtain⟨v,_,rfl⟩:=jB.1 hx; rfl) fun i x hx=>?_;have hi:i<l.length:=by have:=(az.1 hx).1;simpa using this
 have hx':x=l[i].c:=by rw[nX,am hi] at hx;exact(uG hx).symm
 subst hx';refine ACj fun j c hj=>?_;have hj3:j<3:=(az.1 hj).1;refine⟨hSt _ AOl,(ER l[i])[j]!, ?_, ?_⟩
 .rw[hc _ AOl,nY,hv i hi j hj3,getElem!_pos l i hi]
 .have hwl:Xa [Cl.v (.int .i64 l[i].ty),Cl.v (.int .i64 l[i].n),Cl.v (.string l[i].s)]:=hw _ (an hi);simp only[Xa,uO,yH] at hwl;rcases(show j=0\/j=1\/j=2 from AOl) with rfl | rfl | rfl<;>cases hj<;>simp only[RdD]<;>refine⟨rfl, ?_⟩
  .exact hwl.1
  .exact hwl.2.1
  .exact hwl.2.2
theorem sF {w w':World} {St St':Nat->Nat->Prop} {x:AV} {u:Value} (hb:Below w.heap.size w w') (h1:∀ b o,St b o->St' b o) (h2:∀ b o,St' b o->b<w.heap.size->St b o) (h3:∀ b o,St' b o->b<w'.heap.size) (hr:RdA w' St' x u):Back w St [.val x] (.returned u) w' [u] [none] St' where
 ret:=rfl
 below:=hb
 st:=h1
 stOld:=h2
 stIn:=h3
 res:=⟨[fun _ _=>False],⟨u,[],none,[],_,[],rfl,rfl,rfl,⟨hr,rfl⟩,rfl,rfl,rfl⟩,{
  nodup:=fun i j b hi=>by
   cases i with
   | zero=>simp at hi
   | succ i=>simp at hi
  fresh:=fun i Φ k x hi hx=>by
   cases i with
   | zero=>simp at hi; subst hi; exact hx.elim
   | succ i=>simp at hi
  dis:=fun i i' Φ Φ' k k' x hi _ hx=>by
   cases i with
   | zero=>simp at hi; subst hi; exact hx.elim
   | succ i=>simp at hi }⟩
theorem below_putRow (w:World) {b B:Nat} (q:Nat) (F:Array Value) (hB:B<=b):Below B w (Go.Sort.putRow id (Go.Sort.ahead w q) b 0 F):=
 ⟨rfl,rfl,rfl,by rw[Go.Sort.size_putRow]; exact aG _,fun k hk=>by
  show (w.heap.modify b _)[k]?=_;rw[Array.getElem?_modify,aR AOl]⟩
theorem below_grow (w:World) {B:Nat} (os:Array Obj) (hB:B<=w.heap.size):Below B w (Go.Sort.grow w os):=
 ⟨rfl,rfl,rfl,by rw[Go.Sort.size_grow]; omega,fun k hk=>by
  show (w.heap++os)[k]?=_;rw[aay AOl]⟩
theorem xm (l:List DVal) (hl:l.length<=1048576):Ctr prog 354 [.c (.sl (l.map DVal.c))] [.val (.c (.sl ((DW l).map DVal.c)))]:=by
 refine⟨call354,fun w St vs hSt hrd=>?_⟩;obtain⟨u,vs',rfl,hu,hvs⟩:=hrd;obtain rfl:vs' = []:=hvs;have hcl:=ik l hl w St u hSt hu;have hwf:∀ v∈l,Xa v.c:=fun v hv=>by have h:=hu.wf;simp only[WfA,uO] at h;exact ZY h.2 _ (jB.2 ⟨v,hv,rfl⟩)
 clear hu;by_cases hl0:l = []
 .subst hl0;clear hwf;go_enter func354,ntmps354;go_wp2_with (first | (go_at_call 195; refine hcl.mono ?_; rintro e w1 ⟨a,cap,rfl,q1,q2,q3,q4⟩) | (go_at_call 368; refine(AnyF.slices_SortFunc_none AA4 a cap _ _).mono ?_; rintro e w2 ⟨rfl,rfl⟩) | (go_at_call 370; refine(iq a cap _).mono ?_; rintro e w3 ⟨rfl,rfl⟩));go_ret;refine⟨[.slice a 0 cap],[none],St,sF q3 (fun _ _ h=>h) (fun _ _ h _=>h) (fun b o h=>bm (hSt b o h) q3.size) ?_⟩;show RdD _ _ (.sl []) _;simp only[RdD];exact⟨a,cap,rfl,aq _,q2,⟨0,fun x hx=>by cases hx⟩,AOm⟩
 .have HF:Go.RowKit.Hid (∀ v∈l,Xa v.c):=hwf;clear hwf
  have hcl2:Calls prog 195 #[u] w fun e w1=>∃ b cap,e = .returned (.slice (some ⟨b,0,none⟩) l.length cap)/\Go.RowKit.Hid (l.length<=cap/\cap<=maxLen/\Below w.heap.size w w1/\w.heap.size<=b/\b<w1.heap.size/\Go.Sort.HoldsK ER 3 w1 b 0 l.toArray):=hcl.mono fun e w1 ⟨a,cap,q0,q1,q2,q3,q4⟩=>by
   rcases q4 with q4 | ⟨b,rfl,q5,q6,q7⟩
   .exact absurd q4 hl0
   .exact⟨b,cap,q0,q1,q2,q3,q5,q6,q7⟩
  clear hcl;go_enter func354,ntmps354;go_wp2_with (first | (go_at_call 195; refine hcl2.mono ?_; rintro e w1 ⟨b,cap,rfl,HQ⟩) | (go_at_call 368; refine(sD b cap l w1 HQ.out.2.2.2.2.2 HQ.out.2.2.2.2.1 hl).mono ?_; rintro e w2 ⟨rfl,HS⟩) | (go_at_call 370; refine(r_ HQ.out.2.2.2.2.2 HQ.out.2.2.2.2.1 hl HQ.out.1 HS).mono ?_; rintro e w3 ⟨rfl,HC⟩));go_ret;obtain⟨q1,q2,q3,q4,q5,q6⟩:=HQ.out;obtain⟨d,n,os,hp,hs,rfl⟩:=HS;obtain⟨q,F,rfl,hF,hv⟩:=HC;have hd:d.size=l.length:=by simpa using hp.1
  have hH2:=Go.Proofs.holdsK_sortWorldK_c ER 3 w1 b 0 l.toArray d n os q6 q5 (by simpa using hd);have hsz2:=Go.Proofs.size_sortWorldK_c ER 3 w1 b 0 n d os;have hdl:=Pn l;have hB1:Below w.heap.size w1 (sortWorldK ER 3 w1 b 0 n d os):=by unfold sortWorldK;have h1:=below_putRow w1 (B:=w.heap.size) n (Go.Sort.flatK ER 3 d) q4;exact h1.trans (below_grow _ os (by show w.heap.size<=(Go.Sort.putRow id (Go.Sort.ahead w1 n) b 0 (Go.Sort.flatK ER 3 d)).heap.size; rw[Go.Sort.size_putRow]; exact q3.size))
  have hB2:=below_putRow (sortWorldK ER 3 w1 b 0 n d os) (B:=w.heap.size) q F q4;have hB:=(q3.trans hB1).trans hB2;have hsz3:(Go.Sort.putRow id (Go.Sort.ahead (sortWorldK ER 3 w1 b 0 n d os) q) b 0 F).heap.size=(sortWorldK ER 3 w1 b 0 n d os).heap.size:=by rw[Go.Sort.size_putRow]; rfl
  refine⟨[.slice (some ⟨b,0,none⟩) (DW l).length cap],[none],fun b' o=>St b' o\/(b'=b/\o<(DW l).length*3),sF hB (fun _ _ h=>.inl h) (fun b' o h hlt=>?_) (fun b' o h=>?_) ?_⟩
  .rcases h with h | ⟨rfl,_⟩
   .exact h
   .omega
  .rcases h with h | ⟨rfl,_⟩
   .exact bm (hSt b' o h) hB.size
   .rw[hsz3]; omega
  .show RdD _ _ (.sl ((DW l).map DVal.c)) _;simp only[RdD,aa];refine⟨_,cap,rfl,AOl,q2,⟨3,fun x hx=>by obtain⟨v,_,rfl⟩:=jB.1 hx; rfl⟩,.inr ⟨b,0,rfl, ?_⟩⟩;refine ABR (DW l) F AOl (fun o ho=>.inr ⟨rfl,ho⟩) (fun m hm=>ru hH2 (by simp[hF,hd]) (by simpa [hd,hF] using hm)) hv fun v hv=>HF.out v ((MH l v).1 hv)
theorem RH (l:List DVal):∃ p,places (DW l) l=some p/\p.length=l.length:=by
 have key:∀ (d l:List DVal),(∀ x∈l,x∈d)->∃ p,places d l=some p/\p.length=l.length:=by
  intro d l;induction l with
  | nil=>intro _; exact⟨[],rfl,rfl⟩
  | cons v l ih =>
   intro h
   obtain⟨p,h1,h2⟩:=ih fun x hx=>h x (abg v hx)
   have key2:∀ (d:List DVal) (k:Nat),v∈d->∃ i,placeOf v d k=some i:=by
    intro d;induction d with
    | nil=>intro k hk; cases hk
    | cons x r ih =>
     intro k hk
     rw[NR]
     split
     .exact⟨_,rfl⟩
     .rename_i hne
      rcases TM.1 hk with rfl | hk
      .exact absurd ((Lp v v).2 rfl) hne
      .exact ih (k+1) hk
   obtain⟨i,hi⟩:=key2 d 0 (h v AOm)
   exact⟨i::p,by rw[places_cons,hi,h1],by simp[h2]⟩
 exact key _ _ fun x hx=>(MH l x).2 hx
theorem Uf {l:List DVal} (h:typeOf l≠0) {p:List Int} (hp:places (DW l) l=some p):Ed l=Ey (DW l).length++(KN (DW l)++Es p (BA ((DW l).length-1))):=by unfold Ed;rw[aR h,hp]; rfl
theorem UE (l:List DVal) (hl:l.length<=1048576):Ctr prog 317 [.c (.sl (l.map DVal.c))] [.own 5 1 ((Ed l).map byteC) true]:=by
 refine CM call317 func317 ntmps317 results317 fun hw=>?_;simp only[go_sem];refine AAO _ (FB l hl) fun _=>?_;rcases h1:typeOf l==0 with _ | _;rotate_left
 .have h1':typeOf l=0:=by simpa using h1
  have e:Ed l = []:=aV h1';exact AJ8
 have h1':typeOf l≠0:=AO8;obtain⟨q1,q2,q3⟩:=Dt h1';have hdl:=Pn l;obtain⟨p,hp,hpl⟩:=RH l;rw[Uf h1' hp];simp only[go_sem,h1];refine AAO _ (xh l hl) fun _=>?_;simp only[go_sem];have hps:=p_ (DW l) l hl AOl;rw[hp] at hps;simp only[Zl] at hps;refine AAO _ hps fun _=>?_;have hd0:0<(DW l).length:=by exact AOA
 have hq:=Di ((DW l).length:Int);have hdv:∀ v∈DW l,BX v=true:=fun v hv=>(q3 v ((MH l v).1 hv)).1;simp only[go_sem];refine AAO _ (Gz [] ((DW l).length:Int) AOm) fun _=>?_;rw[Ip (by rw[Du]; omega),aA];simp only[go_sem];have hvl:=fun i=>LZ (l:=(DW l).take i) fun v hv=>hdv v (uF hv);refine AAv [20,23] (A:=Nat) (fun x=>[(7,.c (.v (.int .i64 (x)))),(6,.c (.ref 1))]) (fun x=>[⟨3,1,p.map intC,true,true⟩,⟨5,1,(Ey (DW l).length++KN ((DW l).take x)).map byteC,true,true⟩]) (fun x=>x<=(DW l).length) (fun x=>(DW l).length-x) 0 (AAS [(0,false),(2,false)] ⟨rfl,rfl,CX _,EI _,trivial⟩ (by simp only[abi,KN,ap,aaH,bc]; rfl)) (aq _) ?_;rintro i hi;refine AOd (fun h=>?_) fun h=>?_
 .have hi':i<(DW l).length:=by simp at h; omega
  have hvi:=hvl i;rw[aU] at hvi;simp only[go_sem,AA _ hi'];refine AAO _ (Qc _ _ APK) fun _=>?_;rw[Ti (hdv _ (an hi')),ba,<- Qd hi'];simp only[go_sem,wrap_i64 (n:=(i:Int)+1) AOl AOl];exact⟨i+1,AAS [(0,false),(2,false)] ⟨rfl,rfl,CX _,EI _,trivial⟩ rfl,hi',AOl⟩
 .have hpb:=JK p (BA ((DW l).length-1));have hw1:IntKind.i64.wrap (((DW l).length:Int)-1)=((DW l).length:Int)-1:=wrap_i64 AOl AOl;have hvi:=hvl (DW l).length;rw[aU] at hvi;have hl3:(Ey (DW l).length).length+(KN (DW l)).length+(Es p (BA ((DW l).length-1))).length<=2147483648:=by rw[aX] at hvi; omega
  have hi':i=(DW l).length:=AO1;subst hi';simp only[go_sem,aX,hw1];refine AAO _ (Jd _) fun _=>?_;simp only[go_sem,hw1];refine AAO _ (fQ p (BA ((DW l).length-1)) AOl) fun _=>?_;simp only[go_sem,hl3,Fh,ba,Ou];try exact AIG
theorem O3 (l:List DVal) (hl:l.length<=1048576):Ctr prog 329 [.c (.sl (l.map DVal.c))] [.own 5 1 ((Ed l).map byteC) true]:=by
 refine CM call329 func329 ntmps329 results329 fun hw=>?_;simp only[go_sem];refine AAO _ (DN l hl) fun _=>?_;rcases h1:typeOf l==0 with _ | _;rotate_left
 .have h1':typeOf l=0:=by simpa using h1
  have e:Ed l = []:=aV h1';exact AJ8
 have h1':typeOf l≠0:=AO8;obtain⟨q1,q2,q3⟩:=Dt h1';have hdl:=Pn l;obtain⟨p,hp,hpl⟩:=RH l;rw[Uf h1' hp];simp only[go_sem,h1];refine AAO _ (xm l hl) fun _=>?_;have hd0:0<(DW l).length:=by exact AOA
 have hq:=Di ((DW l).length:Int);have hdv:∀ v∈DW l,BX v=true:=fun v hv=>(q3 v ((MH l v).1 hv)).1;have hps:=pz (DW l) l hl AOl;rw[hp] at hps;simp only[Zl] at hps;simp only[go_sem];refine AAO _ (Gy [] ((DW l).length:Int) AOm) fun _=>?_;rw[Ip (by rw[Du]; omega),aA];simp only[go_sem];have hvl:=fun i=>LZ (l:=(DW l).take i) fun v hv=>hdv v (uF hv);refine AAv [9,16,19] (A:=Nat) (fun x=>[(22,.c (.v (.int .i64 (x)))),(3,.c (.ref 0))]) (fun x=>[⟨5,1,(Ey (DW l).length++KN ((DW l).take x)).map byteC,true,true⟩]) (fun x=>x<=(DW l).length) (fun x=>(DW l).length-x) 0 (AAS [(1,false)] ⟨rfl,rfl,EI _,trivial⟩ (by simp only[abi,KN,ap,aaH,bc]; rfl)) (aq _) ?_;rintro i hi;refine AOd (fun h=>?_) fun h=>?_
 .have hi':i<(DW l).length:=by simp at h; omega
  have hvi:=hvl i;rw[aU] at hvi;simp only[go_sem,AA _ hi'];refine AAO _ (Qb _ _ APK) fun _=>?_;rw[Ti (hdv _ (an hi')),ba,<- Qd hi'];exact AMj
 .have hpb:=JK p (BA ((DW l).length-1));have hw1:IntKind.i64.wrap (((DW l).length:Int)-1)=((DW l).length:Int)-1:=wrap_i64 AOl AOl;have hvi:=hvl (DW l).length;rw[aU] at hvi;have hl3:(Ey (DW l).length).length+(KN (DW l)).length+(Es p (BA ((DW l).length-1))).length<=2147483648:=by rw[aX] at hvi; omega
  have hi':i=(DW l).length:=AO1;subst hi';simp only[go_sem,aX];refine AAO _ hps fun _=>?_;simp only[go_sem,hw1];refine AAO _ (Lr _) fun _=>?_;simp only[go_sem,hw1];refine AAO _ (fP p (BA ((DW l).length-1)) AOl) fun _=>?_;simp only[go_sem,hl3,Fh,ba,Ou];try exact AIG
theorem YR (kind:Int) (l:List DVal) (hl:l.length<=1048576):Ctr prog 286 [.c (.v (.int .i64 (kind))),.c (.sl (l.map DVal.c))] [.own 5 1 ((Eb kind l).map byteC) true]:=by
 refine CM call286 func286 ntmps286 results286 fun hw=>?_;unfold Eb;rcases h0:kind==0 with _ | _;rotate_left
 .rw[aV AP0];simp only[go_sem,h0];refine AAO _ (SI l hl) fun _=>?_;simp only[go_sem];try exact AIG
 rw[aR AP0];rcases h1:kind==1 with _ | _;rotate_left
 .rw[aV AO8];simp only[go_sem,h0,h1];refine AAO _ (UD l hl) fun _=>?_;simp only[go_sem];try exact AIG
 rw[aR AO8];rcases h2:kind==2 with _ | _;rotate_left
 .rw[aV APc];simp only[go_sem,h0,h1,h2];refine AAO _ (UE l hl) fun _=>?_;simp only[go_sem];try exact AIG
 rw[aR APc];rcases h3:kind==3 with _ | _;rotate_left
 .rw[aV AO7];simp only[go_sem,h0,h1,h2,h3];refine AAO _ (SK l hl) fun _=>?_;simp only[go_sem];try exact AIG
 rw[aR AO7];simp only[go_sem,h0,h1,h2,h3];try exact AKg
theorem MB (kind:Int) (l:List DVal) (hl:l.length<=1048576):Ctr prog 302 [.c (.v (.int .i64 (kind))),.c (.sl (l.map DVal.c))] [.own 5 1 ((Eb kind l).map byteC) true]:=by
 refine CM call302 func302 ntmps302 results302 fun hw=>?_;unfold Eb;rcases h0:kind==0 with _ | _;rotate_left
 .rw[aV AP0];simp only[go_sem,h0];refine AAO _ (OD l hl) fun _=>?_;simp only[go_sem];try exact AIG
 rw[aR AP0];rcases h1:kind==1 with _ | _;rotate_left
 .rw[aV AO8];simp only[go_sem,h0,h1];refine AAO _ (UC l hl) fun _=>?_;simp only[go_sem];try exact AIG
 rw[aR AO8];rcases h2:kind==2 with _ | _;rotate_left
 .rw[aV APc];simp only[go_sem,h0,h1,h2];refine AAO _ (O3 l hl) fun _=>?_;simp only[go_sem];try exact AIG
 rw[aR APc];rcases h3:kind==3 with _ | _;rotate_left
 .rw[aV AO7];simp only[go_sem,h0,h1,h2,h3];refine AAO _ (OE l hl) fun _=>?_;simp only[go_sem];try exact AIG
 rw[aR AO7];simp only[go_sem,h0,h1,h2,h3];try exact AKg
noncomputable def MP (l:List DVal):Nat->Int
 | 0=>0
 | x+1=>if(x=2->typeOf l=1)/\(Eb ((x:Int)+1) l).length<(Eb (MP l x) l).length then(x:Int)+1 else MP l x
theorem xq (l:List DVal):bk3 l=MP l 3:=by
 have h1:bk1 l=MP l 1:=by simp[MP,bk1]
 have h2:bk2 l=MP l 2:=by rw[bk2,h1];show _=(if((1:Nat)=2->typeOf l=1)/\(Eb (((1:Nat):Int)+1) l).length<(Eb (MP l 1) l).length then((1:Nat):Int)+1 else MP l 1);simp
 rw[bk3,h2];show _=(if((2:Nat)=2->typeOf l=1)/\(Eb (((2:Nat):Int)+1) l).length<(Eb (MP l 2) l).length then((2:Nat):Int)+1 else MP l 2);simp
theorem VU {l:List DVal} {x:Nat} (h1:x=2->typeOf l=1) (h2:(Eb ((x:Int)+1) l).length<(Eb (MP l x) l).length):MP l (x+1)=(x:Int)+1:=aV ⟨h1,h2⟩
theorem nH {l:List DVal} {x:Nat} (h1:x=2) (h2:typeOf l≠1):MP l (x+1)=MP l x:=aR fun q=>h2 (q.1 h1)
theorem VV {l:List DVal} {x:Nat} (h2:¬ (Eb ((x:Int)+1) l).length<(Eb (MP l x) l).length):MP l (x+1)=MP l x:=aR fun q=>h2 q.2
theorem bQ (l:List DVal) (hl:l.length<=1048576):Ctr prog 285 [.c (.sl (l.map DVal.c))] [.val (.c (.v (.int .i64 (BG l))))]:=by
 refine CM call285 func285 ntmps285 results285 fun hw=>?_;simp only[go_sem];refine AAO _ (FB l hl) fun _=>?_;rcases h1:typeOf l==0 with _ | _;rotate_left
 .exact ANe
 have e:BG l=MP l 3:=by rw[<- xq]; exact aR AO8
 have e0:Ep l=Eb 0 l:=rfl;rw[e];simp only[go_sem,h1];refine AAO _ (SI l hl) fun _=>?_;simp only[go_sem];refine AAv [13] (A:=Nat) (fun x=>[(6,.c (.v (.int .i64 ((x:Int)+1)))),(5,.c (.v (.int .i64 ((Eb (MP l x) l).length:Int)))),(4,.c (.v (.int .i64 (MP l x))))]) (fun _=>[]) (fun x=>x<=3) (fun x=>3-x) 0 (AAS [] ⟨rfl,rfl,trivial⟩ rfl) (aq _) ?_;rintro x hx;refine AOd (fun h=>?_) fun h=>?_
 .have hx':x<3:=by simp at h; omega
  simp only[go_sem];refine AAO _ (YR _ l hl) fun _=>?_;rcases h2:((x:Int)+1 != 3) with _ | _<;>rcases h3:(typeOf l==1) with _ | _<;>rcases h4:decide (((Eb ((x:Int)+1) l).length:Int)<((Eb (MP l x) l).length:Int)) with _ | _<;>simp only[go_sem,h2,h3,h4,wrap_i64 (n:=(x:Int)+1+1) AOl AOl]
  .have hb:MP l (x+1)=MP l x:=nH AO3 AO7;exact AIC
  .have hb:MP l (x+1)=MP l x:=nH AO3 AO7;exact AIC
  .have hb:MP l (x+1)=MP l x:=VV APR;exact AIC
  .have hb:MP l (x+1)=(x:Int)+1:=VU (fun _=>AO7) APR;exact AIC
  .have hb:MP l (x+1)=MP l x:=VV APR;exact AIC
  .have hb:MP l (x+1)=(x:Int)+1:=VU (fun q=>AO3) APR;exact AIC
  .have hb:MP l (x+1)=MP l x:=VV APR;exact AIC
  .have hb:MP l (x+1)=(x:Int)+1:=VU (fun q=>AO3) APR;exact AIC
 .have hx':x=3:=by simp at h; omega
  subst hx';exact AJC
theorem bT (l:List DVal) (hl:l.length<=1048576):Ctr prog 301 [.c (.sl (l.map DVal.c))] [.val (.c (.v (.int .i64 (BG l))))]:=by
 refine CM call301 func301 ntmps301 results301 fun hw=>?_;simp only[go_sem];refine AAO _ (DN l hl) fun _=>?_;rcases h1:typeOf l==0 with _ | _;rotate_left
 .exact ANe
 have e:BG l=MP l 3:=by rw[<- xq]; exact aR AO8
 rw[e];simp only[go_sem,h1];refine AAv [] (A:=Nat) (fun x=>[(5,.c (.v (.int .i64 ((x:Int)+1)))),(4,.c (.v (.int .i64 (MP l x))))]) (fun _=>[]) (fun x=>x<=3) (fun x=>3-x) 0 (AAS [] ⟨rfl,rfl,trivial⟩ rfl) (aq _) ?_;rintro x hx;refine AOd (fun h=>?_) fun h=>?_
 .have hx':x<3:=by simp at h; omega
  rcases h2:((x:Int)+1==3) with _ | _
  .simp only[go_sem,h2];refine AAO _ (MB _ l hl) fun _=>?_;simp only[go_sem];refine AAO _ (MB _ l hl) fun _=>?_;rcases h4:decide (((Eb ((x:Int)+1) l).length:Int)<((Eb (MP l x) l).length:Int)) with _ | _<;>simp only[go_sem,h4,wrap_i64 (n:=(x:Int)+1+1) AOl AOl]
   .have hb:MP l (x+1)=MP l x:=VV APR;exact AIC
   .have hb:MP l (x+1)=(x:Int)+1:=VU (fun q=>AO3) APR;exact AIC
  .rcases h3:(typeOf l != 1) with _ | _
   .simp only[go_sem,h2,h3];refine AAO _ (MB _ l hl) fun _=>?_;simp only[go_sem];refine AAO _ (MB _ l hl) fun _=>?_;rcases h4:decide (((Eb ((x:Int)+1) l).length:Int)<((Eb (MP l x) l).length:Int)) with _ | _<;>simp only[go_sem,h4,wrap_i64 (n:=(x:Int)+1+1) AOl AOl]
    .have hb:MP l (x+1)=MP l x:=VV APR;exact AIC
    .have hb:MP l (x+1)=(x:Int)+1:=VU (fun _=>AO7) APR;exact AIC
   .simp only[go_sem,h2,h3,wrap_i64 (n:=(x:Int)+1+1) AOl AOl];have hb:MP l (x+1)=MP l x:=nH AO3 AO7;exact AIC
 .have hx':x=3:=by simp at h; omega
  subst hx';exact AJC
theorem AC2 (l:List DVal):∀ x,0<=MP l x/\MP l x<=x
 | 0=>by simp[MP]
 | x+1=>by have:=AC2 l x;rw[MP];split<;>omega
theorem YS {l:List DVal} (h:typeOf l≠0):0<=BG l/\BG l<=3:=by
 have e:BG l=MP l 3:=by rw[<- xq]; exact aR h
 have:=AC2 l 3;rw[e]; omega
theorem nI (l:List DVal):(Ep l).length<=448:=by
 unfold Ep;split
 .simp
 .rename_i h;obtain⟨q1,q2,q3⟩:=Dt h;have:=LZ fun v hv=>(q3 v hv).1;omega
theorem sG (l:List DVal):(Fa l).length<=1000:=by
 by_cases h:typeOf l=0
 .rw[show Fa l = [] from aV h]; simp
 .obtain⟨q1,q2,q3⟩:=Dt h;rw[Ud l h];have h1:=Di ((runs l).length:Int);have h2:=Pq l;have h3:=Nl XL 12 (runs l) fun x hx=>by have hx':=MI hx;exact AMs
  simp only[aP]; omega
theorem sH (l:List DVal):(Ed l).length<=1000:=by
 by_cases h:typeOf l=0
 .rw[show Ed l = [] from aV h]; simp
 .obtain⟨q1,q2,q3⟩:=Dt h;obtain⟨p,hp,hpl⟩:=RH l;rw[Uf h hp];have h1:=Di ((DW l).length:Int);have h2:=Pn l;have h3:=LZ (l:=DW l) fun v hv=>(q3 v ((MH l v).1 hv)).1;have h4:=JK p (BA ((DW l).length-1));simp only[aP]; omega
theorem nJ (l:List DVal):(Dq l).length<=1000:=by
 by_cases h:typeOf l=1
 .obtain⟨q1,q2,q3⟩:=Dt (l:=l) AOl;have e:Dq l=Ey (DI l)++(DV (offsets l)::Es (offsets l) (DV (offsets l))):=aR AOl;have hol:(offsets l).length=l.length:=AQR;have h1:=Di (DI l);have h4:=JK (offsets l) (DV (offsets l));rw[e];simp only[aP,ag]; omega
 .rw[show Dq l = [] from aV h]; simp
theorem XM (k:Int) (l:List DVal):(Eb k l).length<=1000:=by
 have h0:=nI l;have h1:=sG l;have h2:=sH l;have h3:=nJ l;unfold Eb;repeat' split
 all_goals first | omega | simp
theorem Ug (l:List DVal):(A8 l).length<=1001:=by
 have:=XM (BG l) l;unfold A8;split
 .simp
 .simp only[ag]; omega
theorem KC (l:List DVal) (hl:l.length<=1048576):Ctr prog 241 [.c (.sl (l.map DVal.c))] [.own 5 1 ((A8 l).map byteC) true]:=by
 refine CM call241 func241 ntmps241 results241 fun hw=>?_;simp only[go_sem];refine AAO _ (bQ l hl) fun _=>?_;rcases h1:decide (BG l<0) with _ | _;rotate_left
 .have e:A8 l = []:=aV AO8;exact AJ8
 have h1':¬ BG l<0:=AO8;have e:A8 l=BG l::Eb (BG l) l:=aR h1';have ht:typeOf l≠0:=fun q=>h1' (by rw[show BG l = -1 from aV q]; decide);have hk:=YS ht;have hw1:IntKind.u8.wrap (BG l)=BG l:=wrap_u8 AOl AOl;rw[e];simp only[go_sem,h1,hw1];have hel:=XM (BG l) l;have hl2:1+(Eb (BG l) l).length<=2147483648:=AOl;have hl3:(Eb (BG l) l).length+1<=2147483648:=AOl;refine AAO _ (YR (BG l) l hl) fun _=>?_;exact ANj
theorem Ez (l:List DVal) (hl:l.length<=1048576):Ctr prog 266 [.c (.sl (l.map DVal.c))] [.own 5 1 ((A8 l).map byteC) true]:=by
 refine CM call266 func266 ntmps266 results266 fun hw=>?_;simp only[go_sem];refine AAO _ (bT l hl) fun _=>?_;rcases h1:decide (BG l<0) with _ | _;rotate_left
 .have e:A8 l = []:=aV AO8;exact AJ8
 have h1':¬ BG l<0:=AO8;have e:A8 l=BG l::Eb (BG l) l:=aR h1';have ht:typeOf l≠0:=fun q=>h1' (by rw[show BG l = -1 from aV q]; decide);have hk:=YS ht;have hw1:IntKind.u8.wrap (BG l)=BG l:=wrap_u8 AOl AOl;rw[e];simp only[go_sem,h1,hw1];have hel:=XM (BG l) l;have hl2:1+(Eb (BG l) l).length<=2147483648:=AOl;have hl3:(Eb (BG l) l).length+1<=2147483648:=AOl;refine AAO _ (MB (BG l) l hl) fun _=>?_;exact ANj
theorem iw (b:List Int) (ty k:Int) (hb:Ai b) (hl:b.length<=1048576):Ctr prog 322 [.c (.sl (b.map byteC)),.c (.v (.int .i64 (ty))),.c (.v (.int .i64 (k)))] (Dx (GK b ty k)):=by
 rw[<- eU hb];refine CM call322 func322 ntmps322 results322 fun hw=>?_;simp only[go_sem];have hg:=Gx b 0 hb hl;rcases h1:Bh b 0 with _ | ⟨n,q⟩<;>rw[h1] at hg<;>simp only[WJ] at hg
 .have e:KO b ty k=none:=by simp only[KO,h1]
  rw[e];refine AAO _ hg fun _=>?_;exact ALI
 refine AAO _ hg fun _=>?_;simp only[go_sem];refine AAO _ (AL _ _ _) fun _=>?_;rcases h2:Ae n 1 64 with _ | _
 .have e:KO b ty k=none:=by simp only[KO,h1]; exact aR AOw
  rw[e];exact ANR
 have h2':1<=n/\n<=64:=AOw
 have hall:KO b ty k=match Cc b ty n.toNat q with
   | none=>none
   | some (d,q)=>match unpack (b.drop q) (BA (n-1)) k with
    | none=>none
    | some o=>again b k ((picked d o).getD []) (Ed ((picked d o).getD [])):=by simp only[KO,h1]; exact aV h2'
 rw[hall];have hgv:=WQ b q ty n hb hl h2'.2;simp only[go_sem,h2];rcases h3:Cc b ty n.toNat q with _ | ⟨d,q2⟩<;>rw[h3] at hgv<;>simp only[AEM] at hgv
 .refine AAO _ hgv fun _=>?_;exact ALI
 refine AAO _ hgv fun _=>?_;have hq0:=(IW hb h1).2.2.1;obtain⟨a1,a2,a3,_⟩:=Jq hb _ _ _ _ hq0 h3;have q1:=Io (k:=.i64) (n:=(q2:Int)) (m:=q2) AOl;have hw1:IntKind.i64.wrap (n-1)=n-1:=wrap_i64 AOl AOl;have htk:(b.drop q2).take (b.length-q2)=b.drop q2:=aau AOm;have hbd:Ai (b.drop q2):=fun c hc=>hb c (yE hc);have hu:=WL (b.drop q2) (BA (n-1)) k hbd AOn;simp only[go_sem,q1,a2,BU,aG,<- bk,<- bf,htk,hw1];refine AAR ?_;simp only[go_sem,q1,a2,BU,aG,<- bk,<- bf,htk,hw1];refine ABg _ (Lr _) ?_;simp only[go_sem,q1,a2,BU,aG,<- bk,<- bf,htk,hw1];rcases h4:unpack (b.drop q2) (BA (n-1)) k with _ | o<;>rw[h4] at hu<;>simp only[Zl] at hu
 .refine ABg _ hu ?_;simp only[go_sem,q1,a2,BU,aG,<- bk,<- bf,htk,hw1];exact ALI
 refine ABg _ hu ?_;have hol:=Tn h4;simp only[go_sem,q1,a2,BU,aG,<- bk,<- bf,htk,hw1];have hr:=qA d o AOl AOl;rcases h5:picked d o with _ | l<;>rw[h5] at hr<;>simp only[Dx] at hr
 .refine AAO _ hr fun _=>?_;simp only[go_sem,ww];refine AAO _ (O3 [] AOm) fun _=>?_;simp only[go_sem];refine AAO _ (Cj b k [] (Ed [])) fun _=>?_;rcases h6:again b k [] (Ed []) with _ | l'<;>simp only[go_sem,Dx]
 .have hll:=OA h5;refine AAO _ hr fun _=>?_;simp only[go_sem];refine AAO _ (O3 l AOl) fun _=>?_;simp only[go_sem];refine AAO _ (Cj b k l (Ed l)) fun _=>?_;rcases h6:again b k l (Ed l) with _ | l'<;>simp only[go_sem,Dx]
theorem iy (b:List Int) (ty k:Int) (hb:Ai b) (hl:b.length<=1048576):Ctr prog 309 [.c (.sl (b.map byteC)),.c (.v (.int .i64 (ty))),.c (.v (.int .i64 (k)))] (Dx (GK b ty k)):=by
 refine CM call309 func309 ntmps309 results309 fun hw=>?_;simp only[go_sem];have hg:=Gw b 0 hb hl;rcases h1:Bh b 0 with _ | ⟨n,q⟩<;>rw[h1] at hg<;>simp only[WJ] at hg
 .have e:GK b ty k=none:=by simp only[GK,h1]
  rw[e];refine AAO _ hg fun _=>?_;exact ALI
 refine AAO _ hg fun _=>?_;simp only[go_sem];refine AAO _ (AP _ _ _) fun _=>?_;rcases h2:Ae k 1 64 with _ | _
 .have e:GK b ty k=none:=by simp only[GK,h1]; exact aR AOw
  rw[e];exact ANR
 simp only[go_sem,h2];refine AAO _ (AP _ _ _) fun _=>?_;rcases h3:Ae n 1 k with _ | _
 .have e:GK b ty k=none:=by simp only[GK,h1]; exact aR AQY
  rw[e];simp only[go_sem,h3,Dx]
 have hk:1<=k/\k<=64:=AOw;have hn:1<=n/\n<=k:=AQY
 have hall:GK b ty k=match Cc b ty n.toNat q with
   | none=>none
   | some (d,q)=>match unpack (b.drop q) (BA (n-1)) k with
    | none=>none
    | some o=>match picked d o with
     | none=>none
     | some l=>if Ed l=b then some l else none:=by simp only[GK,h1]; exact aV ⟨hk,hn⟩
 rw[hall];simp only[go_sem,h3];obtain⟨N,rfl⟩:=aF (show 0<=n from AOl);simp only[aZ];have hq0:=(IW hb h1).2.2.1;refine AAv [42] (A:=Nat×Nat×List DVal) (fun x=>[(13,.c (.v (.int .i64 (x.1)))),(12,.c (.ref 1)),(10,.c (.v (.int .i64 ((x.2.1:Int)))))]) (fun x=>[⟨112,3,[],true,true⟩,⟨112,3,x.2.2.map DVal.c,true,true⟩]) (fun x=>x.1<=N/\x.2.2.length=x.1/\(Cc b ty (N-x.1) x.2.1).map (fun y=>(x.2.2++y.1,y.2))=Cc b ty N q) (fun x=>N-x.1) (0,q,[]) (AAS [(0,false),(1,false)] ⟨rfl,rfl,rfl,rfl,trivial⟩ rfl) ⟨aq _,rfl,AOm⟩ ?_;rintro⟨i,p,d⟩ ⟨hi,hll,hp⟩;dsimp only at hi hll hp;refine AOd (fun h=>?_) fun h=>?_
 .have hi':i<N:=by simp at h; omega
  rw[show N-i=(N-(i+1))+1 from AOl,Cc] at hp;have hg2:=NP b p ty hb hl;simp only[go_sem];rcases h4:F8 b p ty with _ | ⟨v,p2⟩<;>rw[h4] at hg2 hp<;>simp only[fU] at hg2
  .refine AAO _ hg2 fun _=>?_;simp only[W_] at hp;rw[<- hp];exact ALI
  .refine AAO _ hg2 fun _=>?_;have hl2:d.length+1<=2147483648:=AOl;simp only[go_sem,hl2,wrap_i64 (n:=(i:Int)+1) AOl AOl];exact⟨(i+1,p2,d ++ [v]),AAS [(0,false),(4,false)] ⟨rfl,rfl,rfl,NQ _ _,trivial⟩ (by rw[G5]; rfl),⟨hi',AOn,AP7⟩,AOp⟩
 .have hi':i=N:=by simp at h; omega
  subst hi';rw[jv,Cc] at hp;simp only[bi,bc] at hp;obtain⟨a1,a2,a3,_⟩:=Jq hb _ _ _ _ hq0 hp.symm;rw[<- hp];have q1:=Io (k:=.i64) (n:=(p:Int)) (m:=p) AOl;have hw1:IntKind.i64.wrap ((i:Int)-1)=(i:Int)-1:=wrap_i64 AOl AOl;have htk:(b.drop p).take (b.length-p)=b.drop p:=aau AOm;have hbd:Ai (b.drop p):=fun c hc=>hb c (yE hc);have hu:=WM (b.drop p) (BA ((i:Int)-1)) k hbd AOn;simp only[go_sem,q1,a2,BU,aG,<- bk,<- bf,htk,hw1];refine AAR ?_;simp only[go_sem,q1,a2,BU,aG,<- bk,<- bf,htk,hw1];refine ABg _ (Jd _) ?_;simp only[go_sem,q1,a2,BU,aG,<- bk,<- bf,htk,hw1];rcases h4:unpack (b.drop p) (BA ((i:Int)-1)) k with _ | o<;>rw[h4] at hu<;>simp only[Zl] at hu
  .refine ABg _ hu ?_;simp only[go_sem,q1,a2,BU,aG,<- bk,<- bf,htk,hw1];have hr:=WR d [] AOm AOl;rcases h5:picked d [] with _ | l<;>rw[h5] at hr<;>simp only[Dx] at hr
   .exact AKx
   .exact AKx
  refine ABg _ hu ?_;have hol:=Tn h4;simp only[go_sem,q1,a2,BU,aG,<- bk,<- bf,htk,hw1];have hr:=WR d o AOl AOl;rcases h5:picked d o with _ | l<;>rw[h5] at hr<;>simp only[Dx] at hr
  .exact AKx
  have hll2:=OA h5;refine AAO _ hr fun _=>?_;simp only[go_sem];refine AAO _ (UE l AOl) fun _=>?_;simp only[go_sem];refine AAO _ (JA (Ed l) b) fun _=>?_;rcases h6:decide (Ed l=b) with _ | _
  .have e:¬ Ed l=b:=by simpa using h6
   simp only[go_sem,h6,aR e,Dx]
  .have e:Ed l=b:=by simpa using h6
   simp only[go_sem,h6,aV e,Dx]
theorem ja {b:List Int} (h:0<b.length) (ty k:Int):Xr b ty k=if b[0]=0 then Gu (b.drop 1) ty k else if b[0]=1 then Ec (b.drop 1) ty k else if b[0]=2 then GK (b.drop 1) ty k else if b[0]=3 then Et (b.drop 1) k else none:=by
 cases b with
 | nil=>simp at h
 | cons c r=>rfl
theorem nK (b:List Int) (ty k:Int) (hb:Ai b) (hl:b.length<=1048576):Ctr prog 292 [.c (.sl (b.map byteC)),.c (.v (.int .i64 (ty))),.c (.v (.int .i64 (k)))] (Dx (JS b ty k)):=by
 rw[<- ACC hb];refine CM call292 func292 ntmps292 results292 fun hw=>?_;rcases h0:((b.length:Int)==0) with _ | _;rotate_left
 .have e:b = []:=by simpa using h0
  have e2:Zi b ty k=none:=aV e;rw[e2];simp only[go_sem,h0,Dx]
 have h0':0<b.length:=by exact AN1
 have hall:Zi b ty k=if typeOf ((Xr b ty k).getD [])=ty then again b k ((Xr b ty k).getD []) (A8 ((Xr b ty k).getD [])) else none:=by rw[<- AAr hb];exact aR fun q=>by rw[q] at h0'; simp at h0'
 rw[hall];simp only[go_sem,h0,AA _ h0'];have hc:isByte b[0]:=hb _ (an h0');have hc2:=hc.1;have hc3:=hc.2;have hw1:IntKind.i64.wrap b[0]=b[0]:=wrap_i64 AOl AOl;have hdd:=ja h0' ty k;have a2:1<=b.length:=h0';have q1:=Io (k:=.i64) (n:=(1:Int)) (m:=1) AOl;have htk:(b.drop 1).take (b.length-1)=b.drop 1:=aau AOm;have hbd:Ai (b.drop 1):=fun c hc=>hb c (yE hc);have hdl:(b.drop 1).length<=1048576:=AOn;rcases hk0:b[0]==0 with _ | _;rotate_left
 .rw[aV APe] at hdd;simp only[go_sem,q1,a2,BU,aG,<- bk,<- bf,htk,hw1,hk0];have hr:=f_ (b.drop 1) ty k hbd hdl;rcases hd:Gu (b.drop 1) ty k with _ | l<;>rw[hd] at hr hdd<;>simp only[Dx] at hr<;>rw[hdd]
  .refine AAO _ hr fun _=>?_;simp only[go_sem,ww];exact AGG
  .exact AGH
 rcases hk1:b[0]==1 with _ | _;rotate_left
 .rw[aR APe,aV APk] at hdd;simp only[go_sem,q1,a2,BU,aG,<- bk,<- bf,htk,hw1,hk0,hk1];have hr:=iZ (b.drop 1) ty k hbd hdl;rcases hd:Ec (b.drop 1) ty k with _ | l<;>rw[hd] at hr hdd<;>simp only[Dx] at hr<;>rw[hdd]
  .refine AAO _ hr fun _=>?_;simp only[go_sem,ww];exact AGG
  .exact AGH
 rcases hk2:b[0]==2 with _ | _;rotate_left
 .rw[aR APe,aR APk,aV AQS] at hdd;simp only[go_sem,q1,a2,BU,aG,<- bk,<- bf,htk,hw1,hk0,hk1,hk2];have hr:=iw (b.drop 1) ty k hbd hdl;rcases hd:GK (b.drop 1) ty k with _ | l<;>rw[hd] at hr hdd<;>simp only[Dx] at hr<;>rw[hdd]
  .refine AAO _ hr fun _=>?_;simp only[go_sem,ww];exact AGG
  .exact AGH
 rcases hk3:b[0]==3 with _ | _;rotate_left
 .rw[aR APe,aR APk,aR AQS,aV (by simpa using hk3)] at hdd;simp only[go_sem,q1,a2,BU,aG,<- bk,<- bf,htk,hw1,hk0,hk1,hk2,hk3];have hr:=gK (b.drop 1) k hbd hdl;rcases hd:Et (b.drop 1) k with _ | l<;>rw[hd] at hr hdd<;>simp only[Dx] at hr<;>rw[hdd]
  .refine AAO _ hr fun _=>?_;simp only[go_sem,ww];exact AGG
  .exact AGH
 rw[aR APe,aR APk,aR AQS,aR (by simpa using hk3)] at hdd;rw[hdd];simp only[go_sem,q1,a2,BU,aG,<- bk,<- bf,htk,hw1,hk0,hk1,hk2,hk3,ww];exact AGG
theorem nM (b:List Int) (ty k:Int) (hb:Ai b) (hl:b.length<=1048576):Ctr prog 277 [.c (.sl (b.map byteC)),.c (.v (.int .i64 (ty))),.c (.v (.int .i64 (k)))] (Dx (JS b ty k)):=by
 refine CM call277 func277 ntmps277 results277 fun hw=>?_;rcases h0:((b.length:Int)==0) with _ | _;rotate_left
 .have e:b = []:=by simpa using h0
  have e2:JS b ty k=none:=by rw[e,JS]; split<;>rfl
  rw[e2];simp only[go_sem,h0,Dx]
 have h0':0<b.length:=by exact AN1
 simp only[go_sem,h0,AA _ h0'];refine AAO _ (AP _ _ _) fun _=>?_;rcases h1:Ae ty 1 2 with _ | _
 .have e:JS b ty k=none:=aR APU;rw[e];simp only[go_sem,h1,Dx]
 have hty:1<=ty/\ty<=2:=APU
 have hall:JS b ty k=match Xr b ty k with
  | none=>none
  | some l=>if typeOf l=ty/\A8 l=b then some l else none:=aV hty
 rw[hall];simp only[go_sem,h1,AA _ h0'];have hc:isByte b[0]:=hb _ (an h0');have hc2:=hc.1;have hc3:=hc.2;have hw1:IntKind.i64.wrap b[0]=b[0]:=wrap_i64 AOl AOl;have hdd:=ja h0' ty k;have a2:1<=b.length:=h0';have q1:=Io (k:=.i64) (n:=(1:Int)) (m:=1) AOl;have htk:(b.drop 1).take (b.length-1)=b.drop 1:=aau AOm;have hbd:Ai (b.drop 1):=fun c hc=>hb c (yE hc);have hdl:(b.drop 1).length<=1048576:=AOn;rcases hk0:b[0]==0 with _ | _;rotate_left
 .rw[aV APe] at hdd;simp only[go_sem,q1,a2,BU,aG,<- bk,<- bf,htk,hw1,hk0];have hr:=fZ (b.drop 1) ty k hbd hdl;rcases hd:Gu (b.drop 1) ty k with _ | l<;>rw[hd] at hr hdd<;>simp only[Dx] at hr<;>rw[hdd]
  .exact AKx
  .exact AFC
 rcases hk1:b[0]==1 with _ | _;rotate_left
 .rw[aR APe,aV APk] at hdd;simp only[go_sem,q1,a2,BU,aG,<- bk,<- bf,htk,hw1,hk0,hk1];have hr:=ig (b.drop 1) ty k hbd hdl;rcases hd:Ec (b.drop 1) ty k with _ | l<;>rw[hd] at hr hdd<;>simp only[Dx] at hr<;>rw[hdd]
  .exact AKx
  .exact AFC
 rcases hk2:b[0]==2 with _ | _;rotate_left
 .rw[aR APe,aR APk,aV AQS] at hdd;simp only[go_sem,q1,a2,BU,aG,<- bk,<- bf,htk,hw1,hk0,hk1,hk2];have hr:=iy (b.drop 1) ty k hbd hdl;rcases hd:GK (b.drop 1) ty k with _ | l<;>rw[hd] at hr hdd<;>simp only[Dx] at hr<;>rw[hdd]
  .exact AKx
  .exact AFC
 rcases hk3:b[0]==3 with _ | _;rotate_left
 .rw[aR APe,aR APk,aR AQS,aV (by simpa using hk3)] at hdd;simp only[go_sem,q1,a2,BU,aG,<- bk,<- bf,htk,hw1,hk0,hk1,hk2,hk3];have hr:=gQ (b.drop 1) k hbd hdl;rcases hd:Et (b.drop 1) k with _ | l<;>rw[hd] at hr hdd<;>simp only[Dx] at hr<;>rw[hdd]
  .exact AKx
  .exact AFC
 rw[aR APe,aR APk,aR AQS,aR (by simpa using hk3)] at hdd;rw[hdd];simp only[go_sem,q1,a2,BU,aG,<- bk,<- bf,htk,hw1,hk0,hk1,hk2,hk3,Dx]
def Oa (cs:List Int) (l:List DRow) (i:Nat):Prop:=∀ h:i<l.length,(rowOk cs l[i]=true/\(0<i->l[i-1].id<l[i].id))/\l[i].id<=1000000000
theorem PV {cs:List Int} {l:List DRow} {i:Nat} (h:¬ Oa cs l i):DD cs l=false:=by
 rw[abk];intro hg;simp only[DD,ar,aQ] at hg;refine h fun hi=>⟨?_,hg.2.2 _ (an hi)⟩;by_cases hr:rowAt cs l i
 .exact hr hi
 .rw[ABP hr] at hg;cases hg.2.1
theorem jc {cs:List Int} {l:List DRow} (h:∀ i,i<l.length->Oa cs l i):DD cs l=(FX cs&&decide (l.length<=12)):=by
 have h1:Uc cs l=true:=xg fun i hi _=>(h i hi hi).1;have h2:decide (∀ r∈l,r.id<=1000000000)=true:=decide_eq_true fun r hr=>by obtain⟨i,hi,rfl⟩:=aaE hr;exact(h i hi hi).2
 simp only[DD,h1,h2,aw]
theorem H9 (cs:List Int) (l:List DRow) (hl:l.length<=1099511627776):Ctr prog 206 [.c (.sl (cs.map intC)),.c (.sl (l.map DRow.c))] [.val (.c (.v (.bool (DD cs l))))]:=by
 refine CM call206 func206 ntmps206 results206 fun hw=>?_;simp only[go_sem];refine AAO _ (QJ _) fun _=>?_;rcases hc:FX cs with _ | _
 .have e:DD cs l=false:=by simp only[DD,hc,ac]
  simp only[go_sem,hc,e]
 rcases h12:decide ((l.length:Int)>12) with _ | _;rotate_left
 .have e:DD cs l=false:=by
   have:decide (l.length<=12)=false:=by simp at h12 ⊢; omega
   simp only[DD,this,ay,ac]
  simp only[go_sem,hc,h12,e]
 have h12':decide (l.length<=12)=true:=by simp at h12 ⊢; omega
 simp only[go_sem,hc,h12];refine AAe 0 (A:=Nat) (fun x=>[(17,.c (.v (.int .i64 (x))))]) (fun _=>[]) (fun k=>k<=l.length/\∀ i,i<k->Oa cs l i) (fun k=>l.length-k) 0 ⟨⟨rfl,rfl⟩,rfl,aq _,fun i h=>AOl⟩ ?_;rintro k ⟨hk,hf⟩;refine AOd (fun h=>?_) fun h=>?_
 .have hk':k<l.length:=by simpa using h
  have hnext:Oa cs l k->∀ i,i<k+1->Oa cs l i:=by exact AON
  simp only[go_sem,AA _ hk'];refine AAP ?_;simp only[go_sem,AA _ hk',hk'];refine CY (rq cs l[k]) ?_;exact AGK
 .have hk':k=l.length:=by simp at h; omega
  subst hk';simp only[go_sem,jc hf,hc,h12',aw]
theorem KD (cs:List Int) (l:List DRow) (hl:l.length<=1099511627776):Ctr prog 166 [.c (.sl (cs.map intC)),.c (.sl (l.map DRow.c))] [.val (.c (.v (.bool (DD cs l))))]:=by
 refine CM call166 func166 ntmps166 results166 fun hw=>?_;simp only[go_sem];refine AAe 0 (A:=Nat) (fun x=>[(5,.c (.v (.int .i64 (x))))]) (fun _=>[]) (fun k=>k<=l.length/\∀ i,i<k->Oa cs l i) (fun k=>l.length-k) 0 ⟨⟨rfl,rfl⟩,rfl,aq _,fun i h=>AOl⟩ ?_;rintro k ⟨hk,hf⟩;refine AOd (fun h=>?_) fun h=>?_
 .have hk':k<l.length:=by simpa using h
  have hnext:Oa cs l k->∀ i,i<k+1->Oa cs l i:=by exact AON
  simp only[go_sem,AA _ hk'];refine AAP ?_;simp only[go_sem,AA _ hk',hk'];refine CY (rf cs l[k]) ?_;exact AGK
 .have hk':k=l.length:=by simp at h; omega
  subst hk';simp only[go_sem];refine AAO _ (QI _) fun _=>?_;have h12:decide ((l.length:Int)<=12)=decide (l.length<=12):=by rw[decide_eq_decide]; omega
  rcases hc:FX cs with _ | _<;>simp only[go_sem,jc hf,hc,h12,ac,ah]
theorem IU {cs:List Int} {l:List DRow} (h:DD cs l=true):(cs.length<=3/\1<=cs.length)/\l.length<=12/\∀ r∈l,0<=r.id/\r.id<=1000000000/\fits cs r.l=true:=by simp only[DD,ar,aQ] at h;obtain⟨⟨h1,h2⟩,h3,h4⟩:=h;simp only[FX,ar] at h1;refine⟨by have:=h1.2; simp[Ae] at this; omega,h2,fun r hr=>?_⟩;obtain⟨i,hi,rfl⟩:=aaE hr;simp only[Uc,aQ] at h3;have:=(h3 i hi).1;simp only[rowOk,ar,aQ] at this;exact⟨this.1,h4 _ hr,this.2⟩
theorem bU (l:List DVal):(WA l).length<=1006:=by have h1:=Di ((A8 l).length:Int);have h2:=Ug l;simp only[WA,aP]; omega
theorem RI {cs:List Int} {l:List DRow} (h:DD cs l=true):Au cs l=JM (l.map DRow.id)++(if l = [] then [] else((List.range cs.length).map fun(k:Nat)=>WA (Ha l (k:Int))).flatten):=aV h
noncomputable def Iw (l:List DRow) (k:Nat):List Int:=if l = [] then [] else((List.range k).map fun(k:Nat)=>WA (Ha l (k:Int))).flatten
theorem bV (l:List DRow):Iw l 0 = []:=by unfold Iw; split<;>rfl
theorem KE (cs:List Int) (l:List DRow) (hl:fitS Dn l):Ctr prog 208 [.c (.sl (cs.map intC)),.c (.sl (l.map DRow.c))] [.own 5 1 ((Au cs l).map byteC) true]:=by
 refine CM call208 func208 ntmps208 results208 fun hw=>?_;simp only[go_sem];refine AAO _ (H9 cs l (by have:=hl.1; omega)) fun _=>?_;rcases h1:DD cs l with _ | _
 .have e:Au cs l = []:=aR (by rw[h1]; simp);exact AJ8
 obtain⟨f1,f2,f3⟩:=IU h1;rw[RI h1];simp only[go_sem,h1];refine AAv [15] (A:=Nat) (fun x=>[(18,.c (.v (.int .i64 (x)))),(5,.c (.ref 0))]) (fun x=>[⟨3,1,((l.take x).map DRow.id).map intC,true,true⟩]) (fun x=>x<=l.length) (fun x=>l.length-x) 0 (AAS [(0,false)] ⟨rfl,rfl,rfl,trivial⟩ rfl) (aq _) ?_;rintro i hi;refine AOd (fun h=>?_) fun h=>?_
 .have hi':i<l.length:=by simp at h; omega
  have hl2:i+1<=2147483648:=AOl;simp only[go_sem,AA _ hi',hl2,aU,ZW hi,wrap_i64 (n:=(i:Int)+1) AOl AOl];exact AM7
 .have hi':i=l.length:=by simp at h; omega
  subst hi';simp only[go_sem,aX]
  refine AAO _ (jK [] (l.map DRow.id) AOn AOm fun n hn=>by
   obtain⟨r,hr,rfl⟩:=jB.1 hn;exact(Du _).2 ⟨by have:=(f3 r hr).1; omega,(f3 r hr).2.1⟩) fun _=>?_
  rw[aA];simp only[go_sem];have hnl:=NW (l.map DRow.id);have hnb:=Di ((l.map DRow.id).length:Int);have hnl2:(JM (l.map DRow.id)).length<=65:=by exact AOY
  have hG:∀ k,(Iw l k).length<=1006*k:=fun k=>by exact AMS
  have hfin:JM (l.map DRow.id)++(if l = [] then [] else((List.range cs.length).map fun(k:Nat)=>WA (Ha l (k:Int))).flatten)=JM (l.map DRow.id)++Iw l cs.length:=rfl;rw[hfin];refine AAv [29,28,5] (A:=Nat) (fun x=>[(32,.c (.v (.int .i64 (x)))),(8,.c (.ref 0))]) (fun x=>[⟨5,1,(JM (l.map DRow.id)++Iw l x).map byteC,true,true⟩]) (fun x=>x<=cs.length) (fun x=>cs.length-x) 0 (AAS [(1,false)] ⟨rfl,rfl,EI _,trivial⟩ (by rw[bV,bc]; rfl)) (aq _) ?_;rintro k hk;refine AOd (fun h=>?_) fun h=>?_
  .have hk':k<cs.length:=by simp at h; omega
   have hGk:=hG k;rcases h2:decide ((l.length:Int)>0) with _ | _
   .have h2':l = []:=by apply aam;simp at h2; simp[h2]
    have hs:Iw l (k+1)=Iw l k:=by unfold Iw; rw[aV h2',aV h2']
    simp only[go_sem,h2,wrap_i64 (n:=(k:Int)+1) AOl AOl];exact⟨k+1,AAS [(0,false)] ⟨rfl,rfl,EI _,trivial⟩ (by rw[hs]; rfl),hk',AOl⟩
   .have h2':l≠ []:=by rintro rfl; simp at h2
    have hcl:(Ha l (k:Int)).length<=l.length:=aa2 _ _;have hel:=Ug (Ha l (k:Int));have hs:Iw l (k+1)=Iw l k++(Ey (A8 (Ha l (k:Int))).length++A8 (Ha l (k:Int))):=by exact AN3
    simp only[go_sem,h2];refine AAO _ (qU l (k:Int) hl.big) fun _=>?_;simp only[go_sem];refine AAO _ (Ez (Ha l (k:Int)) AOl) fun _=>?_;simp only[go_sem];refine AAO _ (Gy _ _ APK) fun _=>?_;exact AKc
  .have hk':k=cs.length:=by simp at h; omega
   subst hk';simp only[go_sem];try exact AIG
end Go.Proofs.YtdagmocgcanknaaGreat
namespace Go.Vm
theorem Head.open {s:MS} (l i off:Nat) {ob:Ob} {row:List Cl} {ty:TypeId} {sz:Nat} {xs:List (List Cl)} (hob:DF s.st l=some ob) (hwr:ob.wr=true) (hrow:ob.xs[i]?=some row) (hcell:row[off]?=some (.ow ty sz xs)) :
  Head s ⟨s.n,s.env,CV s.st l i off ob row ty sz xs⟩:=⟨rfl,fun w0 St0 St β a w hc=>by
 obtain⟨b,u,β',_,_,h,_⟩:=hc.openCell hob hwr hrow hcell
 exact⟨St,β',h⟩⟩
theorem Head.nilI {s:MS} (l i j e n:Nat) (ob:Ob) (row:List Cl) (hob:s.st[l]?=some ob) (hrow:ob.xs[i]?=some row) (h:row[j]?=some (.v (.slice none 0 0))) :
  Head s ⟨s.n,s.env,s.st.set l ⟨ob.ty,ob.sz,ob.xs.set i (row.set j (.ref s.st.length)),ob.wr,ob.live⟩ ++ [⟨e,n,[],true,true⟩]⟩:=⟨rfl,fun w0 St0 St β a w hc=>by
 obtain⟨β',h1,h2⟩:=hc.nilOb e n
 have hl:l<s.st.length:=(az.1 hob).1
 have hi:i<ob.xs.length:=(az.1 hrow).1
 have hj:j<row.length:=(az.1 h).1
 have hri:ob.xs[i]=row:=(az.1 hrow).2
 have hg:∀ (l2:Nat) (o2:Ob),(s.st.set l ⟨ob.ty,ob.sz,ob.xs.set i (row.set j (.ref s.st.length)),ob.wr,ob.live⟩ ++ [⟨e,n,[],true,true⟩])[l2]?=some o2->(l2=l/\o2=⟨ob.ty,ob.sz,ob.xs.set i (row.set j (.ref s.st.length)),ob.wr,ob.live⟩)\/(l2≠l/\(s.st ++ [(⟨e,n,[],true,true⟩:Ob)])[l2]?=some o2):=by
  intro l2 o2 h2;by_cases e1:l2=l
  .subst e1;rw[aY APf,wu] at h2;simp[hl] at h2;exact .inl ⟨rfl,h2.symm⟩
  .refine .inr ⟨e1, ?_⟩;rw[List.getElem?_append] at h2 ⊢;simp only[ak] at h2;split at h2
   .rename_i hlt;rw[wu,aR (fun e2=>e1 e2.symm)] at h2;rw[aV hlt]; exact h2
   .rename_i hlt;rw[aR hlt]; exact h2
 have hg2:∀ (l2:Nat) (o2:Ob),(s.st ++ [(⟨e,n,[],true,true⟩:Ob)])[l2]?=some o2->∃ o3,(s.st.set l ⟨ob.ty,ob.sz,ob.xs.set i (row.set j (.ref s.st.length)),ob.wr,ob.live⟩ ++ [⟨e,n,[],true,true⟩])[l2]?=some o3/\o3.live=o2.live/\o3.sz=o2.sz/\o3.ty=o2.ty/\o3.xs.length=o2.xs.length:=by
  intro l2 o2 h2;by_cases e1:l2=l
  .subst e1;rw[aY hl,hob] at h2;cases h2;exact⟨⟨ob.ty,ob.sz,ob.xs.set i (row.set j (.ref s.st.length)),ob.wr,ob.live⟩,by rw[aY APf,wu]; simp only[aO,hl],rfl,rfl,rfl,AOm⟩
  .refine⟨o2, ?_,rfl,rfl,rfl,rfl⟩;rw[List.getElem?_append] at h2 ⊢;simp only[ak];split at h2
   .rename_i hlt;rw[aV hlt,wu,aR (fun e2=>e1 e2.symm)]; exact h2
   .rename_i hlt;rw[aR hlt]; exact h2
 have hr:∀ (l2:Nat) (u:Value),BQ w (s.st ++ [⟨e,n,[],true,true⟩]) β' l2 u->BQ w (s.st.set l ⟨ob.ty,ob.sz,ob.xs.set i (row.set j (.ref s.st.length)),ob.wr,ob.live⟩ ++ [⟨e,n,[],true,true⟩]) β' l2 u:=by
  intro l2 u hu;unfold BQ at hu ⊢;cases hq:(s.st ++ [(⟨e,n,[],true,true⟩:Ob)])[l2]? with
  | none=>simp[hq] at hu
  | some o2 =>
   obtain⟨o3,p1,p2,p3,p4,p5⟩:=hg2 l2 o2 hq
   simp only[hq] at hu
   simp only[p1]
   refine⟨hu.1,fun hlv=>?_⟩
   have h3:=hu.2 (by rw[<- p2]; exact hlv)
   cases hβ:β' l2 with
   | none=>simp only[hβ] at h3 ⊢; exact⟨h3.1,aam (by rw[p5,h3.2]; rfl)⟩
   | some b=>simp only[hβ] at h3 ⊢; simpa only[p3,p4,p5] using h3
 refine⟨St,β',h1.reTell _ _ hr (fun l2 i off u hu=>?_) (fun i u hu=>hu) (fun l2 o' hl2 hlv=>?_)⟩
 .simp only[AVR] at hu ⊢
  cases hq:(s.st ++ [(⟨e,n,[],true,true⟩:Ob)])[l2]? with
  | none=>simp[hq] at hu
  | some o2 =>
   obtain⟨o3,p1,p2,p3,_⟩:=hg2 l2 o2 hq
   simp only[hq] at hu
   simp only[p1,p2,p3]
   exact hu
 .rcases hg l2 o' hl2 with ⟨rfl,rfl⟩ | ⟨_,h3⟩
  .refine⟨ob,by rw[aY hl]; exact hob,hlv,rfl,rfl,rfl,AOm,fun hx x hx2=>?_,fun k c' hk=>?_⟩
   .rcases aaK hx2 with hx2 | hx2
    .exact hx x hx2
    .rw[hx2,ak]
     exact hx row (by rw[<- hri]; exact an hi)
   .have e1:ob.xs.flatten=(ob.xs.take i).flatten++(row++(ob.xs.drop (i+1)).flatten):=by
     conv=>lhs; rw[<- List.take_append_drop i ob.xs]
     rw[aaD,aB hi,XV,hri]
    have e2:(ob.xs.set i (row.set j (.ref s.st.length))).flatten=(ob.xs.take i).flatten++(row.set j (.ref s.st.length)++(ob.xs.drop (i+1)).flatten):=by
     rw[List.set_eq_take_append_cons_drop,aV hi,aaD,XV]
    rw[e2] at hk
    rw[e1]
    by_cases h3:k<(ob.xs.take i).flatten.length
    .rw[aY h3] at hk ⊢
     exact⟨c',hk,fun _ h=>h,fun _=>rfl⟩
    .rw[aS AOl] at hk ⊢
     generalize k-(ob.xs.take i).flatten.length=k2 at hk
     by_cases h4:k2<row.length
     .rw[aY APR,wu] at hk
      rw[aY h4]
      by_cases e3:j=k2
      .subst e3
       exact ANJ
      .rw[aR e3] at hk
       exact⟨c',hk,fun _ h=>h,fun _=>rfl⟩
     .rw[aS AOn,ak] at hk
      rw[aS AOl]
      exact⟨c',hk,fun _ h=>h,fun _=>rfl⟩
  .exact⟨o',h3,hlv,rfl,rfl,rfl,rfl,fun h=>h,fun k c hk=>⟨c,hk,fun _ h=>h,fun _=>rfl⟩⟩⟩
theorem Head.open' {s:MS} (l i off:Nat) {ob:Ob} {row:List Cl} {ty:TypeId} {sz:Nat} {xs zs:List (List Cl)} (hob:DF s.st l=some ob) (hwr:ob.wr=true) (hrow:ob.xs[i]?=some row) (hcell:row[off]?=some (.ow ty sz xs)) (e:ob.xs.set i (row.set off (.ref s.st.length))=zs) :
  Head s ⟨s.n,s.env,s.st.set l ⟨ob.ty,ob.sz,zs,ob.wr,ob.live⟩ ++ [⟨ty,sz,xs,true,true⟩]⟩:=by
 subst e
 exact Head.open l i off hob hwr hrow hcell
theorem Head.nilI' {s:MS} (l i j e n:Nat) (ob:Ob) (row:List Cl) {zs:List (List Cl)} (hob:s.st[l]?=some ob) (hrow:ob.xs[i]?=some row) (h:row[j]?=some (.v (.slice none 0 0))) (he:ob.xs.set i (row.set j (.ref s.st.length))=zs) :
  Head s ⟨s.n,s.env,s.st.set l ⟨ob.ty,ob.sz,zs,ob.wr,ob.live⟩ ++ [⟨e,n,[],true,true⟩]⟩:=by
 subst he
 exact Head.nilI l i j e n ob row hob hrow h
end Go.Vm
namespace Go.Proofs.YtdagmocgcanknaaGreat
open Go.Vm
theorem bW (ids:List Int):rowsOf ids []=ids.map fun n=>(⟨n,[]⟩:DRow):=by unfold rowsOf;exact ANB
def LK (ids:List Int) (c:List (List DVal)) (x:Nat):DRow:=⟨(ids[x]?).getD 0,c.map fun v=>(v[x]?).getD rowsOf.zeroW⟩
theorem jd (ids:List Int) (c:List (List DVal)):rowsOf ids c=(List.range ids.length).map (LK ids c):=rfl
theorem bY {ids:List Int} {c:List (List DVal)} {x:Nat} (h:x<ids.length):(rowsOf ids c)[x]?=some (LK ids c x):=by rw[jd,nX,List.getElem?_range h]; rfl
theorem sJ {ids:List Int} {c:List (List DVal)} {l:List DVal} {x:Nat} (h:x<l.length):LK ids (c ++ [l]) x=⟨(LK ids c x).id,(LK ids c x).l ++ [l[x]]⟩:=by simp only[LK,bl,ao,ap,am h,au]
def Hf (ids:List Int) (c:List (List DVal)) (l:List DVal) (x:Nat):List DRow:=(rowsOf ids (c ++ [l])).take x++(rowsOf ids c).drop x
theorem je (ids:List Int) (c:List (List DVal)) (l:List DVal):Hf ids c l 0=rowsOf ids c:=rfl
theorem sK (ids:List Int) (c:List (List DVal)) (l:List DVal):Hf ids c l ids.length=rowsOf ids (c ++ [l]):=by unfold Hf;rw[aau (by rw[D6]; omega),List.drop_eq_nil_of_le (by rw[D6]; omega),bc]
theorem VW {ids:List Int} {c:List (List DVal)} {l:List DVal} {x:Nat} (h:x<=ids.length):(Hf ids c l x).length=ids.length:=by simp only[Hf,aP,aU,aaM,D6]; omega
theorem sN {ids:List Int} {c:List (List DVal)} {l:List DVal} {x:Nat} (h:x<ids.length):(Hf ids c l x)[x]?=some (LK ids c x):=by unfold Hf;rw[aS (by simp[D6]; omega)];simp only[aU,D6,ZW (Nat.le_of_lt h),jv,aaV,abC];exact bY h
theorem sO {ids:List Int} {c:List (List DVal)} {l:List DVal} {x:Nat} (h:x<ids.length):(Hf ids c l x).set x (LK ids (c ++ [l]) x)=Hf ids c l (x+1):=by
 have hx:x<(rowsOf ids (c ++ [l])).length:=by rw[D6]; exact h
 have hx2:x<(rowsOf ids c).length:=by rw[D6]; exact h
 have e1:(rowsOf ids (c ++ [l]))[x]=LK ids (c ++ [l]) x:=by have:=bY (c:=c ++ [l]) h;rw[am hx] at this;exact uG this
 unfold Hf;rw[aap hx,e1,abn _ _ AOn,aU,ZW (Nat.le_of_lt hx),jv,aB hx2,List.set_cons_zero,ba];rfl
def AEk (ids:List Int) (c:List (List DVal)) (l:List DVal) (x:Nat):List Ob:=if x<ids.length then
  [⟨3,1,ids.map intC,true,true⟩,⟨194,2,((Hf ids c l x).map DRow.o).set x [.v (.int .i64 (LK ids c x).id),.ref 2],true,true⟩,⟨112,3,(LK ids c x).l.map DVal.c,true,true⟩]
 else [⟨3,1,ids.map intC,true,true⟩,⟨194,2,(Hf ids c l x).map DRow.o,true,true⟩]
theorem AAA {ids:List Int} {c:List (List DVal)} {l:List DVal} {x:Nat} (h:x<ids.length):AEk ids c l x = [⟨3,1,ids.map intC,true,true⟩,⟨194,2,((Hf ids c l x).map DRow.o).set x [.v (.int .i64 (LK ids c x).id),.ref 2],true,true⟩,⟨112,3,(LK ids c x).l.map DVal.c,true,true⟩]:=aV h
theorem AAB {ids:List Int} {c:List (List DVal)} {l:List DVal} {x:Nat} (h:¬ x<ids.length):AEk ids c l x = [⟨3,1,ids.map intC,true,true⟩,⟨194,2,(Hf ids c l x).map DRow.o,true,true⟩]:=aR h
theorem sQ {n:Nat} {env:List (Nat×AV)} (ids:List Int) (c:List (List DVal)) (l:List DVal) (x:Nat) :
  Head ⟨n,env,[⟨3,1,ids.map intC,true,true⟩,⟨194,2,(Hf ids c l x).map DRow.o,true,true⟩]⟩ ⟨n,env,AEk ids c l x⟩:=by
 by_cases h:x<ids.length
 .rw[AAA h]
  exact Head.open' (s:=⟨n,env,[⟨3,1,ids.map intC,true,true⟩,⟨194,2,(Hf ids c l x).map DRow.o,true,true⟩]⟩) 1 x 1 (ob:=⟨194,2,(Hf ids c l x).map DRow.o,true,true⟩) (row:=DRow.o (LK ids c x)) rfl rfl
   (by simp only[nX,sN h,bi]) rfl rfl
 .rw[AAB h]
  exact⟨rfl,fun _ _ St β _ _ h=>⟨St,β,h⟩⟩
theorem AAC (l:List Int):Jo (l.map byteC)=true:=by
 induction l with
 | nil=>rfl
 | cons c l ih=>simp only[ao,Jo,ih,aw]; rfl
theorem bZ {ids:List Int} {c:List (List DVal)} (hn:ids.length<=64) (hc:c.length<=1048576) (h2:∀ x∈c,∀ v∈x,v.s.size<=6):fitS Dn (rowsOf ids c):=by
 refine⟨by rw[D6]; omega,fun r hr=>?_⟩;rw[jd] at hr;obtain⟨i,_,rfl⟩:=jB.1 hr;refine⟨by simp only[LK,aa]; exact hc,fun v hv=>?_⟩;simp only[LK] at hv;obtain⟨x,hx,rfl⟩:=jB.1 hv;rw[TG];cases hq:x[i]? with
 | none=>simp[rowsOf.zeroW]
 | some v =>
  have:=h2 x hx v (aT hq)
  simp only[au]; omega
theorem jf {b:List Int} {ty k:Int} {l:List DVal} (h:JS b ty k=some l):1<=ty/\ty<=2:=by
 unfold JS at h;split at h
 .assumption
 .cases h
theorem Uh {v:DVal} (h:BX v=true):v.s.size<=6:=by
 unfold BX at h;split at h
 .simp only[ar,qX] at h;rw[zC h.2];exact aq _
 .simp only[ar,aQ] at h;exact h.1.2
noncomputable def AC3 (cs b ids:List Int) (x:Option (List (List DVal)×Nat)):Option (List DRow):=match x with
 | none=>none
 | some (c,_)=>if DD cs (rowsOf ids c)=true/\Au cs (rowsOf ids c)=b then some (rowsOf ids c) else none
theorem XN (cs b ids:List Int):AC3 cs b ids none=none:=rfl
theorem jg (cs b ids:List Int) (c:List (List DVal)) (p:Nat):AC3 cs b ids (some (c,p))=if DD cs (rowsOf ids c)=true/\Au cs (rowsOf ids c)=b then some (rowsOf ids c) else none:=rfl
theorem ZM {cs b ids:List Int} {c:List (List DVal)} {p:Nat} (h:¬ (DD cs (rowsOf ids c)=true/\Au cs (rowsOf ids c)=b)):AC3 cs b ids (some (c,p))=none:=by rw[jg,aR h]
theorem sS {cs b ids:List Int} {c:List (List DVal)} {p:Nat} (h:DD cs (rowsOf ids c)=true/\Au cs (rowsOf ids c)=b):AC3 cs b ids (some (c,p))=some (rowsOf ids c):=by rw[jg,aV h]
def W9:Option (List DRow)->List Res
 | some l=>[.own 194 2 (l.map DRow.o) true,.val (.c (.v (.bool (true))))]
 | none=>[.own 194 2 [] true,.val (.c (.v (.bool (false))))]
theorem RJ (cs:List Int) (b:List Int) (hb:Ai b) (hl:b.length<=1048576):Ctr prog 250 [.c (.sl (cs.map intC)),.c (.sl (b.map byteC))] (W9 (C_ cs b)):=by
 rw[<- vN hb];refine CM call250 func250 ntmps250 results250 fun hw=>?_;simp only[go_sem];have hg:=jH b 0 hb hl;rcases h1:FZ b 0 with _ | ⟨ids,q⟩<;>rw[h1] at hg<;>simp only[ZH] at hg
 .have e:Jz cs b=none:=by simp only[Jz,h1]
  rw[e];refine AAO _ hg fun _=>?_;simp only[go_sem,W9];try exact AKg
 refine AAO _ hg fun _=>?_;obtain⟨n1,n2,n3⟩:=Uw hb h1;simp only[go_sem];refine AAO _ (QJ _) fun _=>?_;rcases hc:FX cs with _ | _
 .have e:Jz cs b=none:=by simp only[Jz,h1,hc]; rfl
  rw[e];simp only[go_sem,hc,W9];try exact AKg
 have hcs3:cs.length<=3:=by simp only[FX,ar] at hc;have:=hc.2;simp[Ae] at this; omega
 have hall:Jz cs b=AC3 cs b ids (GV b cs ids q):=by simp only[Jz,h1]; exact aV hc
 rw[hall];simp only[go_sem,hc];refine AAv [32] (A:=Nat) (fun x=>[(35,.c (.v (.int .i64 (x)))),(9,.c (.ref 1))]) (fun x=>[⟨3,1,ids.map intC,true,true⟩,⟨194,2,((ids.take x).map fun n=>(⟨n,[]⟩:DRow)).map DRow.o,true,true⟩]) (fun x=>x<=ids.length) (fun x=>ids.length-x) 0 (AAS [(0,false),(1,false)] ⟨rfl,rfl,CX _,rfl,trivial⟩ rfl) (aq _) ?_;rintro i hi;refine AOd (fun h=>?_) fun h=>?_
 .have hi':i<ids.length:=by simp at h; omega
  have hl2:i+1<=2147483648:=AOl;simp only[go_sem,AA _ hi',hi',hl2,aU,ZW hi,wrap_i64 (n:=(i:Int)+1) AOl AOl];have hnr:DR [[Cl.v (.int .i64 ids[i]),Cl.v (.slice none 0 0)]]=true:=rfl;simp only[go_sem,hnr,AA _ hi',hi',hl2,aU,ZW hi,wrap_i64 (n:=(i:Int)+1) AOl AOl];have hlen:(((ids.take i).map fun n=>(⟨n,[]⟩:DRow)).map DRow.o).length=i:=AOn
  refine⟨i+1,Head.trans (Head.nilI' 3 i 1 112 3 _ [.v (.int .i64 ids[i]),.v (.slice none 0 0)] (zs:=((ids.take i).map fun n=>(⟨n,[]⟩:DRow)).map DRow.o ++ [[.v (.int .i64 ids[i]),.ref 4]]) rfl ?row rfl ?set) (ABi [(0,false),(3,true),(4,false)] 2 1 ⟨rfl,rfl,CX _,Ic DRow.o_nr _ _ rfl,rfl,trivial⟩
   ⟨i,((ids.take i).map fun n=>(⟨n,[]⟩:DRow)).map DRow.o ++ [DRow.o ⟨ids[i],[]⟩],[.v (.int .i64 ids[i]),.ref 2],DRow.o ⟨ids[i],[]⟩,_,⟨dD 1,rfl, ?rn,AOn,rfl⟩,
    ⟨rfl,rfl,rfl,rfl,rfl,rfl,rfl,AO4,fun l hl=>AO0⟩,⟨rfl, ?tr⟩, ?eq⟩),hi',AOl⟩
  case row=>simp only; rw[aS AOl,hlen]; simp
  case set=>simp only; rw[abn _ _ AOl,hlen]; simp
  case rn =>
   have:=Ib DRow.o_nr [(0,false),(3,true),(4,false)] ((ids.take i).map fun n=>(⟨n,[]⟩:DRow)) [.v (.int .i64 ids[i]),.ref 4] (DRow.o ⟨ids[i],[]⟩)
   exact ANZ
  case tr =>
   unfold BJ
   have:=BM (f:=DRow.o) ((ids.take i).map fun n=>(⟨n,[]⟩:DRow)) ⟨ids[i],[]⟩
   rw[show ((ids.take i).map fun n=>(⟨n,[]⟩:DRow)).length=i from AOn] at this
   rw[this]
   exact all2 (AX (AQ _)) (AX (Aj _))
  case eq =>
   exact ALe
 .have hi':i=ids.length:=by simp at h; omega
  subst hi';simp only[go_sem,aX];have e0:(ids.map fun n=>(⟨n,[]⟩:DRow))=rowsOf ids []:=(bW ids).symm;rw[e0];refine AAv [] (A:=Nat×Nat×List (List DVal)) (fun x=>[(47,.c (.v (.int .i64 (x.1)))),(7,.c (.v (.int .i64 ((x.2.1:Int)))))]) (fun x=>[⟨3,1,ids.map intC,true,true⟩,⟨194,2,(rowsOf ids x.2.2).map DRow.o,true,true⟩]) (fun x=>x.1<=cs.length/\x.2.2.length=x.1/\((∀ c∈x.2.2,c.length=ids.length)/\(∀ c∈x.2.2,∀ v∈c,v.s.size<=6))/\x.2.1<=b.length/\(ids = []->x=(0,q,[]))/\(ids≠ []->(Hq b ids.length (cs.drop x.1) x.2.1).map (fun y=>(x.2.2++y.1,y.2))=Hq b ids.length cs q)) (fun x=>cs.length-x.1) (0,q,[]) (AAS [(0,false),(1,true)] ⟨rfl,rfl,CX _,D5 (Aj _),trivial⟩ ?h0) ⟨aq _,rfl,⟨AOm,AOm⟩,n1,fun _=>rfl,fun _=>AOm⟩ ?_
  case h0 =>
   show (⟨125,_,[_,⟨194,2,((rowsOf ids []).map DRow.o).map (fun x=>x.map (QT [(0,false),(1,true)])),true,true⟩]⟩:MS)=_
   rw[Df (Aj _)]; rfl
  rintro⟨k,p,c⟩ ⟨hk,hck,⟨hcl,hsz⟩,hpb,hemp,hne⟩;dsimp only at hk hck hcl hsz hpb hemp hne;refine AOd (fun h=>?_) fun h=>?_
  .have hk':k<cs.length:=by simp at h; omega
   simp only[go_sem,AA _ hk'];rcases hi0:((ids.length:Int)==0) with _ | _;rotate_left
   .have hids:ids = []:=by simpa using hi0
    have hx:=hemp hids;simp only[bb] at hx;obtain⟨_,hp0,hc0⟩:=hx;have hgc:GV b cs ids q=some (c,p):=by rw[hc0,hp0]; exact aV hids
    rw[hgc];simp only[go_sem,hi0];exact AG_
   have hids:ids≠ []:=by rintro rfl; simp at hi0
   have hn0:0<ids.length:=aa1.2 hids;have hne:=hne hids;have hgc:GV b cs ids q=Hq b ids.length cs q:=aR hids;rw[hgc];rw[Qg hk',Hq] at hne;simp only[go_sem,hi0];have hg2:=Gx b p hb hl;rcases h3:Bh b p with _ | ⟨m,p2⟩<;>rw[h3] at hg2 hne<;>simp only[WJ] at hg2
   .refine AAO _ hg2 fun _=>?_;simp only[W_] at hne;rw[<- hne,XN];simp only[go_sem,W9];try exact AKg
   refine AAO _ hg2 fun _=>?_;dsimp only at hne;obtain⟨_,z2,z3,z4,z5,_⟩:=IW hb h3;have hw1:IntKind.i64.wrap ((b.length:Int)-(p2:Int))=(b.length:Int)-(p2:Int):=wrap_i64 AOl AOl;simp only[go_sem,hw1];refine AAO _ (AL _ _ _) fun _=>?_;rcases h4:Ae m 0 ((b.length:Int)-(p2:Int)) with _ | _
   .rw[aR APp] at hne;simp only[W_] at hne;rw[<- hne,XN];simp only[go_sem,h4,W9];try exact AKg
   have h4':0<=m/\m<=(b.length:Int)-(p2:Int):=APp;rw[aV h4'] at hne;obtain⟨M,rfl⟩:=aF h4'.1;rw[aZ] at hne;have q1:=Io (k:=.i64) (n:=(p2:Int)) (m:=p2) AOl;have q2:=Io (k:=.i64) (n:=(p2:Int)+(M:Int)) (m:=p2+M) AOl;have q5:p2<=p2+M:=AOl;have q6:p2+M<=b.length:=AOl;have q7:p2+M-p2=M:=AOl;have hbd:Ai ((b.drop p2).take M):=TV hb _ _;have hdc:=nK ((b.drop p2).take M) cs[k] (ids.length:Int) hbd AOn;simp only[go_sem,h4,q1,q2,q5,q6,q7,BU,<- bk,<- bf,wrap_i64 (n:=(p2:Int)+(M:Int)) AOl AOl];rcases h5:JS ((b.drop p2).take M) cs[k] (ids.length:Int) with _ | l<;>rw[h5] at hdc hne<;>simp only[Dx] at hdc
   .refine AAO _ hdc fun _=>?_;simp only[W_] at hne;rw[<- hne,XN];simp only[go_sem,W9];try exact AKg
   refine AAO _ hdc fun _=>?_;dsimp only at hne;obtain⟨y1,y2,y3⟩:=Xt hbd h5;have hll:l.length=ids.length:=AOl;simp only[go_sem,D6]
   refine AAv [] (A:=Nat) (fun x=>[(89,.c (.v (.int .i64 (x))))]) (fun x=>AEk ids c l x) (fun x=>x<=ids.length) (fun x=>ids.length-x) 0 (Head.trans (AAS [(0,false),(1,true)] ⟨rfl,rfl,CX _,D5 (Aj _),trivial⟩ (by
    show (⟨125,_,[_,⟨194,2,((rowsOf ids c).map DRow.o).map (fun x=>x.map (QT [(0,false),(1,true)])),true,true⟩]⟩:MS)=_;rw[Df (Aj _),je]; rfl)) (sQ ids c l 0)) (aq _) ?_
   rintro x hx;refine AOd (fun h=>?_) fun h=>?_
   .have hx':x<ids.length:=by simp at h; omega
    have hxl:x<l.length:=AOl;have hgl:(Hf ids c l x).length=ids.length:=VW hx;have hrow:(((Hf ids c l x).map DRow.o).set x [.v (.int .i64 (LK ids c x).id),.ref 2])[x]?=some [.v (.int .i64 (LK ids c x).id),.ref 2]:=by rw[wu]; simp[hgl,hx']
    rw[AAA hx'];simp only[go_sem,AA _ hxl,hgl,hx',hrow,ak];have hal:(LK ids c x).l.length+1<=2147483648:=by simp only[LK,aa]; omega
    refine AAR ?_;simp only[go_sem,AA _ hxl,hgl,hx',hrow,ak,hal,wrap_i64 (n:=(x:Int)+1) AOl AOl];have hnx:(Hf ids c l (x+1)).map DRow.o=((Hf ids c l x).map DRow.o).set x (DRow.o (LK ids (c ++ [l]) x)):=by rw[<- sO hx',bn]
    have hrs:DRow.o (LK ids (c ++ [l]) x) = [.v (.int .i64 (LK ids c x).id),.ow 112 3 ((LK ids c x).l.map DVal.c ++ [l[x].c])]:=by rw[sJ hxl,<- G5]; rfl
    have hR:((Hf ids c l (x+1)).map DRow.o).set x [.v (.int .i64 (LK ids c x).id),.ow 112 3 ((LK ids c x).l.map DVal.c ++ [l[x].c])]=(Hf ids c l (x+1)).map DRow.o:=by rw[hnx,al,hrs]
    refine⟨x+1,Head.trans (ABi [(0,false),(1,true),(4,false)] 2 1 ⟨rfl,rfl,CX _, ?inn,NQ _ _,trivial⟩
     ⟨x,(Hf ids c l (x+1)).map DRow.o,[.v (.int .i64 (LK ids c x).id),.ref 2],[.v (.int .i64 (LK ids c x).id),.ow 112 3 ((LK ids c x).l.map DVal.c ++ [l[x].c])],_,⟨dD 1,rfl, ?rn, ?len,rfl⟩,
      ⟨rfl,rfl,rfl,rfl,rfl,rfl, ?nr,AO4,fun l hl=>AO0⟩,⟨rfl, ?tr⟩, ?eq⟩) (sQ ids c l (x+1)),hx',AOl⟩
    case inn =>
     show ((((Hf ids c l x).map DRow.o).set x [.v (.int .i64 (LK ids c x).id),.ref 2]).set x [.v (.int .i64 (LK ids c x).id),.ref 4]).all (fun x=>x.all (inC [(0,false),(1,true),(4,false)]))=true
     exact ANT
    case rn =>
     show ((((Hf ids c l x).map DRow.o).set x [.v (.int .i64 (LK ids c x).id),.ref 2]).set x [.v (.int .i64 (LK ids c x).id),.ref 4]).map (fun x=>x.map (QT [(0,false),(1,true),(4,false)]))=_
     rw[al,bn,Df (Aj _),hnx,al]
     rfl
    case len=>simp only[aa]; rw[VW AOl]; exact hx'
    case nr=>rw[<- G5]; exact Ce _
    case tr =>
     unfold BJ
     rw[hR]
     exact all2 (AX (AQ _)) (AX (Aj _))
    case eq =>
     unfold BJ
     rw[hR]
     rfl
   .have hx':x=ids.length:=by simp at h; omega
    rw[AAB AOl];simp only[go_sem];subst hx';have hty:=jf h5;have hta:=Dt (l:=l) AOl;simp only[go_sem,sK,wrap_i64 (n:=(k:Int)+1) AOl AOl,wrap_i64 (n:=(p2:Int)+(M:Int)) AOl AOl]
    exact⟨(k+1,p2+M,c ++ [l]),AAS [(0,false),(1,true)] ⟨rfl,rfl,CX _,D5 (Aj _),trivial⟩ (by
     show (⟨125,_,[_,⟨194,2,((rowsOf ids (c ++ [l])).map DRow.o).map (fun x=>x.map (QT [(0,false),(1,true)])),true,true⟩]⟩:MS)=_
     rw[Df (Aj _)]; rfl),⟨hk',by simp[hck],⟨fun y hy=>by
      rcases yF.1 hy with hy | hy
      .exact hcl y hy
      .rw[aaX.1 hy]; exact hll,fun y hy v hv=>by
      rcases yF.1 hy with hy | hy
      .exact hsz y hy v hv
      .rw[aaX.1 hy] at hv; exact Uh (hta.2.2 v hv).1⟩,q6,fun q=>absurd q hids,fun _=>by
     rw[<- hne,aaT]; congr 1; funext y; simp⟩,AOp⟩
  .have hk':k=cs.length:=by simp at h; omega
   have hgc:GV b cs ids q=some (c,p):=by exact ALh
   rw[hgc];simp only[go_sem];exact AG_
noncomputable def AEl (cs b ids:List Int) (x:Option (List (List DVal)×Nat)):Option (List DRow):=match x with
 | none=>none
 | some (c,q)=>if q=b.length/\DD cs (rowsOf ids c)=true then some (rowsOf ids c) else none
theorem XO (cs b ids:List Int):AEl cs b ids none=none:=rfl
theorem ZN {cs b ids:List Int} {c:List (List DVal)} {p:Nat} (h:¬ (p=b.length/\DD cs (rowsOf ids c)=true)):AEl cs b ids (some (c,p))=none:=aR h
theorem sU {cs b ids:List Int} {c:List (List DVal)} {p:Nat} (h:p=b.length/\DD cs (rowsOf ids c)=true):AEl cs b ids (some (c,p))=some (rowsOf ids c):=aV h
def AEm (ids:List Int) (c:List (List DVal)) (l:List DVal) (x:Nat):List Ob:=if x<ids.length then
  [⟨194,2,[],true,true⟩,⟨3,1,ids.map intC,true,true⟩,⟨194,2,((Hf ids c l x).map DRow.o).set x [.v (.int .i64 (LK ids c x).id),.ref 3],true,true⟩,⟨112,3,(LK ids c x).l.map DVal.c,true,true⟩]
 else [⟨194,2,[],true,true⟩,⟨3,1,ids.map intC,true,true⟩,⟨194,2,(Hf ids c l x).map DRow.o,true,true⟩]
theorem AAD {ids:List Int} {c:List (List DVal)} {l:List DVal} {x:Nat} (h:x<ids.length):AEm ids c l x = [⟨194,2,[],true,true⟩,⟨3,1,ids.map intC,true,true⟩,⟨194,2,((Hf ids c l x).map DRow.o).set x [.v (.int .i64 (LK ids c x).id),.ref 3],true,true⟩,⟨112,3,(LK ids c x).l.map DVal.c,true,true⟩]:=aV h
theorem AAE {ids:List Int} {c:List (List DVal)} {l:List DVal} {x:Nat} (h:¬ x<ids.length):AEm ids c l x = [⟨194,2,[],true,true⟩,⟨3,1,ids.map intC,true,true⟩,⟨194,2,(Hf ids c l x).map DRow.o,true,true⟩]:=aR h
theorem jh {n:Nat} {env:List (Nat×AV)} (ids:List Int) (c:List (List DVal)) (l:List DVal) (x:Nat) :
  Head ⟨n,env,[⟨194,2,[],true,true⟩,⟨3,1,ids.map intC,true,true⟩,⟨194,2,(Hf ids c l x).map DRow.o,true,true⟩]⟩ ⟨n,env,AEm ids c l x⟩:=by
 by_cases h:x<ids.length
 .rw[AAD h]
  exact Head.open' (s:=⟨n,env,[⟨194,2,[],true,true⟩,⟨3,1,ids.map intC,true,true⟩,⟨194,2,(Hf ids c l x).map DRow.o,true,true⟩]⟩) 2 x 1 (ob:=⟨194,2,(Hf ids c l x).map DRow.o,true,true⟩) (row:=DRow.o (LK ids c x)) rfl rfl
   (by simp only[nX,sN h,bi]) rfl rfl
 .rw[AAE h]
  exact⟨rfl,fun _ _ St β _ _ h=>⟨St,β,h⟩⟩
theorem AIi {N:Nat} {a b c:Ob} (ha:Aq N a=true) (hb:Aq N b=true) (hc:Aq N c=true) : [a,b,c].all (Aq N)=true:=by simp[ha,hb,hc]
theorem bu (cs:List Int) (b:List Int) (hb:Ai b) (hl:b.length<=1048576):Ctr prog 228 [.c (.sl (cs.map intC)),.c (.sl (b.map byteC))] (W9 (C_ cs b)):=by
 refine CM call228 func228 ntmps228 results228 fun hw=>?_;simp only[go_sem];have hg:=jI b 0 hb hl;rcases h1:FZ b 0 with _ | ⟨ids,q⟩<;>rw[h1] at hg<;>simp only[ZH] at hg
 .have e:C_ cs b=none:=by simp only[C_,h1]
  rw[e];refine AAO _ hg fun _=>?_;simp only[go_sem,W9];try exact AKg
 refine AAO _ hg fun _=>?_;obtain⟨n1,n2,n3⟩:=Uw hb h1;simp only[go_sem];refine AAO _ (QI _) fun _=>?_;rcases hc:FX cs with _ | _
 .have e:C_ cs b=none:=by simp only[C_,h1,hc]; rfl
  rw[e];simp only[go_sem,hc,W9];try exact AKg
 rcases h12:decide ((ids.length:Int)>12) with _ | _;rotate_left
 .have e:C_ cs b=none:=by simp only[C_,h1]; exact aR fun q=>by simp at h12; omega
  rw[e];simp only[go_sem,hc,h12,W9];try exact AKg
 have h12':ids.length<=12:=by simp at h12; omega
 have hcs3:cs.length<=3:=by simp only[FX,ar] at hc;have:=hc.2;simp[Ae] at this; omega
 have hall:C_ cs b=AEl cs b ids (GV b cs ids q):=by simp only[C_,h1]; exact aV ⟨hc,h12'⟩
 rw[hall];simp only[go_sem,hc,h12];refine AAv [39] (A:=Nat) (fun x=>[(11,.c (.v (.int .i64 (x)))),(10,.c (.ref 2))]) (fun x=>[⟨194,2,[],true,true⟩,⟨3,1,ids.map intC,true,true⟩,⟨194,2,((ids.take x).map fun n=>(⟨n,[]⟩:DRow)).map DRow.o,true,true⟩]) (fun x=>x<=ids.length) (fun x=>ids.length-x) 0 (AAS [(0,false),(1,false),(2,false)] ⟨rfl,rfl,rfl,CX _,rfl,trivial⟩ rfl) (aq _) ?_;rintro i hi;refine AOd (fun h=>?_) fun h=>?_
 .have hi':i<ids.length:=by simp at h; omega
  have hl2:i+1<=2147483648:=AOl;simp only[go_sem,AA _ hi',hi',hl2,aU,ZW hi,wrap_i64 (n:=(i:Int)+1) AOl AOl];have hnr:DR [[Cl.v (.int .i64 ids[i]),Cl.v (.slice none 0 0)]]=true:=rfl;simp only[go_sem,hnr,AA _ hi',hi',hl2,aU,ZW hi,wrap_i64 (n:=(i:Int)+1) AOl AOl];have hlen:(((ids.take i).map fun n=>(⟨n,[]⟩:DRow)).map DRow.o).length=i:=AOn
  refine⟨i+1,Head.trans (Head.nilI' 4 i 1 112 3 _ [.v (.int .i64 ids[i]),.v (.slice none 0 0)] (zs:=((ids.take i).map fun n=>(⟨n,[]⟩:DRow)).map DRow.o ++ [[.v (.int .i64 ids[i]),.ref 5]]) rfl ?row rfl ?set) (ABi [(0,false),(1,false),(4,true),(5,false)] 3 2 ⟨rfl,rfl,rfl,CX _,Ic DRow.o_nr _ _ rfl,rfl,trivial⟩
   ⟨i,((ids.take i).map fun n=>(⟨n,[]⟩:DRow)).map DRow.o ++ [DRow.o ⟨ids[i],[]⟩],[.v (.int .i64 ids[i]),.ref 3],DRow.o ⟨ids[i],[]⟩,_,⟨dD 2,rfl, ?rn,AOn,rfl⟩,
    ⟨rfl,rfl,rfl,rfl,rfl,rfl,rfl,AO4,fun l hl=>AO0⟩,⟨rfl, ?tr⟩, ?eq⟩),hi',AOl⟩
  case row=>simp only; rw[aS AOl,hlen]; simp
  case set=>simp only; rw[abn _ _ AOl,hlen]; simp
  case rn =>
   have:=Ib DRow.o_nr [(0,false),(1,false),(4,true),(5,false)] ((ids.take i).map fun n=>(⟨n,[]⟩:DRow)) [.v (.int .i64 ids[i]),.ref 5] (DRow.o ⟨ids[i],[]⟩)
   exact ANZ
  case tr =>
   unfold BJ
   have:=BM (f:=DRow.o) ((ids.take i).map fun n=>(⟨n,[]⟩:DRow)) ⟨ids[i],[]⟩
   rw[show ((ids.take i).map fun n=>(⟨n,[]⟩:DRow)).length=i from AOn] at this
   rw[this]
   exact AIi rfl (AX (AQ _)) (AX (Aj _))
  case eq =>
   exact ALe
 .have hi':i=ids.length:=by simp at h; omega
  subst hi';simp only[go_sem,aX];have e0:(ids.map fun n=>(⟨n,[]⟩:DRow))=rowsOf ids []:=(bW ids).symm;rw[e0];refine AAv [] (A:=Nat×Nat×List (List DVal)) (fun x=>[(12,.c (.v (.int .i64 (x.1)))),(8,.c (.v (.int .i64 ((x.2.1:Int)))))]) (fun x=>[⟨194,2,[],true,true⟩,⟨3,1,ids.map intC,true,true⟩,⟨194,2,(rowsOf ids x.2.2).map DRow.o,true,true⟩]) (fun x=>x.1<=cs.length/\x.2.2.length=x.1/\((∀ c∈x.2.2,c.length=ids.length)/\(∀ c∈x.2.2,∀ v∈c,v.s.size<=6))/\x.2.1<=b.length/\(ids = []->x=(0,q,[]))/\(ids≠ []->(Hq b ids.length (cs.drop x.1) x.2.1).map (fun y=>(x.2.2++y.1,y.2))=Hq b ids.length cs q)) (fun x=>cs.length-x.1) (0,q,[]) (AAS [(0,false),(1,false),(2,true)] ⟨rfl,rfl,rfl,CX _,D5 (Aj _),trivial⟩ ?h0) ⟨aq _,rfl,⟨AOm,AOm⟩,n1,fun _=>rfl,fun _=>AOm⟩ ?_
  case h0 =>
   show (⟨139,_,[_,_,⟨194,2,((rowsOf ids []).map DRow.o).map (fun x=>x.map (QT [(0,false),(1,false),(2,true)])),true,true⟩]⟩:MS)=_
   rw[Df (Aj _)]; rfl
  rintro⟨k,p,c⟩ ⟨hk,hck,⟨hcl,hsz⟩,hpb,hemp,hne⟩;dsimp only at hk hck hcl hsz hpb hemp hne;simp only[go_sem];rcases hk1:decide ((k:Int)<(cs.length:Int)) with _ | _
  .have hk':k=cs.length:=by simp at hk1; omega
   have hgc:GV b cs ids q=some (c,p):=by exact ALh
   rw[hgc];rcases hpl:((p:Int) != (b.length:Int)) with _ | _;rotate_left
   .have hno:¬ (p=b.length/\DD cs (rowsOf ids c)=true):=fun q=>by simp at hpl; omega
    rw[ZN hno];simp only[go_sem,hk1,hpl,W9];try exact AKg
   simp only[go_sem,hk1,hpl];refine ABh (args:=[.c (.sl (cs.map intC)),.c (.sl ((rowsOf ids c).map DRow.c))]) _ AO5 rfl (KD cs (rowsOf ids c) (by rw[D6]; omega)) fun _=>?_;rcases hok:DD cs (rowsOf ids c) with _ | _
   .have hno:¬ (p=b.length/\DD cs (rowsOf ids c)=true):=fun q=>by rw[hok] at q; cases q.2
    rw[ZN hno];simp only[go_sem,hok,W9];try exact AKg
   .have hyes:p=b.length/\DD cs (rowsOf ids c)=true:=⟨by simp at hpl; omega,hok⟩;rw[sU hyes];simp only[go_sem,hok,W9,Aj];try exact AIG
  have hk':k<cs.length:=APk;rcases hi0:decide ((ids.length:Int)>0) with _ | _
  .have hids:ids = []:=by apply aam;simp at hi0; simp[hi0]
   have hx:=hemp hids;simp only[bb] at hx;obtain⟨_,hp0,hc0⟩:=hx;have hgc:GV b cs ids q=some (c,p):=by rw[hc0,hp0]; exact aV hids
   rw[hgc];rcases hpl:((p:Int) != (b.length:Int)) with _ | _;rotate_left
   .have hno:¬ (p=b.length/\DD cs (rowsOf ids c)=true):=fun q=>by simp at hpl; omega
    rw[ZN hno];simp only[go_sem,hk1,hi0,hpl,W9];try exact AKg
   simp only[go_sem,hk1,hi0,hpl];refine ABh (args:=[.c (.sl (cs.map intC)),.c (.sl ((rowsOf ids c).map DRow.c))]) _ AO5 rfl (KD cs (rowsOf ids c) (by rw[D6]; omega)) fun _=>?_;rcases hok:DD cs (rowsOf ids c) with _ | _
   .have hno:¬ (p=b.length/\DD cs (rowsOf ids c)=true):=fun q=>by rw[hok] at q; cases q.2
    rw[ZN hno];simp only[go_sem,hok,W9];try exact AKg
   .have hyes:p=b.length/\DD cs (rowsOf ids c)=true:=⟨by simp at hpl; omega,hok⟩;rw[sU hyes];simp only[go_sem,hok,W9,Aj];try exact AIG
  have hids:ids≠ []:=by rintro rfl; simp at hi0
  have hn0:0<ids.length:=aa1.2 hids;have hne:=hne hids;have hgc:GV b cs ids q=Hq b ids.length cs q:=aR hids;rw[hgc];rw[Qg hk',Hq] at hne;simp only[go_sem,hk1,hi0];have hg2:=Gw b p hb hl;rcases h3:Bh b p with _ | ⟨m,p2⟩<;>rw[h3] at hg2 hne<;>simp only[WJ] at hg2
  .refine AAO _ hg2 fun _=>?_;simp only[W_] at hne;rw[<- hne,XO];simp only[go_sem,W9];try exact AKg
  refine AAO _ hg2 fun _=>?_;dsimp only at hne;obtain⟨_,z2,z3,z4,z5,_⟩:=IW hb h3;have hw1:IntKind.i64.wrap ((b.length:Int)-(p2:Int))=(b.length:Int)-(p2:Int):=wrap_i64 AOl AOl;simp only[go_sem,hw1];refine AAO _ (AP _ _ _) fun _=>?_;rcases h4:Ae m 0 ((b.length:Int)-(p2:Int)) with _ | _
  .rw[aR APp] at hne;simp only[W_] at hne;rw[<- hne,XO];simp only[go_sem,h4,W9];try exact AKg
  have h4':0<=m/\m<=(b.length:Int)-(p2:Int):=APp;rw[aV h4'] at hne;obtain⟨M,rfl⟩:=aF h4'.1;rw[aZ] at hne;have q1:=Io (k:=.i64) (n:=(p2:Int)) (m:=p2) AOl;have q2:=Io (k:=.i64) (n:=(p2:Int)+(M:Int)) (m:=p2+M) AOl;have q5:p2<=p2+M:=AOl;have q6:p2+M<=b.length:=AOl;have q7:p2+M-p2=M:=AOl;have hbd:Ai ((b.drop p2).take M):=TV hb _ _;have hdc:=nM ((b.drop p2).take M) cs[k] (ids.length:Int) hbd AOn;simp only[go_sem,h4];refine AAR ?_;simp only[go_sem,AA _ hk',q1,q2,q5,q6,q7,BU,<- bk,<- bf,wrap_i64 (n:=(p2:Int)+(M:Int)) AOl AOl];rcases h5:JS ((b.drop p2).take M) cs[k] (ids.length:Int) with _ | l<;>rw[h5] at hdc hne<;>simp only[Dx] at hdc
  .refine ABg _ hdc ?_;simp only[go_sem,AA _ hk',q1,q2,q5,q6,q7,BU,<- bk,<- bf,wrap_i64 (n:=(p2:Int)+(M:Int)) AOl AOl];simp only[W_] at hne;rw[<- hne,XO];simp only[go_sem,W9];try exact AKg
  refine ABg _ hdc ?_;simp only[go_sem,AA _ hk',q1,q2,q5,q6,q7,BU,<- bk,<- bf,wrap_i64 (n:=(p2:Int)+(M:Int)) AOl AOl];dsimp only at hne;obtain⟨y1,y2,y3⟩:=Xt hbd h5;have hll:l.length=ids.length:=AOl
  refine AAv [] (A:=Nat) (fun x=>[(18,.c (.v (.int .i64 (x))))]) (fun x=>AEm ids c l x) (fun x=>x<=ids.length) (fun x=>ids.length-x) 0 (Head.trans (AAS [(0,false),(1,false),(2,true)] ⟨rfl,rfl,rfl,CX _,D5 (Aj _),trivial⟩ (by
   show (⟨139,_,[_,_,⟨194,2,((rowsOf ids c).map DRow.o).map (fun x=>x.map (QT [(0,false),(1,false),(2,true)])),true,true⟩]⟩:MS)=_;rw[Df (Aj _),je]; rfl)) (jh ids c l 0)) (aq _) ?_
  rintro x hx;rcases bh x ids.length with hx' | hx'
  .have hdx:decide ((x:Int)<(ids.length:Int))=true:=by simpa using hx'
   have hxl:x<l.length:=AOl;have hgl:(Hf ids c l x).length=ids.length:=VW hx;have hrow:(((Hf ids c l x).map DRow.o).set x [.v (.int .i64 (LK ids c x).id),.ref 3])[x]?=some [.v (.int .i64 (LK ids c x).id),.ref 3]:=by rw[wu]; simp[hgl,hx']
   rw[AAD hx'];simp only[go_sem,hdx,AA _ hxl,hgl,hx',hrow,ak];have hal:(LK ids c x).l.length+1<=2147483648:=by simp only[LK,aa]; omega
   refine AAR ?_;simp only[go_sem,AA _ hxl,hgl,hx',hrow,ak,hal,wrap_i64 (n:=(x:Int)+1) AOl AOl];have hnx:(Hf ids c l (x+1)).map DRow.o=((Hf ids c l x).map DRow.o).set x (DRow.o (LK ids (c ++ [l]) x)):=by rw[<- sO hx',bn]
   have hrs:DRow.o (LK ids (c ++ [l]) x) = [.v (.int .i64 (LK ids c x).id),.ow 112 3 ((LK ids c x).l.map DVal.c ++ [l[x].c])]:=by rw[sJ hxl,<- G5]; rfl
   have hR:((Hf ids c l (x+1)).map DRow.o).set x [.v (.int .i64 (LK ids c x).id),.ow 112 3 ((LK ids c x).l.map DVal.c ++ [l[x].c])]=(Hf ids c l (x+1)).map DRow.o:=by rw[hnx,al,hrs]
   refine⟨x+1,Head.trans (ABi [(0,false),(1,false),(2,true),(5,false)] 3 2 ⟨rfl,rfl,rfl,CX _, ?inn,NQ _ _,trivial⟩
    ⟨x,(Hf ids c l (x+1)).map DRow.o,[.v (.int .i64 (LK ids c x).id),.ref 3],[.v (.int .i64 (LK ids c x).id),.ow 112 3 ((LK ids c x).l.map DVal.c ++ [l[x].c])],_,⟨dD 2,rfl, ?rn, ?len,rfl⟩,
     ⟨rfl,rfl,rfl,rfl,rfl,rfl, ?nr,AO4,fun l hl=>AO0⟩,⟨rfl, ?tr⟩, ?eq⟩) (jh ids c l (x+1)),hx',AOl⟩
   case inn =>
    show ((((Hf ids c l x).map DRow.o).set x [.v (.int .i64 (LK ids c x).id),.ref 3]).set x [.v (.int .i64 (LK ids c x).id),.ref 5]).all (fun x=>x.all (inC [(0,false),(1,false),(2,true),(5,false)]))=true
    exact ANT
   case rn =>
    show ((((Hf ids c l x).map DRow.o).set x [.v (.int .i64 (LK ids c x).id),.ref 3]).set x [.v (.int .i64 (LK ids c x).id),.ref 5]).map (fun x=>x.map (QT [(0,false),(1,false),(2,true),(5,false)]))=_
    rw[al,bn,Df (Aj _),hnx,al]
    rfl
   case len=>simp only[aa]; rw[VW AOl]; exact hx'
   case nr=>rw[<- G5]; exact Ce _
   case tr =>
    unfold BJ
    rw[hR]
    exact AIi rfl (AX (AQ _)) (AX (Aj _))
   case eq =>
    unfold BJ
    rw[hR]
    rfl
  .have hdx:decide ((x:Int)<(ids.length:Int))=false:=by simp; omega
   have hx':x=ids.length:=AOl;rw[AAE AOl];simp only[go_sem,hdx];subst hx';have hty:=jf h5;have hta:=Dt (l:=l) AOl;simp only[go_sem,sK,wrap_i64 (n:=(k:Int)+1) AOl AOl,wrap_i64 (n:=(p2:Int)+(M:Int)) AOl AOl]
   exact⟨(k+1,p2+M,c ++ [l]),AAS [(0,false),(1,false),(2,true)] ⟨rfl,rfl,rfl,CX _,D5 (Aj _),trivial⟩ (by
    show (⟨139,_,[_,_,⟨194,2,((rowsOf ids (c ++ [l])).map DRow.o).map (fun x=>x.map (QT [(0,false),(1,false),(2,true)])),true,true⟩]⟩:MS)=_
    rw[Df (Aj _)]; rfl),⟨hk',by simp[hck],⟨fun y hy=>by
     rcases yF.1 hy with hy | hy
     .exact hcl y hy
     .rw[aaX.1 hy]; exact hll,fun y hy v hv=>by
     rcases yF.1 hy with hy | hy
     .exact hsz y hy v hv
     .rw[aaX.1 hy] at hv; exact Uh (hta.2.2 v hv).1⟩,q6,fun q=>absurd q hids,fun _=>by
    rw[<- hne,aaT]; congr 1; funext y; simp⟩,AOp⟩
theorem RN (a b c:Int):Ctr prog 20 [.c (.v (.int .i64 a)),.c (.v (.int .i64 b)),.c (.v (.int .i64 c))] [.val (.c (.v (.bool (decide (a>=b)&&decide (a<=c)))))]:=by refine CM call20 func20 ntmps20 results20 fun hw=>?_;rcases h1:decide (a>=b) with _ | _<;>simp only[go_sem,h1]<;>simp only[ac,ah]
def came (n ts:Int):Bool:=decide (n>=1)&&decide (n<=ts)
theorem LM (n ts:Int):Ctr prog 161 [.c (.v (.int .i64 n)),.c (.v (.int .i64 ts))] [.val (.c (.v (.bool (came n ts))))]:=by refine CM call161 func161 ntmps161 results161 fun hw=>?_;simp only[go_sem];refine AAO _ (RN n 1 ts) fun _=>?_;simp only[go_sem,came]
theorem LP (n ts:Int):Ctr prog 202 [.c (.v (.int .i64 n)),.c (.v (.int .i64 ts))] [.val (.c (.v (.bool (came n ts))))]:=by refine CM call202 func202 ntmps202 results202 fun hw=>?_;rcases h1:decide (n>=1) with _ | _<;>simp only[go_sem,h1]<;>simp only[came,h1,ac,ah]
def UF (w:DWorld) (n:Int):Option DBuf:=if 0<=n then w.b[n.toNat]? else none
def QL (b:DBuf) (r:DRef):Bool:=(b.gen==r.gen)&&((b.kind==r.kind)&&((r.kind != 1)||((b.c0.l.length:Int)==r.many)))
def there (w:DWorld) (r:DRef):Bool:=match UF w r.buf with
 | none=>false
 | some b=>QL b r
theorem DZ (w:DWorld) (n:Int):(∃ (k:Nat) (h:k<w.b.length),n=k/\UF w n=some w.b[k])\/((n<0\/(w.b.length:Int)<=n)/\UF w n=none):=by
 unfold UF;by_cases h0:0<=n
 .obtain⟨k,rfl⟩:=aF h0;by_cases h1:k<w.b.length
  .exact .inl ⟨k,h1,rfl,by simp[h1]⟩
  .refine .inr ⟨.inr AOl, ?_⟩;simp only[h0,aO,aZ];exact jq AOl
 .exact .inr ⟨.inl AOl,by simp[h0]⟩
theorem Iy (w:DWorld) (r:DRef):Ctr prog 150 [.agg w.c,.agg r.c] [.val (.c (.v (.bool (there w r))))]:=by
 refine CM call150 func150 ntmps150 results150 fun hw=>?_;have hlenb:w.b.length<=9223372036854775807:=by have:=hw.1.2.2.2.2.2.2.2.2.1.1; simpa [Go.maxLen] using this
 simp only[go_sem,aa];try refine AAP ?_
 try simp only[go_sem,aa]
 first | refine AAt _ (RN r.buf 0 _) ?_ | refine AAO _ (RN r.buf 0 _) fun _=>?_
 simp only[go_sem,aa];rw[wrap_i64 (n:=(w.b.length:Int)-1) AOl AOl];rcases DZ w r.buf with ⟨k,hk,hb,hat⟩ | ⟨hb,hat⟩
 .have e0:decide ((k:Int)>=0)=true:=by simp
  have e1:decide ((k:Int)<=(w.b.length:Int)-1)=true:=AOn;have hth:there w r=QL w.b[k] r:=by simp only[there,hat]
  rw[hth]
  rcases h1:w.b[k].gen != r.gen with _ | _<;>rcases h2:w.b[k].kind != r.kind with _ | _<;>rcases h3:r.kind != 1 with _ | _ <;>
   simp only[go_sem,aa,hb,e0,e1,AA _ hk,hk,h1,h2,h3] <;>
   simp only[bne_iff_ne,bne_eq_false_iff_eq,ne_eq,aa8,beq_eq_false_iff_ne] at h1 h2 h3 <;>
   first | (simp[QL,h1,h2,h3]; done) | (simp[QL,h1,h2,h3]; intro hh; exact absurd (hh.trans h3.symm) h2)
 .have e1:(decide (r.buf>=0)&&decide (r.buf<=(w.b.length:Int)-1))=false:=by
   rw[Bool.and_eq_false_iff];by_cases h0:0<=r.buf
   .right; simp; omega
   .left; simp; omega
  have hth:there w r=false:=by simp only[there,hat]
  simp only[go_sem,aa,e1,hth]
theorem Cf (w:DWorld) (r:DRef):Ctr prog 183 [.agg w.c,.agg r.c] [.val (.c (.v (.bool (there w r))))]:=by
 refine CM call183 func183 ntmps183 results183 fun hw=>?_;rcases DZ w r.buf with ⟨k,hk,hb,hat⟩ | ⟨hb,hat⟩
 .have e1:decide (r.buf<0)=false:=by rw[hb]; simp
  have e2:decide ((k:Int)>=w.b.length)=false:=AOn;have e3:decide ((k:Int)<0)=false:=AOm;have hth:there w r=QL w.b[k] r:=by simp only[there,hat]
  rw[hth]
  rcases h1:w.b[k].gen==r.gen with _ | _<;>rcases h2:w.b[k].kind==r.kind with _ | _<;>rcases h3:r.kind != 1 with _ | _ <;>
   simp only[go_sem,aa,hb,e2,e3,AA _ hk,hk,h1,h2,h3] <;>
   simp only[QL,h1,h2,h3,ah,ac,P7,be]
 .have hth:there w r=false:=by simp only[there,hat]
  rcases h0:decide (r.buf<0) with _ | _
  .have e2:decide (r.buf>=(w.b.length:Int))=true:=by simp at h0 ⊢; omega
   simp only[go_sem,aa,h0,e2,hth]
  .simp only[go_sem,aa,h0,hth]
def Gp:DChunk:=⟨0,[]⟩
def BO (w:DWorld) (r:DRef):DChunk×Bool:=match UF w r.buf with
 | none=>(Gp,false)
 | some b=>if(r.kind==1&&QL b r)=true then(b.c0,true) else(Gp,false)
theorem Ja (w:DWorld) (r:DRef):Ctr prog 110 [.agg w.c,.agg r.c] [.val (.agg (BO w r).1.c),.val (.c (.v (.bool (BO w r).2)))]:=by
 refine CM call110 func110 ntmps110 results110 fun hw=>?_;rcases h1:r.kind != 1 with _ | _
 .have hk1:(r.kind==1)=true:=by simpa using h1
  simp only[go_sem,h1];try refine AAP ?_
  try simp only[go_sem,h1]
  first | refine CY (Cf w r) ?_ | refine CW (Cf w r) fun _=>?_
  rcases h2:there w r with _ | _
  .have hc:BO w r=(Gp,false):=by
    unfold BO;unfold there at h2;split
    .rfl
    .rename_i b hb;simp only[hb] at h2;simp[h2]
   simp only[go_sem,h1,h2,hc,Gp,ap]
  .obtain⟨k,hk,hb,hat⟩ | ⟨hb,hat⟩:=DZ w r.buf
   .have hc:BO w r=(w.b[k].c0,true):=by unfold BO;simp only[there,hat] at h2;simp[hat,h2,hk1]
    simp only[go_sem,h1,h2,hb,AA _ hk,hk,hc]
   .exact AOa
 .have hk1:(r.kind==1)=false:=by simpa using h1
  have hc:BO w r=(Gp,false):=by
   unfold BO;split
   .rfl
   .simp[hk1]
  simp only[go_sem,h1,hc,Gp,ap];try refine AAP ?_
  try simp only[go_sem,h1,hc,Gp,ap]
def KF (c:DChunk) (ts:Int):Bool:=(c.l.all fun x=>came x.ins ts)&&(c.next==(c.l.length:Int))
theorem sV {c:DChunk} {ts:Int} {k:Nat} (hk:k<c.l.length) (h:came c.l[k].ins ts=false):KF c ts=false:=by unfold KF;rw[Bool.and_eq_false_iff];left;rw[abk];intro h2;have:=aC.1 h2 _ (an hk);rw[h] at this; cases this
theorem ji {c:DChunk} {ts:Int} (h:∀ i (hi:i<c.l.length),came c.l[i].ins ts=true):KF c ts=(c.next==(c.l.length:Int)):=by
 unfold KF;have:(c.l.all fun x=>came x.ins ts)=true:=aC.2 fun x hx=>by obtain⟨i,hi,rfl⟩:=abt.1 hx;exact h i hi
 rw[this,ah]
theorem RP (c:DChunk) (ts:Int) (hl:c.l.length<=1048576):Ctr prog 112 [.agg c.c,.c (.v (.int .i64 (ts)))] [.val (.c (.v (.bool (KF c ts))))]:=by
 refine CM call112 func112 ntmps112 results112 fun hw=>?_;simp only[go_sem];refine AAe 1 (A:=Nat) (fun x=>[(10,.c (.v (.int .i64 (x))))]) (fun _=>[⟨143,2,[c.c],true,true⟩]) (fun x=>x<=c.l.length/\∀ i (h:i<c.l.length),i<x->came c.l[i].ins ts=true) (fun x=>c.l.length-x) 0 ⟨⟨rfl,rfl⟩,rfl,aq _,fun i h h2=>AOl⟩ ?_;rintro k ⟨hk,hall⟩;refine AOd (fun h=>?_) fun h=>?_
 .have hk':k<c.l.length:=by simpa using h
  simp only[go_sem,AA _ hk',hk'];try refine AAP ?_
  try simp only[go_sem,AA _ hk',hk']
  first | refine AAt _ (LP c.l[k].ins ts) ?_ | refine AAO _ (LP c.l[k].ins ts) fun _=>?_
  exact ALF
 .have hk':k=c.l.length:=by simp at h; omega
  subst hk';rw[ji fun i hi=>hall i hi hi];exact AJC
theorem YT (c:DChunk) (ts:Int) (hl:c.l.length<=1048576):Ctr prog 75 [.agg c.c,.c (.v (.int .i64 (ts)))] [.val (.c (.v (.bool (KF c ts))))]:=by
 refine CM call75 func75 ntmps75 results75 fun hw=>?_;simp only[go_sem];refine AAe 1 (A:=Nat) (fun x=>[(5,.c (.v (.int .i64 (x))))]) (fun _=>[⟨143,2,[c.c],true,true⟩]) (fun x=>x<=c.l.length/\∀ i (h:i<c.l.length),i<x->came c.l[i].ins ts=true) (fun x=>c.l.length-x) 0 ⟨⟨rfl,rfl⟩,rfl,aq _,fun i h h2=>AOl⟩ ?_;rintro k ⟨hk,hall⟩;refine AOd (fun h=>?_) fun h=>?_
 .have hk':k<c.l.length:=by simpa using h
  simp only[go_sem,AA _ hk',hk'];try refine AAP ?_
  try simp only[go_sem,AA _ hk',hk']
  first | refine AAt _ (LM c.l[k].ins ts) ?_ | refine AAO _ (LM c.l[k].ins ts) fun _=>?_
  exact ALF
 .have hk':k=c.l.length:=by simp at h; omega
  subst hk';rw[ji fun i hi=>hall i hi hi];exact AJC
noncomputable def Dc (w:DWorld) (r:DRef):List DRow:=match UF w r.buf with
 | none=>[]
 | some b=>(C_ w.c0.cols b.g).getD []
theorem Iz {l:List Int} (h:kE (l.map byteC)):Ai l:=fun n hn=>by have h1:=ZY h _ (jB.2 ⟨n,hn,rfl⟩);have h2:Qv (.int .u8 n)=true:=h1.1;simp[Qv,Lit.wf,isByte,IntKind.min,IntKind.max,IntKind.bits,IntKind.signed] at h2 ⊢;omega
theorem KG:∀ (a b:List Cl),Xa (a++b)->Xa a/\Xa b
 | [],b,h=>⟨trivial,h⟩
 | c::a,b,h=>⟨⟨h.1,(KG a b h.2).1⟩,(KG a b h.2).2⟩
theorem TL {w:DWorld} {k:Nat} (h:Xa w.c) (hk:k<w.b.length):Ai w.b[k].g:=by rw[DWorld.c_eq] at h;have h1:=(KG _ _ (KG _ _ (KG _ _ (KG _ _ (KG _ _ (KG _ _ h).2).2).2).2).2).1.1;simp only[uO] at h1;have h2:=ZY h1.2 _ (jB.2 ⟨w.b[k],an hk,rfl⟩);rw[DBuf.c_eq] at h2;have h3:=(KG _ _ (KG _ _ (KG _ _ h2).2).2).2.1;simp only[uO] at h3;exact Iz h3.2
theorem Jh {w:DWorld} (hf:AU w) {k:Nat} (hk:k<w.b.length):FD w.b[k].c0/\w.b[k].g.length<=1048576:=by rw[AZ] at hf;have:=hf.2.2.1.2 _ (an hk);rw[GR] at this;exact this
theorem AAF (x:Option (List DRow)):(W9 x).map oK = [.val (.c (.sl ((x.getD []).map DRow.c))),.val (.c (.v (.bool (x.isSome))))]:=by
 cases x with
 | none=>rfl
 | some l =>
  simp only[W9,ao,ap,oK,D8]
  rfl
theorem bz (cs:List Int) (b:List Int) (hb:Ai b) (hl:b.length<=1048576):Ctr prog 228 [.c (.sl (cs.map intC)),.c (.sl (b.map byteC))] [.val (.c (.sl (((C_ cs b).getD []).map DRow.c))),.val (.c (.v (.bool ((C_ cs b).isSome))))]:=by rw[<- AAF]; exact(bu cs b hb hl).frz
theorem Ui (cs:List Int) (b:List Int) (hb:Ai b) (hl:b.length<=1048576):Ctr prog 250 [.c (.sl (cs.map intC)),.c (.sl (b.map byteC))] [.val (.c (.sl (((C_ cs b).getD []).map DRow.c))),.val (.c (.v (.bool ((C_ cs b).isSome))))]:=by rw[<- AAF]; exact(RJ cs b hb hl).frz
theorem LQ (w:DWorld) (r:DRef) {k:Nat} (hf:AU w) (hk:k<w.b.length) (hb:r.buf=(k:Int)):Ctr prog 151 [.agg w.c,.agg r.c] [.val (.c (.sl ((Dc w r).map DRow.c)))]:=by
 refine CM call151 func151 ntmps151 results151 fun hw=>?_;have hbo:=TL hw.1 hk;have hg:Dc w r=(C_ w.c0.cols w.b[k].g).getD []:=by simp only[Dc,UF,hb]; simp[hk]
 simp only[go_sem,hb,AA _ hk,hk];refine AAP ?_;simp only[go_sem,hb,AA _ hk,hk];refine AAt _ (bz w.c0.cols w.b[k].g hbo (Jh hf hk).2) ?_;simp only[go_sem,hg]
theorem IL (w:DWorld) (r:DRef) (hf:AU w):Ctr prog 184 [.agg w.c,.agg r.c] [.val (.c (.sl ((if(r.kind==2&&there w r)=true then Dc w r else []).map DRow.c)))]:=by
 refine CM call184 func184 ntmps184 results184 fun hw=>?_;rcases h1:r.kind != 2 with _ | _
 .have hk1:(r.kind==2)=true:=by simpa using h1
  simp only[go_sem,h1,hk1,ah];try refine AAP ?_
  try simp only[go_sem,h1]
  first | refine CY (Cf w r) ?_ | refine CW (Cf w r) fun _=>?_
  rcases h2:there w r with _ | _
  .simp only[go_sem,h1,h2]
  .obtain⟨k,hk,hb,hat⟩ | ⟨hb,hat⟩:=DZ w r.buf
   .have hbo:=TL hw.1 hk;have hg:Dc w r=(C_ w.c0.cols w.b[k].g).getD []:=by simp only[Dc,hat]
    simp only[go_sem,h1,h2,hb,AA _ hk,hk];try refine AAP ?_
    try simp only[go_sem,h1,h2,hb,AA _ hk,hk]
    first | refine AAt _ (Ui w.c0.cols w.b[k].g hbo (Jh hf hk).2) ?_ | refine AAO _ (Ui w.c0.cols w.b[k].g hbo (Jh hf hk).2) fun _=>?_
    simp only[go_sem,hg]
   .exact AOa
 .have hk1:(r.kind==2)=false:=by simpa using h1
  simp only[go_sem,h1,hk1,ac];try refine AAP ?_
  try simp only[go_sem,h1,hk1]
  trace_state
theorem ABS (l:List DRow) (hl:l.length<=1048576):Ctr prog 240 [.c (.sl (l.map DRow.c))] [.own 3 1 ((l.map DRow.id).map intC) true]:=by
 refine CM call240 func240 ntmps240 results240 fun hw=>?_;simp only[go_sem];refine AAv [5] (A:=Nat) (fun x=>[(4,.c (.v (.int .i64 (x)))),(3,.c (.ref 0))]) (fun x=>[⟨3,1,((l.take x).map DRow.id).map intC,true,true⟩]) (fun x=>x<=l.length) (fun x=>l.length-x) 0 (AAS [(0,false)] ⟨rfl,rfl,rfl,trivial⟩ rfl) (aq _) ?_;rintro i hi;refine AOd (fun h=>?_) fun h=>?_
 .have hi':i<l.length:=by simp at h; omega
  have hl2:i+1<=2147483648:=AOl;simp only[go_sem,AA _ hi',hl2,aU,ZW hi,wrap_i64 (n:=(i:Int)+1) AOl AOl];exact AM8
 .have hi':i=l.length:=by simp at h; omega
  subst hi';simp only[go_sem,aX];try simp
theorem jA (b:List Int) (l:List Int) (hl:l.length<=100000) (hb:b.length<=100000) (hn:∀ n∈l,EE n=true):Ctr prog 239 [.c (.sl (b.map byteC)),.c (.sl (l.map intC))] [.own 5 1 ((b++JM l).map byteC) true]:=by
 refine CM call239 func239 ntmps239 results239 fun hw=>?_;simp only[go_sem];refine AAO _ (Gz b _ AOl) fun _=>?_;rw[Ip (by simp[EE,Ae]; omega)];simp only[go_sem];have hq:=Di (l.length:Int);refine AAv [10] (A:=Nat) (fun x=>[(6,.c (.v (.int .i64 (x)))),(5,.c (.ref 0))]) (fun x=>[⟨5,1,(b++Ey l.length++((l.take x).map Ey).flatten).map byteC,true,true⟩]) (fun x=>x<=l.length) (fun x=>l.length-x) 0 (AAS [(0,false)] ⟨rfl,rfl,EI _,trivial⟩ (by simp; rfl)) (aq _) ?_;rintro i hi;refine AOd (fun h=>?_) fun h=>?_
 .have hi':i<l.length:=by simp at h; omega
  have hok:=hn _ (an hi');have hq2:=NW (l.take i);rw[aU] at hq2;simp only[go_sem,AA _ hi'];refine AAO _ (JD _) fun _=>?_;simp only[go_sem,AA _ hi',hok,EI];refine AAO _ (Gz _ _ APK) fun _=>?_;exact AL0
 .have hi':i=l.length:=by simp at h; omega
  subst hi';simp only[go_sem,CQ,JM,aX,ba];try simp
theorem RQ (cs:List Int) (l:List DRow) (hl:fitS Dn l):Ctr prog 168 [.c (.sl (cs.map intC)),.c (.sl (l.map DRow.c))] [.own 5 1 ((Au cs l).map byteC) true]:=by
 refine CM call168 func168 ntmps168 results168 fun hw=>?_;simp only[go_sem];refine AAO _ (KD cs l (by have:=hl.1; omega)) fun _=>?_;rcases h1:DD cs l with _ | _
 .have e:Au cs l = []:=aR (by rw[h1]; simp);rw[e];simp only[go_sem];try simp
 obtain⟨f1,f2,f3⟩:=IU h1;rw[RI h1];simp only[go_sem];refine AAO _ (ABS l hl.1) fun _=>?_;simp only[go_sem]
 refine AAO _ (jA [] (l.map DRow.id) AOn AOm fun n hn=>by
  obtain⟨r,hr,rfl⟩:=jB.1 hn;exact(Du _).2 ⟨by have:=(f3 r hr).1; omega,(f3 r hr).2.1⟩) fun _=>?_
 rw[aA];simp only[go_sem];have hnl:=NW (l.map DRow.id);have hnb:=Di ((l.map DRow.id).length:Int);have hnl2:(JM (l.map DRow.id)).length<=65:=by exact AOY
 have hG:∀ k,(Iw l k).length<=1006*k:=fun k=>by exact AMS
 have hfin:JM (l.map DRow.id)++(if l = [] then [] else((List.range cs.length).map fun(k:Nat)=>WA (Ha l (k:Int))).flatten)=JM (l.map DRow.id)++Iw l cs.length:=rfl;rw[hfin];refine AAv [13,15,16] (A:=Nat) (fun x=>[(6,.c (.v (.int .i64 (x)))),(5,.c (.ref 0))]) (fun x=>[⟨5,1,(JM (l.map DRow.id)++Iw l x).map byteC,true,true⟩]) (fun x=>x<=cs.length) (fun x=>cs.length-x) 0 (AAS [(2,false)] ⟨rfl,rfl,EI _,trivial⟩ (by rw[bV,bc]; rfl)) (aq _) ?_;rintro k hk;rcases h3:decide ((k:Int)<(cs.length:Int)) with _ | _
 .have hk':k=cs.length:=by simp at h3; omega
  subst hk';simp only[go_sem,h3];try simp
 have hk':k<cs.length:=AO7;have hGk:=hG k;rcases h2:decide ((l.length:Int)>0) with _ | _
 .have h2':l = []:=by apply aam;simp at h2; simp[h2]
  have hs:∀ k,Iw l k = []:=fun k=>by unfold Iw; rw[aV h2']
  simp only[go_sem,h2,h3,hs];try simp
 have h2':l≠ []:=by rintro rfl; simp at h2
 have hcl:(Ha l (k:Int)).length<=l.length:=aa2 _ _;have hel:=Ug (Ha l (k:Int));have hs:Iw l (k+1)=Iw l k++(Ey (A8 (Ha l (k:Int))).length++A8 (Ha l (k:Int))):=by exact AN3
 simp only[go_sem,h2,h3];refine AAO _ (qV l (k:Int) hl.big) fun _=>?_;simp only[go_sem];refine AAO _ (KC (Ha l (k:Int)) AOl) fun _=>?_;simp only[go_sem];refine AAO _ (Gz _ _ APK) fun _=>?_;exact AKc
