/- A part. -/
import Derived.Test.YtdagmocgcanknaaGreatYg
set_option linter.unusedSimpArgs false
set_option linter.unusedVariables false
set_option maxHeartbeats 2000000
set_option maxRecDepth 10000
open Go.Proofs.Tryz
namespace Go.Proofs.YtdagmocgcanknaaGreat
open Go.Vm
def Fj (r:DVal×Int):List Cl:=[.v (.int .i64 r.1.ty),.v (.int .i64 r.1.n),.v (.string r.1.s),.v (.int .i64 r.2)]
theorem ACO (r:DVal×Int):DK (Fj r)=true:=rfl
theorem La (l:List (DVal×Int)):GL (l.map Fj)=true:=AY ACO
def OL:List (DVal×Int)->DVal->List (DVal×Int)
 | [],v=>[(v,1)]
 | [x],v=>if N7 x.1 v=true then [(x.1,x.2+1)] else [x,(v,1)]
 | x::y::r,v=>x::OL (y::r) v
theorem AFz (r:List (DVal×Int)) (v:DVal):OL r v≠ []:=by
 cases r with
 | nil=>simp[OL]
 | cons x r =>
  cases r with
  | nil=>simp only[OL]; split<;>simp
  | cons y r=>simp[OL]
theorem AEN {l:List DVal} (h:runs l = []):l = []:=by
 cases l with
 | nil=>rfl
 | cons v l =>
  rw[runs] at h
  split at h
  .cases h
  .split at h<;>cases h
theorem Tj (v:DVal) (l:List DVal):runs (v::l)=match runs l with
  | []=>[(v,1)]
  | (x,k)::r=>if N7 v x=true then(x,k+1)::r else(v,1)::(x,k)::r:=by rw[runs]; rfl
theorem Tm (v:DVal):∀ l:List DVal,runs (l ++ [v])=OL (runs l) v
 | []=>rfl
 | a::l=>by
  have ih:=Tm v l;rw[aJ,Tj,Tj,ih];cases hr:runs l with
  | nil =>
   have:=AEN hr
   subst this
   simp only[OL]
   by_cases h:N7 a v=true
   .have:=(Lp a v).1 h
    subst this
    simp[h]
   .simp[h]
  | cons y r =>
   obtain⟨x,k⟩:=y
   cases r with
   | nil =>
    simp only[OL]
    by_cases h:N7 x v=true<;>by_cases h2:N7 a x=true<;>simp[h,h2,OL]
   | cons z r =>
    rw[OL]
    dsimp only
    by_cases h2:N7 a x=true
    .rw[aV h2,aV h2,OL]
    .rw[aR h2,aR h2,OL,OL]
theorem pW (v:DVal):∀ {rs:List (DVal×Int)} {n:Nat} (h:rs.length=n+1),OL rs v=if N7 (rs[n]' AOl).1 v=true then rs.set n ((rs[n]' AOl).1,(rs[n]' AOl).2+1) else rs ++ [(v,1)]
 | [],_,h=>APN
 | [x],n,h=>by
  have:n=0:=by simpa using h.symm
  subst this;simp only[OL,abw];rfl
 | x::y::r,n,h=>by obtain⟨m,rfl⟩:∃ m,n=m+1:=⟨n-1,AO1⟩;rw[OL,pW v (rs:=y::r) (n:=m) APO];simp only[abx,List.set_cons_succ,aJ];split<;>rfl
theorem lH (v:DVal):∀ (rs:List (DVal×Int)),∃ q,(OL rs v).getLast?=some (v,q)
 | []=>⟨1,rfl⟩
 | [x]=>by
  simp only[OL];split
  .rename_i h;exact⟨x.2+1,by rw[(Lp _ _).1 h]; rfl⟩
  .exact⟨1,rfl⟩
 | x::y::r=>by obtain⟨q,hq⟩:=lH v (y::r);refine⟨q, ?_⟩;rw[OL,List.getLast?_cons,hq]; rfl
theorem MI:∀ {l:List DVal} {r:DVal×Int},r∈runs l->r.1∈l/\1<=r.2/\r.2<=l.length
 | [],_,h=>AP8
 | v::l,r,h=>by
  rw[Tj] at h;have ih:=fun r=>MI (l:=l) (r:=r);cases hr:runs l with
  | nil =>
   simp only[hr,aaX] at h
   subst h
   simp only[TM,ag]
   exact⟨.inl trivial,AOl,AOl⟩
  | cons y q =>
   obtain⟨x,k⟩:=y
   rw[hr] at h ih
   dsimp only at h
   split at h
   .rcases TM.1 h with rfl | h
    .obtain⟨a1,a2,a3⟩:=ih (x,k) AOm
     simp only[TM,ag] at *
     exact⟨.inr a1,AOl,AOl⟩
    .obtain⟨a1,a2,a3⟩:=ih r (by simp[h])
     simp only[TM,ag]
     exact⟨.inr a1,AOl,AOl⟩
   .rcases TM.1 h with rfl | h
    .simp only[TM,ag]
     exact⟨.inl trivial,AOl,AOl⟩
    .obtain⟨a1,a2,a3⟩:=ih r h
     simp only[TM,ag]
     exact⟨.inr a1,AOl,AOl⟩
theorem Pq:∀ l:List DVal,(runs l).length<=l.length
 | []=>aG _
 | v::l=>by
  have:=Pq l;rw[Tj];split
  .simp
  .rename_i x k r h;rw[h] at this;simp only[ag] at this ⊢;split<;>simp<;>omega
theorem take_snoc {α:Type} {l:List α} {i:Nat} (h:i<l.length):l.take (i+1)=l.take i ++ [l[i]]:=aap h
theorem gB (rs:List (DVal×Int)) (v:DVal):(rs ++ [(v,1)]).map Fj=rs.map Fj ++ [[.v (.int .i64 v.ty),.v (.int .i64 v.n),.v (.string v.s),.v (.int .i64 1)]]:=by simp[Fj]
theorem wB (rs:List (DVal×Int)) (v:DVal):GL (rs.map Fj ++ [[.v (.int .i64 v.ty),.v (.int .i64 v.n),.v (.string v.s),.v (.int .i64 1)]])=true:=by rw[<- gB]; exact La _
theorem pX (rs:List (DVal×Int)) (n:Nat) (v:DVal) (k:Int):(rs.set n (v,k)).map Fj=(rs.map Fj).set n [.v (.int .i64 v.ty),.v (.int .i64 v.n),.v (.string v.s),.v (.int .i64 k)]:=by rw[bn]; rfl
theorem AA0 (rs:List (DVal×Int)) (n:Nat) (v:DVal) (k:Int):GL ((rs.map Fj).set n [.v (.int .i64 v.ty),.v (.int .i64 v.n),.v (.string v.s),.v (.int .i64 k)])=true:=by rw[<- pX]; exact La _
theorem lI {l:List DVal} {j:Nat} (hj:j<l.length):∃ (n:Nat) (h:(runs (l.take (j+1))).length=n+1),((runs (l.take (j+1)))[n]' AOl).1=l[j]:=by
 have hs:runs (l.take (j+1))=OL (runs (l.take j)) l[j]:=by rw[take_snoc hj,Tm]
 obtain⟨q,hq⟩:=lH l[j] (runs (l.take j));rw[<- hs] at hq;have hne:runs (l.take (j+1))≠ []:=by rw[hs]; exact AFz _ _
 have hlen:0<(runs (l.take (j+1))).length:=aa1.2 hne;refine⟨(runs (l.take (j+1))).length-1,AOl, ?_⟩;rw[List.getLast?_eq_getElem?,am AOl] at hq;rw[uG hq]
theorem zI (l:List DVal) (hl:l.length<=1048576):Ctr prog 353 [.c (.sl (l.map DVal.c))] [.val (.c (.sl ((runs l).map Fj)))]:=by
 refine CM call353 func353 ntmps353 results353 fun hw=>?_;simp only[go_sem];refine AAv [6] (A:=Nat) (fun x=>[(9,.c (.v (.int .i64 (x)))),(3,.c (.ref 0))]) (fun x=>[⟨292,4,(runs (l.take x)).map Fj,true,true⟩]) (fun x=>x<=l.length) (fun x=>l.length-x) 0 (AAS [(0,false)] ⟨rfl,rfl,rfl,trivial⟩ rfl) (aq _) ?_;rintro i hi;refine AOd (fun h=>?_) fun h=>?_
 .have hi':i<l.length:=by simp at h; omega
  have hs:runs (l.take (i+1))=OL (runs (l.take i)) l[i]:=by rw[take_snoc hi',Tm]
  have hrl:=Pq (l.take i);rw[aU] at hrl;have hl2:(runs (l.take i)).length+1<=2147483648:=AOl;rcases h2:decide ((i:Int)>0) with _ | _
  .have h2':i=0:=by simp at h2; omega
   subst h2';have hs2:runs (l.take (0+1)) = [(l[0],1)]:=by rw[hs]; rfl
   have hs3:(runs ([]:List DVal)).map Fj = []:=rfl;have hs4:(runs ([]:List DVal)).length=0:=rfl;simp only[go_sem,AA _ hi'];refine AAP ?_;simp only[go_sem,h2,La,hs4,aq,wrap_i64 (n:=((0:Nat):Int)+1) AOl AOl];exact⟨0+1,AAS [(3,false)] ⟨rfl,rfl,rfl,trivial⟩ (by rw[hs2]; rfl),hi',AOl⟩
  .have h2':0<i:=by simpa using h2
   obtain⟨j,rfl⟩:∃ j,i=j+1:=⟨i-1,AOl⟩;have hj:j<l.length:=AOl;have hw1:IntKind.i64.wrap (((j+1:Nat):Int)-1)=(j:Int):=by rw[show (((j+1:Nat):Int)-1)=(j:Int) from AOl]; exact wrap_i64 AOl AOl
   have e1:(l[j].ty==l[j+1].ty&&(l[j].n==l[j+1].n&&l[j].s.toList==l[j+1].s.toList))=N7 l[j] l[j+1]:=rfl;obtain⟨n,hn,hn2⟩:=lI hj;have hn3:n<(runs (l.take (j+1))).length:=AOl;rw[pW l[j+1] hn,hn2] at hs;simp only[go_sem,AA _ hi'];refine AAP ?_;simp only[go_sem,h2,hw1,AA _ hj,EW,IZ,e1];rcases h3:N7 l[j] l[j+1] with _ | _
   .rw[h3,aR AOm] at hs;simp only[go_sem,h3,hl2,La,wrap_i64 (n:=((j+1:Nat):Int)+1) AOl AOl];exact⟨j+1+1,AAS [(3,false)] ⟨rfl,rfl,wB _ _,trivial⟩ (by rw[hs,gB]; rfl),hi',AOl⟩
   .rw[h3,aV rfl] at hs;have hw2:IntKind.i64.wrap (((runs (l.take (j+1))).length:Int)-1)=(n:Int):=by rw[show (((runs (l.take (j+1))).length:Int)-1)=(n:Int) from AOl]; exact wrap_i64 AOl AOl
    obtain⟨b1,b2,b3⟩:=MI (an hn3);rw[aU] at b3;simp only[go_sem,h3,hw2,hn3,AA _ hn3,Fj,La,hn2,wrap_i64 (n:=(runs (l.take (j+1)))[n].2+1) AOl AOl,wrap_i64 (n:=((j+1:Nat):Int)+1) AOl AOl];exact ANX
 .have hi':i=l.length:=by simp at h; omega
  subst hi';simp only[go_sem,aX,La];try exact AIG
theorem zJ (l:List DVal) (hl:l.length<=1048576):Ctr prog 338 [.c (.sl (l.map DVal.c))] [.val (.c (.sl ((runs l).map Fj)))]:=by
 refine CM call338 func338 ntmps338 results338 fun hw=>?_;simp only[go_sem];refine AAv [6] (A:=Nat) (fun x=>[(4,.c (.v (.int .i64 (x)))),(3,.c (.ref 0))]) (fun x=>[⟨292,4,(runs (l.take x)).map Fj,true,true⟩]) (fun x=>x<=l.length) (fun x=>l.length-x) 0 (AAS [(0,false)] ⟨rfl,rfl,rfl,trivial⟩ rfl) (aq _) ?_;rintro i hi;refine AOd (fun h=>?_) fun h=>?_
 .have hi':i<l.length:=by simp at h; omega
  have hs:runs (l.take (i+1))=OL (runs (l.take i)) l[i]:=by rw[take_snoc hi',Tm]
  have hrl:=Pq (l.take i);rw[aU] at hrl;have hl2:(runs (l.take i)).length+1<=2147483648:=AOl;rcases i with _ | j
  .have h2:decide ((0:Int)>0)=false:=by decide
   have hs2:runs (l.take (0+1)) = [(l[0],1)]:=by rw[hs]; rfl
   have hs4:(runs ([]:List DVal)).length=0:=rfl;simp only[go_sem,abi,hs4,Int.ofNat_zero,abH];refine AAP ?_;simp only[go_sem,abi,hs4,h2,Int.ofNat_zero,abH,AA _ hi',La,aq,wrap_i64 (n:=(0:Int)+1) AOl AOl];exact⟨0+1,AAS [(2,false)] ⟨rfl,rfl,rfl,trivial⟩ (by rw[hs2]; rfl),hi',AOl⟩
  .have hj:j<l.length:=by omega
   obtain⟨n,hn,hn2⟩:=lI hj;have hn3:n<(runs (l.take (j+1))).length:=AOl;rw[pW l[j+1] hn,hn2] at hs;have h2:decide (((runs (l.take (j+1))).length:Int)>0)=true:=by rw[aQ]; omega
   have hw2:IntKind.i64.wrap (((runs (l.take (j+1))).length:Int)-1)=(n:Int):=by rw[show (((runs (l.take (j+1))).length:Int)-1)=(n:Int) from AOl]; exact wrap_i64 AOl AOl
   have e1:(l[j].ty==l[j+1].ty&&(l[j].n==l[j+1].n&&l[j].s.toList==l[j+1].s.toList))=N7 l[j] l[j+1]:=rfl;simp only[go_sem];refine AAP ?_;simp only[go_sem,h2,hw2,hn3,AA _ hn3,AA _ hi',Fj,hn2,EW,IZ,e1];rcases h3:N7 l[j] l[j+1] with _ | _
   .rw[h3,aR AOm] at hs;simp only[go_sem,h3,hl2,AA _ hi',La,wrap_i64 (n:=((j+1:Nat):Int)+1) AOl AOl];exact⟨j+1+1,AAS [(2,false)] ⟨rfl,rfl,wB _ _,trivial⟩ (by rw[hs,gB]; rfl),hi',AOl⟩
   .rw[h3,aV rfl] at hs;obtain⟨b1,b2,b3⟩:=MI (an hn3);rw[aU] at b3;simp only[go_sem,h3,hw2,hn3,AA _ hn3,AA _ hi',Fj,La,hn2,wrap_i64 (n:=(runs (l.take (j+1)))[n].2+1) AOl AOl,wrap_i64 (n:=((j+1:Nat):Int)+1) AOl AOl];exact ANX
 .have hi':i=l.length:=by simp at h; omega
  subst hi';simp only[go_sem,aX,La];try exact AIG
theorem Qe (v:DVal) (k:Int) (r:List (DVal×Int)) (n:Nat):Il ((v,k)::r) n=if k<1\/k>64-n then none else(Il r (n+k.toNat)).map fun l=>List.replicate k.toNat v++l:=rfl
theorem Qg {α:Type} {l:List α} {i:Nat} (h:i<l.length):l.drop i=l[i]::l.drop (i+1):=aB h
theorem wC (out:List DVal) (j:Nat) (v:DVal):(out++List.replicate (j+1) v).map DVal.c=(out++List.replicate j v).map DVal.c ++ [v.c]:=by rw[List.replicate_succ',<- ba,G5]
theorem AEO (out:List DVal) (j:Nat) (v:DVal):GL ((out++List.replicate j v).map DVal.c ++ [v.c])=true:=by rw[<- G5]; exact Qa _
theorem pY (r:List (DVal×Int)) (hl:r.length<=1048576):Ctr prog 347 [.c (.sl (r.map Fj))] [.val (.c (.sl ((spread r).map DVal.c)))]:=by
 refine CM call347 func347 ntmps347 results347 fun hw=>?_;simp only[go_sem];refine AAv [7] (A:=Nat×List DVal) (fun x=>[(10,.c (.v (.int .i64 (x.1)))),(3,.c (.ref 0))]) (fun x=>[⟨112,3,x.2.map DVal.c,true,true⟩]) (fun x=>x.1<=r.length/\x.2.length<=64/\(Il (r.drop x.1) x.2.length).map (fun y=>x.2++y)=Il r 0) (fun x=>r.length-x.1) (0,[]) (AAS [(0,false)] ⟨rfl,rfl,rfl,trivial⟩ rfl) ⟨aq _,aq _,AOm⟩ ?_;rintro⟨i,out⟩ ⟨hi,hll,hp⟩;dsimp only at hi hll hp;refine AOd (fun h=>?_) fun h=>?_
 .have hi':i<r.length:=by simp at h; omega
  rw[Qg hi',show r[i]=(r[i].1,r[i].2) from rfl,Qe] at hp;rcases h2:decide (r[i].2<1) with _ | _;rotate_left
  .rw[aV (.inl APc)] at hp;simp only[W_] at hp;have e:spread r = []:=APu;rw[e];simp only[go_sem,AA _ hi',Fj,h2,ap]
  have h2':1<=r[i].2:=AO3;have hw1:IntKind.i64.wrap (64-(out.length:Int))=64-(out.length:Int):=wrap_i64 AOl AOl;rcases h3:decide (r[i].2>64-(out.length:Int)) with _ | _;rotate_left
  .rw[aV (.inr AO7)] at hp;simp only[W_] at hp;have e:spread r = []:=APu;rw[e];simp only[go_sem,AA _ hi',Fj,h2,hw1,h3,ap]
  have h3':r[i].2<=64-(out.length:Int):=APj;obtain⟨K,hK⟩:=aF (show 0<=r[i].2 from AOl);rw[aR AOl,hK,aZ] at hp;rw[hK] at h2 h3 h2' h3';simp only[go_sem,AA _ hi',Fj,hK,h2,hw1,h3];refine AAv [20] (A:=Nat) (fun x=>[(6,.c (.v (.int .i64 (x)))),(3,.c (.ref 0))]) (fun x=>[⟨112,3,(out++List.replicate x r[i].1).map DVal.c,true,true⟩,⟨292,4,[Fj (r[i].1,(K:Int))],true,true⟩]) (fun x=>x<=K) (fun x=>K-x) 0 (AAS [(0,false),(1,false)] ⟨rfl,rfl,Qa _,rfl,trivial⟩ (by simp only[List.replicate_zero,bc]; rfl)) (aq _) ?_;rintro j hj;have hl2:out.length+j+1<=2147483648:=AOl;simp only[go_sem,Fj];refine AAQ (fun h=>?_) (fun h=>?_)
  .have hj':j<K:=by simp[Fj] at h; omega
   simp only[go_sem,Fj,hl2,aaa,wrap_i64 (n:=(j:Int)+1) AOl AOl];exact⟨j+1,AAS [(3,false),(1,false)] ⟨rfl,rfl,AEO _ _ _,rfl,trivial⟩ (by rw[wC]; rfl),hj',AOl⟩
  .have hj':j=K:=by simp[Fj] at h; omega
   exact ALH
 .have hi':i=r.length:=by simp at h; omega
  subst hi';rw[aK] at hp;simp only[Il,bi,bc] at hp;have e:spread r=out:=APu;rw[e];simp only[go_sem];try exact AIG
