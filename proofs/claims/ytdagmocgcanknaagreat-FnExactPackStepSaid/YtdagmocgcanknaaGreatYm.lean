/- A part. -/
import Derived.Test.YtdagmocgcanknaaGreatYg
set_option linter.unusedSimpArgs false
set_option linter.unusedVariables false
set_option maxHeartbeats 2000000
set_option maxRecDepth 10000
namespace Go.Vm
theorem Head.frz {s:MS} (ls:List Nat) {st':List Ob} (h:Yb s.st ls=some st'):Head s ⟨s.n,s.env,st'⟩:=⟨rfl,fun w0 St0 St β a w hc=>by
 obtain⟨St',h'⟩:=dW ls s.st st' St hc h;exact⟨St',β,h'⟩⟩
end Go.Vm
open Go.Proofs.Tryz
namespace Go.Proofs.YtdagmocgcanknaaGreat
open Go.Vm
theorem drop_cons {α:Type} {l:List α} {i:Nat} (h:i<l.length):l.drop i=l[i]::l.drop (i+1):=aB h
theorem NR (v x:DVal) (r:List DVal) (i:Nat):placeOf v (x::r) i=if N7 x v=true then some (i:Int) else placeOf v r (i+1):=rfl
theorem Uz {v:DVal}:∀ {d:List DVal} {k:Nat} {i:Int},placeOf v d k=some i->(k:Int)<=i
 | [],_,_,h=>AP8
 | x::r,k,i,h=>by
  rw[NR] at h;split at h
  .simp only[ai] at h; omega
  .have:=Uz h; omega
theorem AEP (a b:DVal):N7 a b=N7 b a:=by rw[Bool.eq_iff_iff,Lp,Lp]; exact eq_comm
theorem pg (d:List DVal) (v:DVal) (hl:d.length<=1048576):Ctr prog 363 [.c (.sl (d.map DVal.c)),.agg v.c] [.val (.c (.v (.int .i64 ((placeOf v d 0).getD (-1)))))]:=by
 refine CM call363 func363 ntmps363 results363 fun hw=>?_;simp only[go_sem];refine AAe 1 (A:=Nat) (fun x=>[(5,.c (.v (.int .i64 (x))))]) (fun _=>[⟨112,3,[v.c],true,true⟩]) (fun x=>x<=d.length/\placeOf v (d.drop x) x=placeOf v d 0) (fun x=>d.length-x) 0 ⟨⟨rfl,rfl⟩,rfl,aq _,rfl⟩ ?_;rintro i ⟨hi,hp⟩;refine AOd (fun h=>?_) fun h=>?_
 .have hi':i<d.length:=by simp at h; omega
  have e1:(d[i].ty==v.ty&&(d[i].n==v.n&&d[i].s.toList==v.s.toList))=N7 d[i] v:=rfl;rw[drop_cons hi',NR] at hp;simp only[go_sem,AA _ hi'];refine AAP ?_;simp only[go_sem,AA _ hi',EW,IZ,e1];exact ALT
 .exact ANH
theorem index_spec (d:List DVal) (v:DVal) (hl:d.length<=1048576):Ctr prog 376 [.c (.sl (d.map DVal.c)),.agg v.c] [.val (.c (.v (.int .i64 ((placeOf v d 0).getD (-1)))))]:=by
 refine CM call376 func376 ntmps376 results376 fun hw=>?_;simp only[go_sem];refine AAe 1 (A:=Nat) (fun x=>[(8,.c (.v (.int .i64 (x))))]) (fun _=>[⟨112,3,[v.c],true,true⟩]) (fun x=>x<=d.length/\placeOf v (d.drop x) x=placeOf v d 0) (fun x=>d.length-x) 0 ⟨⟨rfl,rfl⟩,rfl,aq _,rfl⟩ ?_;rintro i ⟨hi,hp⟩;refine AOd (fun h=>?_) fun h=>?_
 .have hi':i<d.length:=by simp at h; omega
  have e1:(v.ty==d[i].ty&&(v.n==d[i].n&&v.s.toList==d[i].s.toList))=N7 v d[i]:=rfl;rw[drop_cons hi',NR] at hp;simp only[go_sem,AA _ hi'];refine AAP ?_;simp only[go_sem,AA _ hi',EW,IZ,e1,AEP v d[i]];exact ALT
 .exact ANH
theorem pq (d:List DVal) (v:DVal) (hl:d.length<=1048576):Ctr prog 371 [.c (.sl (d.map DVal.c)),.agg v.c] [.val (.c (.v (.int .i64 ((placeOf v d 0).getD (-1)))))]:=by refine CM call371 func371 ntmps371 results371 fun hw=>?_;simp only[go_sem];refine AAO _ (index_spec d v hl) fun _=>?_;exact AJC
theorem places_cons (d:List DVal) (v:DVal) (l:List DVal):places d (v::l)=match placeOf v d 0,places d l with
  | some i,some r=>some (i::r)
  | _,_=>none:=rfl
theorem pz (d l:List DVal) (hl:l.length<=1048576) (hd:d.length<=1048576):Ctr prog 355 [.c (.sl (d.map DVal.c)),.c (.sl (l.map DVal.c))] (Zl (places d l)):=by
 refine CM call355 func355 ntmps355 results355 fun hw=>?_;simp only[go_sem];refine AAv [10] (A:=Nat×List Int) (fun x=>[(13,.c (.v (.int .i64 (x.1)))),(6,.c (.ref 0))]) (fun x=>[⟨3,1,x.2.map intC,true,true⟩]) (fun x=>x.1<=l.length/\x.2.length=x.1/\(places d (l.drop x.1)).map (fun y=>x.2++y)=places d l) (fun x=>l.length-x.1) (0,[]) (AAS [(0,false)] ⟨rfl,rfl,rfl,trivial⟩ rfl) ⟨aq _,rfl,AOm⟩ ?_;rintro⟨i,out⟩ ⟨hi,hll,hp⟩;dsimp only at hi hll hp;refine AOd (fun h=>?_) fun h=>?_
 .have hi':i<l.length:=by simp at h; omega
  have hl2:out.length+1<=2147483648:=AOl;rw[drop_cons hi',places_cons] at hp;simp only[go_sem,AA _ hi'];refine AAO _ (pq d l[i] hd) fun _=>?_;rcases h2:placeOf l[i] d 0 with _ | p
  .rw[h2] at hp;simp only[W_] at hp;have h3:decide ((-1:Int)<0)=true:=AOu;rw[<- hp];simp only[go_sem,h2,ww,h3,Zl]
  .rw[h2] at hp;have h3:decide (p<0)=false:=by have:=Uz h2; simp; omega
   simp only[go_sem,h2,h3,hl2,wrap_i64 (n:=(i:Int)+1) AOl AOl]
   exact⟨(i+1,out ++ [p]),AAS [(3,false)] ⟨rfl,rfl,by rw[<- FV]; exact CX _,trivial⟩ (by rw[FV]; rfl),⟨hi',AOn,by
    rw[<- hp];cases places d (l.drop (i+1))<;>simp⟩,AOp⟩
 .have hi':i=l.length:=by simp at h; omega
  subst hi';rw[aK] at hp;simp only[places,bi,bc] at hp;rw[<- hp];simp only[go_sem,Zl];try exact AIG
theorem p_ (d l:List DVal) (hl:l.length<=1048576) (hd:d.length<=1048576):Ctr prog 340 [.c (.sl (d.map DVal.c)),.c (.sl (l.map DVal.c))] (Zl (places d l)):=by
 refine CM call340 func340 ntmps340 results340 fun hw=>?_;simp only[go_sem];refine AAv [9] (A:=Nat×List Int) (fun x=>[(7,.c (.v (.int .i64 (x.1)))),(6,.c (.ref 0))]) (fun x=>[⟨3,1,x.2.map intC,true,true⟩]) (fun x=>x.1<=l.length/\x.2.length=x.1/\(places d (l.drop x.1)).map (fun y=>x.2++y)=places d l) (fun x=>l.length-x.1) (0,[]) (AAS [(0,false)] ⟨rfl,rfl,rfl,trivial⟩ rfl) ⟨aq _,rfl,AOm⟩ ?_;rintro⟨i,out⟩ ⟨hi,hll,hp⟩;dsimp only at hi hll hp;refine AOd (fun h=>?_) fun h=>?_
 .have hi':i<l.length:=by simp at h; omega
  have hl2:out.length+1<=2147483648:=AOl;rw[drop_cons hi',places_cons] at hp;simp only[go_sem,AA _ hi'];refine AAO _ (pg d l[i] hd) fun _=>?_;rcases h2:placeOf l[i] d 0 with _ | p
  .rw[h2] at hp;simp only[W_] at hp;have h3:decide ((-1:Int)<0)=true:=AOu;rw[<- hp];simp only[go_sem,h2,ww,h3,Zl];try simp[DR]
  .rw[h2] at hp;have h3:decide (p<0)=false:=by have:=Uz h2; simp; omega
   simp only[go_sem,h2,h3,hl2,wrap_i64 (n:=(i:Int)+1) AOl AOl]
   exact⟨(i+1,out ++ [p]),AAS [(2,false)] ⟨rfl,rfl,by rw[<- FV]; exact CX _,trivial⟩ (by rw[FV]; rfl),⟨hi',AOn,by
    rw[<- hp];cases places d (l.drop (i+1))<;>simp⟩,AOp⟩
 .have hi':i=l.length:=by simp at h; omega
  subst hi';rw[aK] at hp;simp only[places,bi,bc] at hp;rw[<- hp];simp only[go_sem,Zl];try exact AIG
theorem Yw (d:List DVal) (i:Int) (l:List Int):picked d (i::l)=if 0<=i then match d[i.toNat]?,picked d l with
   | some v,some r=>some (v::r)
   | _,_=>none
  else none:=rfl
theorem U0 {d:List DVal} {i:Int} (l:List Int) (h:¬ (0<=i/\i<d.length)):picked d (i::l)=none:=by
 rw[Yw];split
 .have:d[i.toNat]?=none:=by rw[abr]; omega
  rw[this]
 .rfl
theorem lJ {d:List DVal} {i:Nat} (l:List Int) (h:i<d.length):picked d ((i:Int)::l)=(picked d l).map (fun r=>d[i]::r):=by rw[Yw,aV AOl,aZ,am h];cases picked d l<;>rfl
theorem qA (d:List DVal) (l:List Int) (hl:l.length<=1048576) (hd:d.length<=1048576):Ctr prog 350 [.c (.sl (d.map DVal.c)),.c (.sl (l.map intC))] (Dx (picked d l)):=by
 refine CM call350 func350 ntmps350 results350 fun hw=>?_;simp only[go_sem];refine AAv [9] (A:=Nat×List DVal) (fun x=>[(12,.c (.v (.int .i64 (x.1)))),(6,.c (.ref 0))]) (fun x=>[⟨112,3,x.2.map DVal.c,true,true⟩]) (fun x=>x.1<=l.length/\x.2.length=x.1/\(picked d (l.drop x.1)).map (fun y=>x.2++y)=picked d l) (fun x=>l.length-x.1) (0,[]) (AAS [(0,false)] ⟨rfl,rfl,rfl,trivial⟩ rfl) ⟨aq _,rfl,AOm⟩ ?_;rintro⟨i,out⟩ ⟨hi,hll,hp⟩;dsimp only at hi hll hp;refine AOd (fun h=>?_) fun h=>?_
 .have hi':i<l.length:=by simp at h; omega
  have hl2:out.length+1<=2147483648:=AOl;rw[drop_cons hi'] at hp;simp only[go_sem,AA _ hi'];rcases h2:decide (l[i]<0) with _ | _
  .have h2':0<=l[i]:=by simpa using h2
   rcases h3:decide (l[i]>=(d.length:Int)) with _ | _
   .have h3':l[i]<d.length:=by simpa using h3
    obtain⟨p,hpe⟩:=aF h2';have hp':p<d.length:=AOl;rw[hpe,lJ _ hp'] at hp;rw[hpe] at h2 h3;simp only[go_sem,hpe,h2,h3,hl2,AA _ hp',wrap_i64 (n:=(i:Int)+1) AOl AOl];exact ALy
   .rw[U0 _ APj] at hp;rw[<- hp];simp only[go_sem,h2,h3,W_,Dx]
  .rw[U0 _ AO3] at hp;rw[<- hp];simp only[go_sem,h2,W_,Dx]
 .have hi':i=l.length:=by simp at h; omega
  subst hi';rw[aK] at hp;simp only[picked,bi,bc] at hp;rw[<- hp];simp only[go_sem,Dx];try exact AIG
theorem WR (d:List DVal) (l:List Int) (hl:l.length<=1048576) (hd:d.length<=1048576):Ctr prog 335 [.c (.sl (d.map DVal.c)),.c (.sl (l.map intC))] (Dx (picked d l)):=by
 refine CM call335 func335 ntmps335 results335 fun hw=>?_;simp only[go_sem];refine AAv [8] (A:=Nat×List DVal) (fun x=>[(7,.c (.v (.int .i64 (x.1)))),(6,.c (.ref 0))]) (fun x=>[⟨112,3,x.2.map DVal.c,true,true⟩]) (fun x=>x.1<=l.length/\x.2.length=x.1/\(picked d (l.drop x.1)).map (fun y=>x.2++y)=picked d l) (fun x=>l.length-x.1) (0,[]) (AAS [(0,false)] ⟨rfl,rfl,rfl,trivial⟩ rfl) ⟨aq _,rfl,AOm⟩ ?_;rintro⟨i,out⟩ ⟨hi,hll,hp⟩;dsimp only at hi hll hp;refine AOd (fun h=>?_) fun h=>?_
 .have hi':i<l.length:=by simp at h; omega
  have hl2:out.length+1<=2147483648:=AOl;rw[drop_cons hi'] at hp;simp only[go_sem,AA _ hi',wrap_i64 (n:=(d.length:Int)-1) AOl AOl];refine AAO _ (AP _ _ _) fun _=>?_;rcases h2:Ae l[i] 0 ((d.length:Int)-1) with _ | _
  .rw[U0 _ AOw] at hp;rw[<- hp];simp only[go_sem,h2,W_,Dx];try simp[DR]
  .have h2':0<=l[i]/\l[i]<d.length:=by simp[Ae] at h2; omega
   obtain⟨p,hpe⟩:=aF h2'.1;have hp':p<d.length:=AOl;rw[hpe,lJ _ hp'] at hp;rw[hpe] at h2;simp only[go_sem,AA _ hi',hpe,h2,hl2,AA _ hp',wrap_i64 (n:=(i:Int)+1) AOl AOl];exact ALy
 .have hi':i=l.length:=by simp at h; omega
  subst hi';rw[aK] at hp;simp only[picked,bi,bc] at hp;rw[<- hp];simp only[go_sem,Dx];try exact AIG
theorem zK {l:List DVal} (h:0<l.length):DI (l.take 1)=l[0].n:=by
 cases l with
 | nil=>simp at h
 | cons v r=>rfl
theorem Yx {l:List DVal} {i:Nat} (h0:0<i) (h:i<l.length):DI (l.take (i+1))=min (DI (l.take i)) l[i].n:=by
 cases l with
 | nil=>simp at h
 | cons v r =>
  obtain⟨j,rfl⟩:∃ j,i=j+1:=⟨i-1,AOl⟩
  have hj:j<r.length:=APO
  simp only[aba,abx]
  show (r.take (j+1)).foldl _ _=min ((r.take j).foldl _ _) _
  rw[aap hj,abu]
  rfl
theorem wE {l:List DVal} (h:0<l.length):l.foldl (fun n x=>min n x.n) l[0].n=DI l:=by
 cases l with
 | nil=>simp at h
 | cons v r =>
  show r.foldl _ (min v.n v.n)=r.foldl _ v.n
  rw[show min v.n v.n=v.n from AOl]
theorem X3:∀ {l:List DVal} {v:DVal},v∈l->DI l<=v.n/\∃ x∈l,DI l=x.n:=by
 have key:∀ (r:List DVal) (n:Int),r.foldl (fun n x=>min n x.n) n<=n/\(∀ x∈r,r.foldl (fun n x=>min n x.n) n<=x.n)/\(r.foldl (fun n x=>min n x.n) n=n\/∃ x∈r,r.foldl (fun n x=>min n x.n) n=x.n):=by
  intro r;induction r with
  | nil=>intro n; simp
  | cons v r ih =>
   intro n
   obtain⟨a1,a2,a3⟩:=ih (min n v.n)
   simp only[abB]
   refine⟨AOl,fun x hx=>?_, ?_⟩
   .rcases TM.1 hx with rfl | hx
    .omega
    .exact a2 x hx
   .rcases a3 with a3 | ⟨x,hx,a3⟩
    .by_cases h:n<=v.n
     .left; omega
     .right; exact⟨v,AOm,AOl⟩
    .right; exact⟨x,AP3,a3⟩
 intro l v hv;cases l with
 | nil=>cases hv
 | cons w r =>
  obtain⟨a1,a2,a3⟩:=key r w.n
  have e:DI (w::r)=r.foldl (fun n x=>min n x.n) w.n:=rfl
  rw[e]
  refine⟨?_, ?_⟩
  .rcases TM.1 hv with rfl | hv
   .exact a1
   .exact a2 v hv
  .rcases a3 with a3 | ⟨x,hx,a3⟩
   .exact⟨w,AOm,a3⟩
   .exact⟨x,AP3,a3⟩
theorem Zn {v:DVal} (h:BX v=true) (h1:v.ty=1) : -1000000000<=v.n/\v.n<=1000000000:=by simp only[BX,aV h1,ar] at h;simpa [EE,Ae] using h.1
theorem AEQ {l:List DVal} (h:typeOf l=1) {v:DVal} (hv:v∈l):0<=v.n-DI l/\v.n-DI l<=2000000000:=by obtain⟨_,_,q3⟩:=Dt (l:=l) AOl;obtain⟨a1,x,hx,a2⟩:=X3 hv;have b1:=Zn (q3 v hv).1 ((q3 v hv).2.trans h);have b2:=Zn (q3 x hx).1 ((q3 x hx).2.trans h);omega
theorem take_snoc' {α:Type} {l:List α} {i:Nat} (h:i<l.length):l.take (i+1)=l.take i ++ [l[i]]:=aap h
theorem AHm (a b:Int):min a b=if b<a then b else a:=by split<;>omega
theorem J3 {α β:Type} (f:α->β) {l:List α} {i:Nat} (h:i<l.length):(l.take (i+1)).map f=(l.take i).map f ++ [f l[i]]:=by rw[aap h,bl]; rfl
theorem gG (l:List DVal) (hl:l.length<=1048576):Ctr prog 344 [.c (.sl (l.map DVal.c))] [.val (.c (.v (.int .i64 (DI l))))]:=by
 refine CM call344 func344 ntmps344 results344 fun hw=>?_;simp only[go_sem];refine AAe 0 (A:=Nat) (fun x=>[(4,.c (.v (.int .i64 (x)))),(3,.c (.v (.int .i64 (DI (l.take x)))))]) (fun _=>[]) (fun x=>x<=l.length) (fun x=>l.length-x) 0 ⟨⟨rfl,rfl⟩,rfl,aq _⟩ ?_;rintro i hi;refine AOd (fun h=>?_) fun h=>?_
 .have hi':i<l.length:=by simp at h; omega
  rcases h2:((i:Int)==0) with _ | _
  .have h2':0<i:=by simp at h2; omega
   rcases h3:decide (l[i].n<DI (l.take i)) with _ | _
   .have e:DI (l.take (i+1))=DI (l.take i):=by rw[Yx h2' hi']; simp at h3; omega
    exact AMm
   .have e:DI (l.take (i+1))=l[i].n:=by rw[Yx h2' hi']; simp at h3; omega
    exact AMm
  .have h2':i=0:=by simpa using h2
   subst h2';have e:DI (l.take (0+1))=l[0].n:=zK hi';simp only[go_sem,AA _ hi',h2,wrap_i64 (n:=((0:Nat):Int)+1) AOl AOl];exact⟨0+1,⟨rfl,rfl⟩,by rw[e]; rfl,hi',AOl⟩
 .have hi':i=l.length:=by simp at h; omega
  subst hi';simp only[go_sem,aX]
theorem gI (l:List DVal) (hl:l.length<=1048576):Ctr prog 359 [.c (.sl (l.map DVal.c))] [.val (.c (.v (.int .i64 (DI l))))]:=by
 refine CM call359 func359 ntmps359 results359 fun hw=>?_;rcases h1:((l.length:Int)==0) with _ | _;rotate_left
 .have:l = []:=by simpa using h1
  have e:DI l=0:=by rw[this]; rfl
  rw[e];simp only[go_sem,h1]
 have h0:0<l.length:=by
  rcases abo l.length with h | h
  .rw[h] at h1; exact absurd h1 AOu
  .exact h
 simp only[go_sem,h1,AA _ h0];refine AAe 0 (A:=Nat) (fun x=>[(15,.c (.v (.int .i64 (x)))),(3,.c (.v (.int .i64 ((l.take x).foldl (fun n x=>min n x.n) l[0].n))))]) (fun _=>[]) (fun x=>x<=l.length) (fun x=>l.length-x) 0 ⟨⟨rfl,rfl⟩,rfl,aq _⟩ ?_;rintro i hi;refine AOd (fun h=>?_) fun h=>?_
 .have hi':i<l.length:=by simp at h; omega
  simp only[go_sem,AA _ hi',wrap_i64 (n:=(i:Int)+1) AOl AOl];exact⟨i+1,⟨rfl,rfl⟩,by rw[take_snoc' hi',abu,abB,List.foldl_nil,AHm]; rfl,hi',AOl⟩
 .have hi':i=l.length:=by simp at h; omega
  subst hi';rw[<- wE h0];simp only[go_sem,aX]
theorem jL (l:List DVal) (hl:l.length<=1048576):Ctr prog 357 [.c (.sl (l.map DVal.c))] [.own 3 1 ((offsets l).map intC) true]:=by
 refine CM call357 func357 ntmps357 results357 fun hw=>?_;simp only[go_sem];refine AAO _ (DN l hl) fun _=>?_;rcases h1:typeOf l != 1 with _ | _
 .have h1':typeOf l=1:=by simpa using h1
  obtain⟨q1,q2,q3⟩:=Dt (l:=l) AOl;have e:offsets l=l.map fun v=>v.n-DI l:=aR AOl;rw[e];simp only[go_sem,h1];refine AAv [6] (A:=Nat) (fun x=>[(13,.c (.v (.int .i64 (x)))),(3,.c (.ref 0))]) (fun x=>[⟨3,1,((l.take x).map fun v=>v.n-DI l).map intC,true,true⟩]) (fun x=>x<=l.length) (fun x=>l.length-x) 0 (AAS [(0,false)] ⟨rfl,rfl,rfl,trivial⟩ rfl) (aq _) ?_;rintro i hi;refine AOd (fun h=>?_) fun h=>?_
  .have hi':i<l.length:=by simp at h; omega
   have ho:=AEQ h1' (an hi');have hl2:i+1<=2147483648:=AOl;simp only[go_sem,AA _ hi'];refine ACi 4 6 [0,1,2,3,4,5,6,7,8] [5,6] rfl (by kernel_rfl) rfl (by kernel_rfl) ?_;simp only[go_sem];refine AAR ?_;simp only[go_sem];refine ABg _ (gI l hl) ?_;simp only[go_sem,hl2,aU,ZW hi,wrap_i64 (n:=l[i].n-DI l) AOl AOl,wrap_i64 (n:=(i:Int)+1) AOl AOl];exact AM7
  .have hi':i=l.length:=by simp at h; omega
   subst hi';simp only[go_sem,aX];try exact AIG
 .have h1':typeOf l≠1:=by simpa using h1
  have e:offsets l = []:=aV h1';exact AJ8
theorem jM (l:List DVal) (hl:l.length<=1048576):Ctr prog 342 [.c (.sl (l.map DVal.c))] [.own 3 1 ((offsets l).map intC) true]:=by
 refine CM call342 func342 ntmps342 results342 fun hw=>?_;simp only[go_sem];refine AAO _ (FB l hl) fun _=>?_;rcases h1:typeOf l != 1 with _ | _
 .have h1':typeOf l=1:=by simpa using h1
  obtain⟨q1,q2,q3⟩:=Dt (l:=l) AOl;have e:offsets l=l.map fun v=>v.n-DI l:=aR AOl;rw[e];simp only[go_sem,h1];refine AAO _ (gG l hl) fun _=>?_;simp only[go_sem];refine AAv [6] (A:=Nat) (fun x=>[(5,.c (.v (.int .i64 (x)))),(3,.c (.ref 0))]) (fun x=>[⟨3,1,((l.take x).map fun v=>v.n-DI l).map intC,true,true⟩]) (fun x=>x<=l.length) (fun x=>l.length-x) 0 (AAS [(0,false)] ⟨rfl,rfl,rfl,trivial⟩ rfl) (aq _) ?_;rintro i hi;refine AOd (fun h=>?_) fun h=>?_
  .have hi':i<l.length:=by simp at h; omega
   have ho:=AEQ h1' (an hi');have hl2:i+1<=2147483648:=AOl;simp only[go_sem,AA _ hi',hl2,aU,ZW hi,wrap_i64 (n:=l[i].n-DI l) AOl AOl,wrap_i64 (n:=(i:Int)+1) AOl AOl];exact AM8
  .have hi':i=l.length:=by simp at h; omega
   subst hi';simp only[go_sem,aX];try exact AIG
 .have h1':typeOf l≠1:=by simpa using h1
  have e:offsets l = []:=aV h1';exact AJ8
def rOk (base x:Int):Prop:=(0<=x/\x<=2000000000)/\base+x<=1000000000
theorem X4 {base:Int} {l:List Int} (h:¬ (-1000000000<=base/\base<=1000000000)):raised base l=none:=aR fun q=>h q.1
theorem Qh {base:Int} {l:List Int} {i:Nat} (hi:i<l.length) (h:¬ rOk base l[i]):raised base l=none:=aR fun q=>h (q.2 _ (an hi))
theorem gJ {base:Int} {l:List Int} (h : -1000000000<=base/\base<=1000000000) (h2:∀ i (hi:i<l.length),rOk base l[i]):raised base l=some (l.map fun x=>⟨1,base+x,ByteArray.empty⟩):=aV ⟨h,fun x hx=>by
 obtain⟨i,hi,rfl⟩:=aaE hx;exact h2 i hi⟩
theorem Du (x:Int):EE x=true↔ -1000000000<=x/\x<=1000000000:=by simp[EE,Ae]
theorem qB (base:Int) (l:List Int) (hl:l.length<=1048576):Ctr prog 351 [.c (.v (.int .i64 (base))),.c (.sl (l.map intC))] (Dx (raised base l)):=by
 refine CM call351 func351 ntmps351 results351 fun hw=>?_;simp only[go_sem];refine AAO _ (Nj _) fun _=>?_;rcases h1:EE base with _ | _
 .exact AOS
 have hb:=(Du base).1 h1;simp only[go_sem,h1];refine AAv [12] (A:=Nat) (fun x=>[(15,.c (.v (.int .i64 (x)))),(6,.c (.ref 0))]) (fun x=>[⟨112,3,((l.take x).map fun(x:Int)=>(⟨1,base+x,ByteArray.empty⟩:DVal)).map DVal.c,true,true⟩]) (fun x=>x<=l.length/\∀ m (h:m<l.length),m<x->rOk base l[m]) (fun x=>l.length-x) 0 (AAS [(0,false)] ⟨rfl,rfl,rfl,trivial⟩ rfl) ⟨aq _,fun m h h2=>AOl⟩ ?_;rintro i ⟨hi,hok⟩;refine AOd (fun h=>?_) fun h=>?_
 .have hi':i<l.length:=by simp at h; omega
  simp only[go_sem,AA _ hi'];refine AAO _ (AL _ _ _) fun _=>?_;rcases h2:Ae l[i] 0 2000000000 with _ | _
  .rw[Qh hi' (fun q=>by have:=q.1; simp[Ae] at h2; omega)];exact ANR
  have h2':0<=l[i]/\l[i]<=2000000000:=AOw;rcases h3:decide (base+l[i]>1000000000) with _ | _
  .have hl2:i+1<=2147483648:=by omega
   simp only[go_sem,AA _ hi',h2,h3,hl2,wrap_i64 (n:=base+l[i]) AOl AOl,wrap_i64 (n:=(i:Int)+1) AOl AOl,aU,ZW hi]
   exact⟨i+1,AAS [(2,false)] ⟨rfl,rfl,NQ _ ⟨1,base+l[i],ByteArray.empty⟩,trivial⟩ (by rw[J3 _ hi',G5]; rfl),⟨hi',fun m h4 h5=>by
    by_cases e:m=i
    .subst e; exact⟨h2',APj⟩
    .exact hok m h4 AOl⟩,AOl⟩
  .exact AMb
 .have hi':i=l.length:=by simp at h; omega
  subst hi';rw[gJ hb fun m hm=>hok m hm hm];simp only[go_sem,Dx,aX];try exact AIG
theorem WS (base:Int) (l:List Int) (hl:l.length<=1048576):Ctr prog 336 [.c (.v (.int .i64 (base))),.c (.sl (l.map intC))] (Dx (raised base l)):=by
 refine CM call336 func336 ntmps336 results336 fun hw=>?_;simp only[go_sem];refine AAv [8] (A:=Nat) (fun x=>[(7,.c (.v (.int .i64 (x)))),(6,.c (.ref 0))]) (fun x=>[⟨112,3,((l.take x).map fun(x:Int)=>(⟨1,base+x,ByteArray.empty⟩:DVal)).map DVal.c,true,true⟩]) (fun x=>x<=l.length/\(0<x-> -1000000000<=base/\base<=1000000000)/\∀ m (h:m<l.length),m<x->rOk base l[m]) (fun x=>l.length-x) 0 (AAS [(0,false)] ⟨rfl,rfl,rfl,trivial⟩ rfl) ⟨aq _,fun h=>AOl,fun m h h2=>AOl⟩ ?_;rintro i ⟨hi,hbs,hok⟩;refine AOd (fun h=>?_) fun h=>?_
 .have hi':i<l.length:=by simp at h; omega
  simp only[go_sem];refine AAO _ (JD _) fun _=>?_;rcases h1:EE base with _ | _
  .exact AOS
  have hb:=(Du base).1 h1;simp only[go_sem,h1,AA _ hi'];refine AAO _ (AP _ _ _) fun _=>?_;rcases h2:Ae l[i] 0 2000000000 with _ | _
  .rw[Qh hi' (fun q=>by have:=q.1; simp[Ae] at h2; omega)];exact ANR
  have h2':0<=l[i]/\l[i]<=2000000000:=AOw;rcases h3:decide (base+l[i]>1000000000) with _ | _
  .have hl2:i+1<=2147483648:=by omega
   simp only[go_sem,AA _ hi',h2,h3,hl2,wrap_i64 (n:=base+l[i]) AOl AOl,wrap_i64 (n:=(i:Int)+1) AOl AOl,aU,ZW hi]
   exact⟨i+1,AAS [(2,false)] ⟨rfl,rfl,NQ _ ⟨1,base+l[i],ByteArray.empty⟩,trivial⟩ (by rw[J3 _ hi',G5]; rfl),⟨hi',fun _=>hb,fun m h4 h5=>by
    by_cases e:m=i
    .subst e; exact⟨h2',APj⟩
    .exact hok m h4 AOl⟩,AOl⟩
  .exact AMb
 .have hi':i=l.length:=by simp at h; omega
  subst hi';simp only[go_sem,aX];refine AAO _ (JD _) fun _=>?_;rcases h1:EE base with _ | _
  .rw[X4 (by rw[<- Du,h1]; simp)]
   have:l = []:=by
    by_cases h0:0<l.length
    .have:=(Du base).2 (hbs h0); rw[h1] at this; cases this
    .cases l<;>simp_all
   subst this;simp only[go_sem,h1,Dx];try simp[DR]
  have hb:=(Du base).1 h1;rw[gJ hb fun m hm=>hok m hm hm];simp only[go_sem,h1,Dx];try exact AIG
theorem Tn {b:List Int} {w k:Int} {o:List Int} (h:unpack b w k=some o):o.length<=64:=by
 have h1:=N_ h;unfold unpack at h;split at h
 .rename_i h2;omega
 .cases h
theorem AA1:∀ (f:Nat) (x:Int),0<=Hg f x/\Hg f x<=f
 | 0,_=>by simp[Hg]
 | f+1,x=>by have:=AA1 f (x/2);rw[Hg];split<;>omega
theorem zL (n:Int):0<=BA n/\BA n<=32:=by
 unfold BA;split
 .exact AA1 32 n
 .omega
theorem Yy (l:List Int):0<=DV l/\DV l<=32:=by
 have key:∀ (l:List Int) (w:Int),0<=w/\w<=32->0<=l.foldl (fun w n=>max w (BA n)) w/\l.foldl (fun w n=>max w (BA n)) w<=32:=by
  intro l;induction l with
  | nil=>intro w h; exact h
  | cons n l ih =>
   intro w h
   have:=zL n
   exact ih (max w (BA n)) ⟨AOl,AOl⟩
 exact key l 0 AOl
theorem JK (l:List Int) (w:Int):(Es l w).length<=4*l.length+1:=by
 unfold Es;split
 .rename_i h;simp only[aa,List.length_range];have:l.length*w.toNat<=l.length*31:=Nat.mul_le_mul_left _ AOl;omega
 .simp
theorem OE (l:List DVal) (hl:l.length<=1048576):Ctr prog 330 [.c (.sl (l.map DVal.c))] [.own 5 1 ((Dq l).map byteC) true]:=by
 refine CM call330 func330 ntmps330 results330 fun hw=>?_;simp only[go_sem];refine AAO _ (DN l hl) fun _=>?_;rcases h1:typeOf l != 1 with _ | _;rotate_left
 .have h1':typeOf l≠1:=by simpa using h1
  have e:Dq l = []:=aV h1';exact AJ8
 have h1':typeOf l=1:=AO8;obtain⟨q1,q2,q3⟩:=Dt (l:=l) AOl;have e:Dq l=Ey (DI l)++(DV (offsets l)::Es (offsets l) (DV (offsets l))):=aR AOl;have hol:(offsets l).length=l.length:=AQR;rw[e];simp only[go_sem,h1];refine AAO _ (jL l hl) fun _=>?_;simp only[go_sem];refine AAO _ (fH (offsets l) AOl) fun _=>?_;simp only[go_sem];refine AAO _ (gI l hl) fun _=>?_;have hw:=Yy (offsets l);have hpl:=JK (offsets l) (DV (offsets l));have hq:=Di (DI l);have hbn:EE (DI l)=true:=by exact AMo
 have hw1:IntKind.u8.wrap (DV (offsets l))=DV (offsets l):=wrap_u8 AOl AOl;simp only[go_sem];refine AAO _ (Gy [] (DI l) AOm) fun _=>?_;rw[Ip hbn,aA];have hl2:(Ey (DI l)).length+1<=2147483648:=AOl;simp only[go_sem,hw1,hl2];refine AAO _ (fP (offsets l) (DV (offsets l)) AOl) fun _=>?_;exact AMR
theorem SK (l:List DVal) (hl:l.length<=1048576):Ctr prog 318 [.c (.sl (l.map DVal.c))] [.own 5 1 ((Dq l).map byteC) true]:=by
 refine CM call318 func318 ntmps318 results318 fun hw=>?_;simp only[go_sem];refine AAO _ (FB l hl) fun _=>?_;rcases h1:typeOf l != 1 with _ | _;rotate_left
 .have h1':typeOf l≠1:=by simpa using h1
  have e:Dq l = []:=aV h1';exact AJ8
 have h1':typeOf l=1:=AO8;obtain⟨q1,q2,q3⟩:=Dt (l:=l) AOl;have e:Dq l=Ey (DI l)++(DV (offsets l)::Es (offsets l) (DV (offsets l))):=aR AOl;have hol:(offsets l).length=l.length:=AQR;rw[e];simp only[go_sem,h1];refine AAO _ (jM l hl) fun _=>?_;simp only[go_sem];refine AAO _ (fJ (offsets l) AOl) fun _=>?_;simp only[go_sem];refine AAO _ (gG l hl) fun _=>?_;have hw:=Yy (offsets l);have hpl:=JK (offsets l) (DV (offsets l));have hq:=Di (DI l);have hbn:EE (DI l)=true:=by exact AMo
 have hw1:IntKind.u8.wrap (DV (offsets l))=DV (offsets l):=wrap_u8 AOl AOl;simp only[go_sem];refine AAO _ (Gz [] (DI l) AOm) fun _=>?_;rw[Ip hbn,aA];have hl2:(Ey (DI l)).length+1<=2147483648:=AOl;simp only[go_sem,hw1,hl2];refine AAO _ (fQ (offsets l) (DV (offsets l)) AOl) fun _=>?_;exact AMR
theorem gK (b:List Int) (k:Int) (hb:Ai b) (hl:b.length<=1048576):Ctr prog 323 [.c (.sl (b.map byteC)),.c (.v (.int .i64 (k)))] (Dx (Et b k)):=by
 rw[<- Yl];refine CM call323 func323 ntmps323 results323 fun hw=>?_;simp only[go_sem];have hg:=Gx b 0 hb hl;rcases h1:Bh b 0 with _ | ⟨n,q⟩<;>rw[h1] at hg<;>simp only[WJ] at hg
 .have e:JH b k=none:=by simp only[JH,h1]
  rw[e];refine AAO _ hg fun _=>?_;exact ALI
 refine AAO _ hg fun _=>?_;rcases h2:decide ((q:Int)>=(b.length:Int)) with _ | _;rotate_left
 .have e:JH b k=none:=by
   have:b[q]?=none:=by rw[abr]; simp at h2; omega
   simp only[JH,h1,this]
  rw[e];exact ANR
 have hq:q<b.length:=AO3;have hc:isByte b[q]:=hb _ (an hq)
 have hall:JH b k=match unpack (b.drop (q+1)) b[q] k with
    | none=>none
    | some o=>again b k ((raised n o).getD []) (Dq ((raised n o).getD [])):=by simp only[JH,h1,am hq]; rfl
 rw[hall];have q1:=Io (k:=.i64) (n:=(q:Int)+1) (m:=q+1) AOl;have q5:q+1<=b.length:=hq;have hc2:=hc.1;have hc3:=hc.2;have q7:(b.map byteC).length-(q+1)=(b.drop (q+1)).length:=AOm;simp only[go_sem,h2,AA _ hq,q1,q5,BU,aG,wrap_i64 (n:=(q:Int)+1) AOl AOl,wrap_i64 (n:=b[q]) AOl AOl,<- bk,<- bf];have htk:(b.drop (q+1)).take (b.length-(q+1))=b.drop (q+1):=aau AOm;have hbd:Ai (b.drop (q+1)):=fun c hc=>hb c (yE hc);have hu:=WL (b.drop (q+1)) b[q] k hbd AOn;refine AAR ?_;simp only[go_sem,h2,AA _ hq,q1,q5,BU,aG,wrap_i64 (n:=(q:Int)+1) AOl AOl,wrap_i64 (n:=b[q]) AOl AOl,<- bk,<- bf,htk];rcases h3:unpack (b.drop (q+1)) b[q] k with _ | o<;>rw[h3] at hu<;>simp only[Zl] at hu
 .refine ABg _ hu ?_;simp only[go_sem,Dx,AA _ hq,q1,q5,BU,aG,<- bk,<- bf,htk,wrap_i64 (n:=b[q]) AOl AOl,wrap_i64 (n:=(q:Int)+1) AOl AOl]
 refine ABg _ hu ?_;have hol:=Tn h3;simp only[go_sem,AA _ hq,q1,q5,BU,aG,<- bk,<- bf,htk,wrap_i64 (n:=b[q]) AOl AOl,wrap_i64 (n:=(q:Int)+1) AOl AOl];have hr:=qB n o AOl;rcases h4:raised n o with _ | l<;>rw[h4] at hr<;>simp only[Dx] at hr
 .refine AAO _ hr fun _=>?_;simp only[go_sem,ww];refine AAO _ (OE [] AOm) fun _=>?_;simp only[go_sem];refine AAO _ (Cj b k [] (Dq [])) fun _=>?_;rcases h5:again b k [] (Dq []) with _ | l'<;>simp only[go_sem,Dx]
 .have hll:=QW h4;refine AAO _ hr fun _=>?_;simp only[go_sem];refine AAO _ (OE l AOl) fun _=>?_;simp only[go_sem];refine AAO _ (Cj b k l (Dq l)) fun _=>?_;rcases h5:again b k l (Dq l) with _ | l'<;>simp only[go_sem,Dx]
theorem gQ (b:List Int) (k:Int) (hb:Ai b) (hl:b.length<=1048576):Ctr prog 310 [.c (.sl (b.map byteC)),.c (.v (.int .i64 (k)))] (Dx (Et b k)):=by
 refine CM call310 func310 ntmps310 results310 fun hw=>?_;simp only[go_sem];have hg:=Gw b 0 hb hl;rcases h1:Bh b 0 with _ | ⟨n,q⟩<;>rw[h1] at hg<;>simp only[WJ] at hg
 .have e:Et b k=none:=by simp only[Et,h1]
  rw[e];refine AAO _ hg fun _=>?_;exact ALI
 refine AAO _ hg fun _=>?_;rcases h2:decide ((q:Int)>=(b.length:Int)) with _ | _;rotate_left
 .have e:Et b k=none:=by
   have:b[q]?=none:=by rw[abr]; simp at h2; omega
   simp only[Et,h1,this]
  rw[e];exact ANR
 have hq:q<b.length:=AO3;have hc:isByte b[q]:=hb _ (an hq);simp only[go_sem,h2];refine AAO _ (AP _ _ _) fun _=>?_;rcases h6:Ae k 1 64 with _ | _
 .have e:Et b k=none:=by simp only[Et,h1,am hq];exact aR (by simp[Ae] at h6; omega)
  rw[e];simp only[go_sem,h6,Dx]
 have hk:1<=k/\k<=64:=by simp[Ae] at h6; omega
 have hall:Et b k=match unpack (b.drop (q+1)) b[q] k with
    | none=>none
    | some o=>match raised n o with
     | none=>none
     | some l=>if Dq l=b then some l else none:=by
  simp only[Et,h1,am hq]
  exact aV hk
 rw[hall];have q1:=Io (k:=.i64) (n:=(q:Int)+1) (m:=q+1) AOl;have q5:q+1<=b.length:=hq;have hc2:=hc.1;have hc3:=hc.2;have htk:(b.drop (q+1)).take (b.length-(q+1))=b.drop (q+1):=aau AOm;have hbd:Ai (b.drop (q+1)):=fun c hc=>hb c (yE hc);have hu:=WM (b.drop (q+1)) b[q] k hbd AOn;simp only[go_sem,h6,AA _ hq,q1,q5,BU,aG,wrap_i64 (n:=(q:Int)+1) AOl AOl,wrap_i64 (n:=b[q]) AOl AOl,<- bk,<- bf];refine AAR ?_;simp only[go_sem,AA _ hq,q1,q5,BU,aG,wrap_i64 (n:=(q:Int)+1) AOl AOl,wrap_i64 (n:=b[q]) AOl AOl,<- bk,<- bf,htk];rcases h3:unpack (b.drop (q+1)) b[q] k with _ | o<;>rw[h3] at hu<;>simp only[Zl] at hu
 .refine ABg _ hu ?_;simp only[go_sem,AA _ hq,q1,q5,BU,aG,<- bk,<- bf,htk,wrap_i64 (n:=b[q]) AOl AOl,wrap_i64 (n:=(q:Int)+1) AOl AOl];have hr:=WS n [] AOm;rcases h4:raised n [] with _ | l<;>rw[h4] at hr<;>simp only[Dx] at hr
  .exact AKx
  .exact AKx
 refine ABg _ hu ?_;have hol:=Tn h3;simp only[go_sem,AA _ hq,q1,q5,BU,aG,<- bk,<- bf,htk,wrap_i64 (n:=b[q]) AOl AOl,wrap_i64 (n:=(q:Int)+1) AOl AOl];have hr:=WS n o AOl;rcases h4:raised n o with _ | l<;>rw[h4] at hr<;>simp only[Dx] at hr
 .exact AKx
 have hll:=QW h4;refine AAO _ hr fun _=>?_;simp only[go_sem];refine AAO _ (SK l AOl) fun _=>?_;simp only[go_sem];refine AAO _ (JA (Dq l) b) fun _=>?_;rcases h5:decide (Dq l=b) with _ | _
 .have e:¬ Dq l=b:=by simpa using h5
  simp only[go_sem,h5,aR e,Dx]
 .have e:Dq l=b:=by simpa using h5
  simp only[go_sem,h5,aV e,Dx]
