/- A part. -/
import Derived.Test.YtnchiiikacemmaaGreatYh
set_option linter.unusedSimpArgs false
set_option linter.unusedVariables false
set_option maxHeartbeats 2000000
set_option maxRecDepth 10000
namespace Go.Vm
theorem Head.frz {s:MS} (ls:List Nat) {st':List Ob} (h:V9 s.st ls=some st'):Head s ⟨s.n,s.env,st'⟩:=⟨rfl,fun w0 St0 St β a w hc=>by
 obtain⟨St',h'⟩:=YT ls s.st st' St hc h
 exact⟨St',β,h'⟩⟩
end Go.Vm
open Go.Proofs.Tryz
namespace Go.Proofs.YtnchiiikacemmaaGreat
open Go.Vm
theorem drop_cons {α:Type} {l:List α} {i:Nat} (h:i<l.length):l.drop i=l[i]::l.drop (i+1):=aC h
theorem KU (v x:DVal) (r:List DVal) (i:Nat):placeOf v (x::r) i=if KX x v=true then some (i:Int) else placeOf v r (i+1):=rfl
theorem Rx {v:DVal}:∀ {d:List DVal} {k:Nat} {i:Int},placeOf v d k=some i→(k:Int)≤i
 | [],_,_,h=>by cases h
 | x::r,k,i,h=>by
  rw[KU] at h
  split at h
  ·simp only[ah] at h; omega
  ·have:=Rx h; omega
theorem AB1 (a b:DVal):KX a b=KX b a:=by
 rw[Bool.eq_iff_iff,I_,I_]; exact eq_comm
theorem kL (d:List DVal) (v:DVal) (hl:d.length≤1048576):Ctr prog 326 [.c (.sl (d.map DVal.c)),.agg v.c] [.val (.c (.v (.int .i64 ((placeOf v d 0).getD (-1)))))]:=by
 refine CM call326 func326 ntmps326 results326 fun hw=>?_
 simp only[go_sem]
 refine LoopU.mk 1 (A:=Nat) (fun x=>[(5,.c (.v (.int .i64 (x))))]) (fun _=>[⟨119,3,[v.c],true,true⟩]) (fun x=>x≤d.length∧placeOf v (d.drop x) x=placeOf v d 0) (fun x=>d.length-x) 0 ⟨⟨rfl,rfl⟩,rfl,ak _,rfl⟩ ?_
 rintro i ⟨hi,hp⟩
 simp only[go_sem]
 refine cndC.mk (fun h=>?_) (fun h=>?_)
 ·have hi':i<d.length:=by simp at h; omega
  have e1:(d[i].ty==v.ty&&(d[i].n==v.n&&d[i].s.toList==v.s.toList))=KX d[i] v:=rfl
  rw[drop_cons hi',KU] at hp
  simp only[go_sem]
  refine DrawK.mk ?_
  simp only[go_sem,AA _ hi',FB,Iu,e1]
  rcases h2:KX d[i] v with _ | _
  ·simp only[h2,az,aI] at hp
   simp only[go_sem,wrap_i64 (n:=(i:Int)+1) (by omega) (by omega)]
   exact⟨i+1,⟨rfl,rfl⟩,rfl,⟨hi',hp⟩,by omega⟩
  ·simp only[h2,aW] at hp
   rw[← hp]
   simp only[go_sem]
 ·have hi':i=d.length:=by simp at h; omega
  subst hi'
  rw[aO] at hp
  rw[← hp]
  simp only[go_sem,placeOf,rV]
theorem index_spec (d:List DVal) (v:DVal) (hl:d.length≤1048576):Ctr prog 336 [.c (.sl (d.map DVal.c)),.agg v.c] [.val (.c (.v (.int .i64 ((placeOf v d 0).getD (-1)))))]:=by
 refine CM call336 func336 ntmps336 results336 fun hw=>?_
 simp only[go_sem]
 refine LoopU.mk 1 (A:=Nat) (fun x=>[(8,.c (.v (.int .i64 (x))))]) (fun _=>[⟨119,3,[v.c],true,true⟩]) (fun x=>x≤d.length∧placeOf v (d.drop x) x=placeOf v d 0) (fun x=>d.length-x) 0 ⟨⟨rfl,rfl⟩,rfl,ak _,rfl⟩ ?_
 rintro i ⟨hi,hp⟩
 simp only[go_sem]
 refine cndC.mk (fun h=>?_) (fun h=>?_)
 ·have hi':i<d.length:=by simp at h; omega
  have e1:(v.ty==d[i].ty&&(v.n==d[i].n&&v.s.toList==d[i].s.toList))=KX v d[i]:=rfl
  rw[drop_cons hi',KU] at hp
  simp only[go_sem]
  refine DrawK.mk ?_
  simp only[go_sem,AA _ hi',FB,Iu,e1,AB1 v d[i]]
  rcases h2:KX d[i] v with _ | _
  ·simp only[h2,az,aI] at hp
   simp only[go_sem,wrap_i64 (n:=(i:Int)+1) (by omega) (by omega)]
   exact⟨i+1,⟨rfl,rfl⟩,rfl,⟨hi',hp⟩,by omega⟩
  ·simp only[h2,aW] at hp
   rw[← hp]
   simp only[go_sem]
 ·have hi':i=d.length:=by simp at h; omega
  subst hi'
  rw[aO] at hp
  rw[← hp]
  simp only[go_sem,placeOf,rV]
theorem kM (d:List DVal) (v:DVal) (hl:d.length≤1048576):Ctr prog 333 [.c (.sl (d.map DVal.c)),.agg v.c] [.val (.c (.v (.int .i64 ((placeOf v d 0).getD (-1)))))]:=by
 refine CM call333 func333 ntmps333 results333 fun hw=>?_
 simp only[go_sem]
 refine CallK.mk _ (index_spec d v hl) fun _=>?_
 simp only[go_sem]
theorem places_cons (d:List DVal) (v:DVal) (l:List DVal):places d (v::l)=match placeOf v d 0,places d l with
  | some i,some r=>some (i::r)
  | _,_=>none:=rfl
theorem kN (d l:List DVal) (hl:l.length≤1048576) (hd:d.length≤1048576):Ctr prog 319 [.c (.sl (d.map DVal.c)),.c (.sl (l.map DVal.c))] (XZ (places d l)):=by
 refine CM call319 func319 ntmps319 results319 fun hw=>?_
 simp only[go_sem]
 refine LoopH.mk [10] (A:=Nat×List Int) (fun x=>[(13,.c (.v (.int .i64 (x.1)))),(6,.c (.ref 0))]) (fun x=>[⟨3,1,x.2.map intC,true,true⟩]) (fun x=>x.1≤l.length∧x.2.length=x.1∧(places d (l.drop x.1)).map (fun y=>x.2++y)=places d l) (fun x=>l.length-x.1) (0,[]) (Head.sel [(0,false)] ⟨rfl,rfl,rfl,trivial⟩ rfl) ⟨ak _,rfl,by simp⟩ ?_
 rintro⟨i,out⟩ ⟨hi,hll,hp⟩
 dsimp only at hi hll hp
 simp only[go_sem]
 refine cndC.mk (fun h=>?_) (fun h=>?_)
 ·have hi':i<l.length:=by simp at h; omega
  have hl2:out.length+1≤2147483648:=by omega
  rw[drop_cons hi',places_cons] at hp
  simp only[go_sem,AA _ hi']
  refine CallK.mk _ (kM d l[i] hd) fun _=>?_
  rcases h2:placeOf l[i] d 0 with _ | p
  ·rw[h2] at hp
   simp only[dm] at hp
   have h3:decide ((-1:Int)<0)=true:=by decide
   rw[← hp]
   simp only[go_sem,rV,h3,XZ]
  ·rw[h2] at hp
   have h3:decide (p<0)=false:=by have:=Rx h2; simp; omega
   simp only[go_sem,h3,hl2,wrap_i64 (n:=(i:Int)+1) (by omega) (by omega)]
   exact⟨(i+1,out ++ [p]),Head.sel [(3,false)] ⟨rfl,rfl,by rw[← FM]; exact Bf _,trivial⟩ (by rw[FM]; rfl),⟨hi',by simp; omega,by
    rw[← hp]
    cases places d (l.drop (i+1))<;>simp⟩,by simp only; omega⟩
 ·have hi':i=l.length:=by simp at h; omega
  subst hi'
  rw[aO] at hp
  simp only[places,bU,bz] at hp
  rw[← hp]
  simp only[go_sem,XZ]
  try simp
theorem kP (d l:List DVal) (hl:l.length≤1048576) (hd:d.length≤1048576):Ctr prog 307 [.c (.sl (d.map DVal.c)),.c (.sl (l.map DVal.c))] (XZ (places d l)):=by
 refine CM call307 func307 ntmps307 results307 fun hw=>?_
 simp only[go_sem]
 refine LoopH.mk [9] (A:=Nat×List Int) (fun x=>[(7,.c (.v (.int .i64 (x.1)))),(6,.c (.ref 0))]) (fun x=>[⟨3,1,x.2.map intC,true,true⟩]) (fun x=>x.1≤l.length∧x.2.length=x.1∧(places d (l.drop x.1)).map (fun y=>x.2++y)=places d l) (fun x=>l.length-x.1) (0,[]) (Head.sel [(0,false)] ⟨rfl,rfl,rfl,trivial⟩ rfl) ⟨ak _,rfl,by simp⟩ ?_
 rintro⟨i,out⟩ ⟨hi,hll,hp⟩
 dsimp only at hi hll hp
 simp only[go_sem]
 refine cndC.mk (fun h=>?_) (fun h=>?_)
 ·have hi':i<l.length:=by simp at h; omega
  have hl2:out.length+1≤2147483648:=by omega
  rw[drop_cons hi',places_cons] at hp
  simp only[go_sem,AA _ hi']
  refine CallK.mk _ (kL d l[i] hd) fun _=>?_
  rcases h2:placeOf l[i] d 0 with _ | p
  ·rw[h2] at hp
   simp only[dm] at hp
   have h3:decide ((-1:Int)<0)=true:=by decide
   rw[← hp]
   simp only[go_sem,rV,h3,XZ]
   try simp
  ·rw[h2] at hp
   have h3:decide (p<0)=false:=by have:=Rx h2; simp; omega
   simp only[go_sem,h3,hl2,wrap_i64 (n:=(i:Int)+1) (by omega) (by omega)]
   exact⟨(i+1,out ++ [p]),Head.sel [(2,false)] ⟨rfl,rfl,by rw[← FM]; exact Bf _,trivial⟩ (by rw[FM]; rfl),⟨hi',by simp; omega,by
    rw[← hp]
    cases places d (l.drop (i+1))<;>simp⟩,by simp only; omega⟩
 ·have hi':i=l.length:=by simp at h; omega
  subst hi'
  rw[aO] at hp
  simp only[places,bU,bz] at hp
  rw[← hp]
  simp only[go_sem,XZ]
  try simp
theorem WM (d:List DVal) (i:Int) (l:List Int):picked d (i::l)=if 0≤i then match d[i.toNat]?,picked d l with
   | some v,some r=>some (v::r)
   | _,_=>none
  else none:=rfl
theorem Ry {d:List DVal} {i:Int} (l:List Int) (h:¬ (0≤i∧i<d.length)):picked d (i::l)=none:=by
 rw[WM]
 split
 ·have:d[i.toNat]?=none:=by rw[abr]; omega
  rw[this]
 ·rfl
theorem fG {d:List DVal} {i:Nat} (l:List Int) (h:i<d.length):picked d ((i:Int)::l)=(picked d l).map (fun r=>d[i]::r):=by
 rw[WM,aX (by omega),bV,aA h]
 cases picked d l<;>rfl
theorem kQ (d:List DVal) (l:List Int) (hl:l.length≤1048576) (hd:d.length≤1048576):Ctr prog 294 [.c (.sl (d.map DVal.c)),.c (.sl (l.map intC))] (C_ (picked d l)):=by
 refine CM call294 func294 ntmps294 results294 fun hw=>?_
 simp only[go_sem]
 refine LoopH.mk [9] (A:=Nat×List DVal) (fun x=>[(12,.c (.v (.int .i64 (x.1)))),(6,.c (.ref 0))]) (fun x=>[⟨119,3,x.2.map DVal.c,true,true⟩]) (fun x=>x.1≤l.length∧x.2.length=x.1∧(picked d (l.drop x.1)).map (fun y=>x.2++y)=picked d l) (fun x=>l.length-x.1) (0,[]) (Head.sel [(0,false)] ⟨rfl,rfl,rfl,trivial⟩ rfl) ⟨ak _,rfl,by simp⟩ ?_
 rintro⟨i,out⟩ ⟨hi,hll,hp⟩
 dsimp only at hi hll hp
 simp only[go_sem]
 refine cndC.mk (fun h=>?_) (fun h=>?_)
 ·have hi':i<l.length:=by simp at h; omega
  have hl2:out.length+1≤2147483648:=by omega
  rw[drop_cons hi'] at hp
  simp only[go_sem,AA _ hi']
  rcases h2:decide (l[i]<0) with _ | _
  ·have h2':0≤l[i]:=by simpa using h2
   rcases h3:decide (l[i]≥(d.length:Int)) with _ | _
   ·have h3':l[i]<d.length:=by simpa using h3
    obtain⟨p,hpe⟩:=aP h2'
    have hp':p<d.length:=by omega
    rw[hpe,fG _ hp'] at hp
    rw[hpe] at h2 h3
    simp only[go_sem,hpe,h3,hl2,AA _ hp',wrap_i64 (n:=(i:Int)+1) (by omega) (by omega)]
    exact⟨(i+1,out ++ [d[p]]),Head.sel [(2,false)] ⟨rfl,rfl,KT _ _,trivial⟩ (by rw[FN]; rfl),⟨hi',by simp; omega,by
     rw[← hp,zI]; congr 1; funext y; simp⟩,by simp only; omega⟩
   ·rw[Ry _ (by simp at h3; omega)] at hp
    rw[← hp]
    simp only[go_sem,h3,dm,C_]
  ·rw[Ry _ (by simp at h2; omega)] at hp
   rw[← hp]
   simp only[go_sem,dm,C_]
 ·have hi':i=l.length:=by simp at h; omega
  subst hi'
  rw[aO] at hp
  simp only[picked,bU,bz] at hp
  rw[← hp]
  simp only[go_sem,C_]
  try simp[BX,AY]
theorem UO (d:List DVal) (l:List Int) (hl:l.length≤1048576) (hd:d.length≤1048576):Ctr prog 281 [.c (.sl (d.map DVal.c)),.c (.sl (l.map intC))] (C_ (picked d l)):=by
 refine CM call281 func281 ntmps281 results281 fun hw=>?_
 simp only[go_sem]
 refine LoopH.mk [8] (A:=Nat×List DVal) (fun x=>[(7,.c (.v (.int .i64 (x.1)))),(6,.c (.ref 0))]) (fun x=>[⟨119,3,x.2.map DVal.c,true,true⟩]) (fun x=>x.1≤l.length∧x.2.length=x.1∧(picked d (l.drop x.1)).map (fun y=>x.2++y)=picked d l) (fun x=>l.length-x.1) (0,[]) (Head.sel [(0,false)] ⟨rfl,rfl,rfl,trivial⟩ rfl) ⟨ak _,rfl,by simp⟩ ?_
 rintro⟨i,out⟩ ⟨hi,hll,hp⟩
 dsimp only at hi hll hp
 simp only[go_sem]
 refine cndC.mk (fun h=>?_) (fun h=>?_)
 ·have hi':i<l.length:=by simp at h; omega
  have hl2:out.length+1≤2147483648:=by omega
  rw[drop_cons hi'] at hp
  simp only[go_sem,AA _ hi',wrap_i64 (n:=(d.length:Int)-1) (by omega) (by omega)]
  refine CallK.mk _ (AL _ _ _) fun _=>?_
  rcases h2:Ac l[i] 0 ((d.length:Int)-1) with _ | _
  ·rw[Ry _ (by simp[Ac] at h2; omega)] at hp
   rw[← hp]
   simp only[go_sem,dm,C_]
   try simp[FT]
  ·have h2':0≤l[i]∧l[i]<d.length:=by simp[Ac] at h2; omega
   obtain⟨p,hpe⟩:=aP h2'.1
   have hp':p<d.length:=by omega
   rw[hpe,fG _ hp'] at hp
   rw[hpe] at h2
   simp only[go_sem,AA _ hi',hpe,hl2,AA _ hp',wrap_i64 (n:=(i:Int)+1) (by omega) (by omega)]
   exact⟨(i+1,out ++ [d[p]]),Head.sel [(2,false)] ⟨rfl,rfl,KT _ _,trivial⟩ (by rw[FN]; rfl),⟨hi',by simp; omega,by
    rw[← hp,zI]; congr 1; funext y; simp⟩,by simp only; omega⟩
 ·have hi':i=l.length:=by simp at h; omega
  subst hi'
  rw[aO] at hp
  simp only[picked,bU,bz] at hp
  rw[← hp]
  simp only[go_sem,C_]
  try simp[BX,AY]
theorem vI {l:List DVal} (h:0<l.length):Bq (l.take 1)=l[0].n:=by
 cases l with
 | nil=>simp at h
 | cons v r=>rfl
theorem WN {l:List DVal} {i:Nat} (h0:0<i) (h:i<l.length):Bq (l.take (i+1))=min (Bq (l.take i)) l[i].n:=by
 cases l with
 | nil=>simp at h
 | cons v r =>
  obtain⟨j,rfl⟩:∃ j,i=j+1:=⟨i-1,by omega⟩
  have hj:j<r.length:=by simpa using h
  simp only[abk,abA]
  show (r.take (j+1)).foldl _ _=min ((r.take j).foldl _ _) _
  rw[aau hj,List.foldl_append]
  rfl
theorem qU {l:List DVal} (h:0<l.length):l.foldl (fun n x=>min n x.n) l[0].n=Bq l:=by
 cases l with
 | nil=>simp at h
 | cons v r =>
  show r.foldl _ (min v.n v.n)=r.foldl _ v.n
  rw[show min v.n v.n=v.n by omega]
theorem VI:∀ {l:List DVal} {v:DVal},v∈l→Bq l≤v.n∧∃ x∈l,Bq l=x.n:=by
 have key:∀ (r:List DVal) (n:Int),r.foldl (fun n x=>min n x.n) n≤n∧(∀ x∈r,r.foldl (fun n x=>min n x.n) n≤x.n)∧(r.foldl (fun n x=>min n x.n) n=n∨∃ x∈r,r.foldl (fun n x=>min n x.n) n=x.n):=by
  intro r
  induction r with
  | nil=>intro n; simp
  | cons v r ih =>
   intro n
   obtain⟨a1,a2,a3⟩:=ih (min n v.n)
   simp only[abj]
   refine⟨by omega,fun x hx=>?_, ?_⟩
   ·rcases bW.1 hx with rfl | hx
    ·omega
    ·exact a2 x hx
   ·rcases a3 with a3 | ⟨x,hx,a3⟩
    ·by_cases h:n≤v.n
     ·left; omega
     ·right; exact⟨v,by simp,by omega⟩
    ·right; exact⟨x,by simp[hx],a3⟩
 intro l v hv
 cases l with
 | nil=>cases hv
 | cons w r =>
  obtain⟨a1,a2,a3⟩:=key r w.n
  have e:Bq (w::r)=r.foldl (fun n x=>min n x.n) w.n:=rfl
  rw[e]
  refine⟨?_, ?_⟩
  ·rcases bW.1 hv with rfl | hv
   ·exact a1
   ·exact a2 v hv
  ·rcases a3 with a3 | ⟨x,hx,a3⟩
   ·exact⟨w,by simp,a3⟩
   ·exact⟨x,by simp[hx],a3⟩
theorem Xc {v:DVal} (h:BF v=true) (h1:v.ty=1) : -1000000000≤v.n∧v.n≤1000000000:=by
 simp only[BF,aX h1,ax] at h
 simpa [Di,Ac] using h.1
theorem AB2 {l:List DVal} (h:typeOf l=1) {v:DVal} (hv:v∈l):0≤v.n-Bq l∧v.n-Bq l≤2000000000:=by
 obtain⟨_,_,q3⟩:=Cf (l:=l) (by omega)
 obtain⟨a1,x,hx,a2⟩:=VI hv
 have b1:=Xc (q3 v hv).1 ((q3 v hv).2.trans h)
 have b2:=Xc (q3 x hx).1 ((q3 x hx).2.trans h)
 omega
theorem take_snoc' {α:Type} {l:List α} {i:Nat} (h:i<l.length):l.take (i+1)=l.take i ++ [l[i]]:=aau h
theorem AFN (a b:Int):min a b=if b<a then b else a:=by split<;>omega
theorem JX {α β:Type} (f:α→β) {l:List α} {i:Nat} (h:i<l.length):(l.take (i+1)).map f=(l.take i).map f ++ [f l[i]]:=by
 rw[aau h,Uz]; rfl
theorem Yv (l:List DVal) (hl:l.length≤1048576):Ctr prog 311 [.c (.sl (l.map DVal.c))] [.val (.c (.v (.int .i64 (Bq l))))]:=by
 refine CM call311 func311 ntmps311 results311 fun hw=>?_
 simp only[go_sem]
 refine LoopU.mk 0 (A:=Nat) (fun x=>[(4,.c (.v (.int .i64 (x)))),(3,.c (.v (.int .i64 (Bq (l.take x)))))]) (fun _=>[]) (fun x=>x≤l.length) (fun x=>l.length-x) 0 ⟨⟨rfl,rfl⟩,rfl,ak _⟩ ?_
 rintro i hi
 simp only[go_sem]
 refine cndC.mk (fun h=>?_) (fun h=>?_)
 ·have hi':i<l.length:=by simp at h; omega
  rcases h2:((i:Int)==0) with _ | _
  ·have h2':0<i:=by simp at h2; omega
   rcases h3:decide (l[i].n<Bq (l.take i)) with _ | _
   ·have e:Bq (l.take (i+1))=Bq (l.take i):=by rw[WN h2' hi']; simp at h3; omega
    simp only[go_sem,AA _ hi',h2,h3,wrap_i64 (n:=(i:Int)+1) (by omega) (by omega)]
    exact⟨i+1,⟨rfl,rfl⟩,by rw[e]; rfl,hi',by omega⟩
   ·have e:Bq (l.take (i+1))=l[i].n:=by rw[WN h2' hi']; simp at h3; omega
    simp only[go_sem,AA _ hi',h2,h3,wrap_i64 (n:=(i:Int)+1) (by omega) (by omega)]
    exact⟨i+1,⟨rfl,rfl⟩,by rw[e]; rfl,hi',by omega⟩
  ·have h2':i=0:=by simpa using h2
   subst h2'
   have e:Bq (l.take (0+1))=l[0].n:=vI hi'
   simp only[go_sem,AA _ hi',h2,wrap_i64 (n:=((0:Nat):Int)+1) (by omega) (by omega)]
   exact⟨0+1,⟨rfl,rfl⟩,by rw[e]; rfl,hi',by omega⟩
 ·have hi':i=l.length:=by simp at h; omega
  subst hi'
  simp only[go_sem,bP]
theorem Yw (l:List DVal) (hl:l.length≤1048576):Ctr prog 323 [.c (.sl (l.map DVal.c))] [.val (.c (.v (.int .i64 (Bq l))))]:=by
 refine CM call323 func323 ntmps323 results323 fun hw=>?_
 rcases h1:((l.length:Int)==0) with _ | _
 rotate_left
 ·have:l = []:=by simpa using h1
  have e:Bq l=0:=by rw[this]; rfl
  rw[e]
  simp only[go_sem,h1]
 have h0:0<l.length:=by
  rcases abo l.length with h | h
  ·rw[h] at h1; exact absurd h1 (by decide)
  ·exact h
 simp only[go_sem,h1,AA _ h0]
 refine LoopU.mk 0 (A:=Nat) (fun x=>[(15,.c (.v (.int .i64 (x)))),(3,.c (.v (.int .i64 ((l.take x).foldl (fun n x=>min n x.n) l[0].n))))]) (fun _=>[]) (fun x=>x≤l.length) (fun x=>l.length-x) 0 ⟨⟨rfl,rfl⟩,rfl,ak _⟩ ?_
 rintro i hi
 simp only[go_sem]
 refine cndC.mk (fun h=>?_) (fun h=>?_)
 ·have hi':i<l.length:=by simp at h; omega
  simp only[go_sem,AA _ hi',wrap_i64 (n:=(i:Int)+1) (by omega) (by omega)]
  exact⟨i+1,⟨rfl,rfl⟩,by rw[take_snoc' hi',List.foldl_append,abj,List.foldl_nil,AFN]; rfl,hi',by omega⟩
 ·have hi':i=l.length:=by simp at h; omega
  subst hi'
  rw[← qU h0]
  simp only[go_sem,bP]
theorem dA (l:List DVal) (hl:l.length≤1048576):Ctr prog 321 [.c (.sl (l.map DVal.c))] [.own 3 1 ((offsets l).map intC) true]:=by
 refine CM call321 func321 ntmps321 results321 fun hw=>?_
 simp only[go_sem]
 refine CallK.mk _ (CB l hl) fun _=>?_
 rcases h1:typeOf l != 1 with _ | _
 ·have h1':typeOf l=1:=by simpa using h1
  obtain⟨q1,q2,q3⟩:=Cf (l:=l) (by omega)
  have e:offsets l=l.map fun v=>v.n-Bq l:=aV (by omega)
  rw[e]
  simp only[go_sem,h1]
  refine LoopH.mk [6] (A:=Nat) (fun x=>[(13,.c (.v (.int .i64 (x)))),(3,.c (.ref 0))]) (fun x=>[⟨3,1,((l.take x).map fun v=>v.n-Bq l).map intC,true,true⟩]) (fun x=>x≤l.length) (fun x=>l.length-x) 0 (Head.sel [(0,false)] ⟨rfl,rfl,rfl,trivial⟩ rfl) (ak _) ?_
  rintro i hi
  simp only[go_sem]
  refine cndC.mk (fun h=>?_) (fun h=>?_)
  ·have hi':i<l.length:=by simp at h; omega
   have ho:=AB2 h1' (aj hi')
   have hl2:i+1≤2147483648:=by omega
   simp only[go_sem,AA _ hi']
   refine DrawK.edge 4 6 [0,1,2,3,4,5,6,7,8] [5,6] rfl (by kernel_rfl) rfl (by kernel_rfl) ?_
   simp only[go_sem]
   refine DrawK.mkE ?_
   simp only[go_sem]
   refine CallE.mk _ (Yw l hl) ?_
   simp only[go_sem,hl2,bn,Zt hi,wrap_i64 (n:=l[i].n-Bq l) (by omega) (by omega),wrap_i64 (n:=(i:Int)+1) (by omega) (by omega)]
   exact⟨i+1,Head.sel [(3,false)] ⟨rfl,rfl,by rw[← FM]; exact Bf _,trivial⟩ (by rw[JX _ hi',FM]; rfl),hi',by omega⟩
  ·have hi':i=l.length:=by simp at h; omega
   subst hi'
   simp only[go_sem,bP]
   try simp
 ·have h1':typeOf l≠1:=by simpa using h1
  have e:offsets l = []:=aX h1'
  rw[e]
  simp only[go_sem,h1]
  try simp
theorem dB (l:List DVal) (hl:l.length≤1048576):Ctr prog 309 [.c (.sl (l.map DVal.c))] [.own 3 1 ((offsets l).map intC) true]:=by
 refine CM call309 func309 ntmps309 results309 fun hw=>?_
 simp only[go_sem]
 refine CallK.mk _ (D_ l hl) fun _=>?_
 rcases h1:typeOf l != 1 with _ | _
 ·have h1':typeOf l=1:=by simpa using h1
  obtain⟨q1,q2,q3⟩:=Cf (l:=l) (by omega)
  have e:offsets l=l.map fun v=>v.n-Bq l:=aV (by omega)
  rw[e]
  simp only[go_sem,h1]
  refine CallK.mk _ (Yv l hl) fun _=>?_
  simp only[go_sem]
  refine LoopH.mk [6] (A:=Nat) (fun x=>[(5,.c (.v (.int .i64 (x)))),(3,.c (.ref 0))]) (fun x=>[⟨3,1,((l.take x).map fun v=>v.n-Bq l).map intC,true,true⟩]) (fun x=>x≤l.length) (fun x=>l.length-x) 0 (Head.sel [(0,false)] ⟨rfl,rfl,rfl,trivial⟩ rfl) (ak _) ?_
  rintro i hi
  simp only[go_sem]
  refine cndC.mk (fun h=>?_) (fun h=>?_)
  ·have hi':i<l.length:=by simp at h; omega
   have ho:=AB2 h1' (aj hi')
   have hl2:i+1≤2147483648:=by omega
   simp only[go_sem,AA _ hi',hl2,bn,Zt hi,wrap_i64 (n:=l[i].n-Bq l) (by omega) (by omega),wrap_i64 (n:=(i:Int)+1) (by omega) (by omega)]
   exact⟨i+1,Head.sel [(2,false)] ⟨rfl,rfl,by rw[← FM]; exact Bf _,trivial⟩ (by rw[JX _ hi',FM]; rfl),hi',by omega⟩
  ·have hi':i=l.length:=by simp at h; omega
   subst hi'
   simp only[go_sem,bP]
   try simp
 ·have h1':typeOf l≠1:=by simpa using h1
  have e:offsets l = []:=aX h1'
  rw[e]
  simp only[go_sem,h1]
  try simp
def rOk (base x:Int):Prop:=(0≤x∧x≤2000000000)∧base+x≤1000000000
theorem VJ {base:Int} {l:List Int} (h:¬ (-1000000000≤base∧base≤1000000000)):raised base l=none:=aV fun q=>h q.1
theorem OO {base:Int} {l:List Int} {i:Nat} (hi:i<l.length) (h:¬ rOk base l[i]):raised base l=none:=aV fun q=>h (q.2 _ (aj hi))
theorem Yx {base:Int} {l:List Int} (h : -1000000000≤base∧base≤1000000000) (h2:∀ i (hi:i<l.length),rOk base l[i]):raised base l=some (l.map fun x=>⟨1,base+x,ByteArray.empty⟩):=aX ⟨h,fun x hx=>by
 obtain⟨i,hi,rfl⟩:=aaG hx
 exact h2 i hi⟩
theorem DW (x:Int):Di x=true↔ -1000000000≤x∧x≤1000000000:=by simp[Di,Ac]
theorem kR (base:Int) (l:List Int) (hl:l.length≤1048576):Ctr prog 296 [.c (.v (.int .i64 (base))),.c (.sl (l.map intC))] (C_ (raised base l)):=by
 refine CM call296 func296 ntmps296 results296 fun hw=>?_
 simp only[go_sem]
 refine CallK.mk _ (LC _) fun _=>?_
 rcases h1:Di base with _ | _
 ·rw[VJ (by rw[← DW,h1]; simp)]
  simp only[go_sem,C_]
  try simp[FT]
 have hb:=(DW base).1 h1
 simp only[go_sem]
 refine LoopH.mk [12] (A:=Nat) (fun x=>[(15,.c (.v (.int .i64 (x)))),(6,.c (.ref 0))]) (fun x=>[⟨119,3,((l.take x).map fun(x:Int)=>(⟨1,base+x,ByteArray.empty⟩:DVal)).map DVal.c,true,true⟩]) (fun x=>x≤l.length∧∀ m (h:m<l.length),m<x→rOk base l[m]) (fun x=>l.length-x) 0 (Head.sel [(0,false)] ⟨rfl,rfl,rfl,trivial⟩ rfl) ⟨ak _,fun m h h2=>by omega⟩ ?_
 rintro i ⟨hi,hok⟩
 simp only[go_sem]
 refine cndC.mk (fun h=>?_) (fun h=>?_)
 ·have hi':i<l.length:=by simp at h; omega
  simp only[go_sem,AA _ hi']
  refine CallK.mk _ (AC _ _ _) fun _=>?_
  rcases h2:Ac l[i] 0 2000000000 with _ | _
  ·rw[OO hi' (fun q=>by have:=q.1; simp[Ac] at h2; omega)]
   simp only[go_sem,C_]
  have h2':0≤l[i]∧l[i]≤2000000000:=by simp[Ac] at h2; omega
  rcases h3:decide (base+l[i]>1000000000) with _ | _
  ·have hl2:i+1≤2147483648:=by omega
   simp only[go_sem,h3,hl2,wrap_i64 (n:=base+l[i]) (by omega) (by omega),wrap_i64 (n:=(i:Int)+1) (by omega) (by omega),bn,Zt hi]
   exact⟨i+1,Head.sel [(2,false)] ⟨rfl,rfl,KT _ ⟨1,base+l[i],ByteArray.empty⟩,trivial⟩ (by rw[JX _ hi',FN]; rfl),⟨hi',fun m h4 h5=>by
    by_cases e:m=i
    ·subst e; exact⟨h2',by simp at h3; omega⟩
    ·exact hok m h4 (by omega)⟩,by omega⟩
  ·rw[OO hi' (fun q=>by have:=q.2; simp at h3; omega)]
   simp only[go_sem,h3,wrap_i64 (n:=base+l[i]) (by omega) (by omega),C_]
 ·have hi':i=l.length:=by simp at h; omega
  subst hi'
  rw[Yx hb fun m hm=>hok m hm hm]
  simp only[go_sem,C_,bP]
  try simp[BX,AY]
theorem UQ (base:Int) (l:List Int) (hl:l.length≤1048576):Ctr prog 283 [.c (.v (.int .i64 (base))),.c (.sl (l.map intC))] (C_ (raised base l)):=by
 refine CM call283 func283 ntmps283 results283 fun hw=>?_
 simp only[go_sem]
 refine LoopH.mk [8] (A:=Nat) (fun x=>[(7,.c (.v (.int .i64 (x)))),(6,.c (.ref 0))]) (fun x=>[⟨119,3,((l.take x).map fun(x:Int)=>(⟨1,base+x,ByteArray.empty⟩:DVal)).map DVal.c,true,true⟩]) (fun x=>x≤l.length∧(0<x→ -1000000000≤base∧base≤1000000000)∧∀ m (h:m<l.length),m<x→rOk base l[m]) (fun x=>l.length-x) 0 (Head.sel [(0,false)] ⟨rfl,rfl,rfl,trivial⟩ rfl) ⟨ak _,fun h=>by omega,fun m h h2=>by omega⟩ ?_
 rintro i ⟨hi,hbs,hok⟩
 simp only[go_sem]
 refine cndC.mk (fun h=>?_) (fun h=>?_)
 ·have hi':i<l.length:=by simp at h; omega
  simp only[go_sem]
  refine CallK.mk _ (Iz _) fun _=>?_
  rcases h1:Di base with _ | _
  ·rw[VJ (by rw[← DW,h1]; simp)]
   simp only[go_sem,C_]
   try simp[FT]
  have hb:=(DW base).1 h1
  simp only[go_sem,AA _ hi']
  refine CallK.mk _ (AL _ _ _) fun _=>?_
  rcases h2:Ac l[i] 0 2000000000 with _ | _
  ·rw[OO hi' (fun q=>by have:=q.1; simp[Ac] at h2; omega)]
   simp only[go_sem,C_]
  have h2':0≤l[i]∧l[i]≤2000000000:=by simp[Ac] at h2; omega
  rcases h3:decide (base+l[i]>1000000000) with _ | _
  ·have hl2:i+1≤2147483648:=by omega
   simp only[go_sem,AA _ hi',h3,hl2,wrap_i64 (n:=base+l[i]) (by omega) (by omega),wrap_i64 (n:=(i:Int)+1) (by omega) (by omega),bn,Zt hi]
   exact⟨i+1,Head.sel [(2,false)] ⟨rfl,rfl,KT _ ⟨1,base+l[i],ByteArray.empty⟩,trivial⟩ (by rw[JX _ hi',FN]; rfl),⟨hi',fun _=>hb,fun m h4 h5=>by
    by_cases e:m=i
    ·subst e; exact⟨h2',by simp at h3; omega⟩
    ·exact hok m h4 (by omega)⟩,by omega⟩
  ·rw[OO hi' (fun q=>by have:=q.2; simp at h3; omega)]
   simp only[go_sem,AA _ hi',h3,wrap_i64 (n:=base+l[i]) (by omega) (by omega),C_]
 ·have hi':i=l.length:=by simp at h; omega
  subst hi'
  simp only[go_sem,bP]
  refine CallK.mk _ (Iz _) fun _=>?_
  rcases h1:Di base with _ | _
  ·rw[VJ (by rw[← DW,h1]; simp)]
   have:l = []:=by
    by_cases h0:0<l.length
    ·have:=(DW base).2 (hbs h0); rw[h1] at this; cases this
    ·cases l<;>simp_all
   subst this
   simp only[go_sem,C_]
   try simp[FT]
  have hb:=(DW base).1 h1
  rw[Yx hb fun m hm=>hok m hm hm]
  simp only[go_sem,C_]
  try simp[BX,AY]
theorem Kr {s:MS} (l:Nat) {ob:Ob} (h:ES s.st l=some ob) (hp:Gj ob.xs=true):Head s ⟨s.n,s.env,RY s.st l⟩:=Head.frz [l] (by simp only[V9,h,hp,aW])
theorem QZ (l:List DVal):((l.map DVal.c).all fun r=>r.length==3)=true:=aG.2 fun r hr=>by
 obtain⟨x,_,rfl⟩:=RX.1 hr
 rfl
theorem Yy (v x:DVal) (r:List DVal):ins v (x::r)=if EP x v=true then x::ins v r else if KX x v=true then x::r else v::x::r:=rfl
theorem xy (v:DVal):∀ {d:List DVal},(∀ m (h:m<d.length),EP d[m] v=true)→ins v d=d ++ [v]
 | [],_=>rfl
 | x::r,h=>by
  have h0:=h 0 (by simp)
  simp only[abz] at h0
  rw[Yy,aX h0,xy v fun m hm=>by
   have:=h (m+1) (by simpa using hm)
   simpa using this]
  rfl
theorem x_ (v:DVal):∀ {d:List DVal} {k:Nat} (hk:k<d.length),(∀ m (h:m<d.length),m<k→EP d[m] v=true)→EP d[k] v=false→ins v d=if KX d[k] v=true then d else d.take k++v::d.drop k
 | [],k,hk,_,_=>by simp at hk
 | x::r,0,_,_,h2=>by
  simp only[abz] at h2
  rw[Yy,h2,aV (by simp)]
  rfl
 | x::r,k+1,hk,h1,h2=>by
  have h0:=h1 0 (by simp) (by omega)
  simp only[abz] at h0
  simp only[abA] at h2
  rw[Yy,aX h0,x_ v (k:=k) (by simpa using hk) (fun m hm hm2=>by
   have:=h1 (m+1) (by simpa using hm) (by omega)
   simpa using this) h2]
  simp only[abA]
  split<;>rfl
theorem AAE {l:List DVal} {i:Nat} (h:i<l.length):CO (l.take (i+1))=ins l[i] (CO (l.take i)):=by
 rw[take_snoc h]
 simp only[CO,List.foldl_append,abj,List.foldl_nil]
theorem Rz (a b:List DVal) (v:DVal):(a++v::b).map DVal.c=a.map DVal.c ++ [v.c]++b.map DVal.c:=by simp
theorem J9 (a b:List DVal) (v:DVal):Gj (a.map DVal.c ++ [v.c]++b.map DVal.c)=true:=by rw[← Rz]; exact OG _
theorem vJ (l:List DVal) (hl:l.length≤1048576):Ctr prog 306 [.c (.sl (l.map DVal.c))] [.val (.c (.sl ((CO l).map DVal.c)))]:=by
 refine CM call306 func306 ntmps306 results306 fun hw=>?_
 simp only[go_sem]
 refine LoopH.mk [6] (A:=Nat) (fun x=>[(4,.c (.v (.int .i64 (x)))),(3,.c (.ref 0))]) (fun x=>[⟨119,3,(CO (l.take x)).map DVal.c,false,true⟩]) (fun x=>x≤l.length) (fun x=>l.length-x) 0 (Head.trans (Head.frz [0] rfl) (Head.sel [(0,false)] ⟨rfl,rfl,rfl,trivial⟩ rfl)) (ak _) ?_
 rintro i hi
 simp only[go_sem]
 refine cndC.mk (fun h=>?_) (fun h=>?_)
 ·have hi':i<l.length:=by simp at h; omega
  have hdl:=NP (l.take i)
  rw[bn] at hdl
  have hds:=AAE hi'
  generalize hd:CO (l.take i)=d at hdl hds
  simp only[go_sem]
  refine LoopU.mk 1 (A:=Nat) (fun x=>[(5,.c (.v (.int .i64 (x))))]) (fun _=>[⟨119,3,d.map DVal.c,false,true⟩]) (fun x=>x≤d.length∧∀ m (h:m<d.length),m<x→EP d[m] l[i]=true) (fun x=>d.length-x) 0 ⟨⟨rfl,all1 (AP (CX _))⟩,rfl,ak _,fun m h h2=>by omega⟩ ?_
  rintro k ⟨hk,hless⟩
  rcases h2:decide ((k:Int)<(d.length:Int)) with _ | _
  ·have h2':k=d.length:=by simp at h2; omega
   have hkle:k≤d.length:=hk
   have hins:=xy l[i] fun m hm=>hless m hm (by omega)
   have hds:CO (l.take (i+1))=d.take k++l[i]::d.drop k:=by rw[hds,hins,h2']; simp
   have h3:((k:Int)==(d.length:Int))=true:=by simp; omega
   simp only[go_sem]
   refine DrawK.mk ?_
   simp only[go_sem,h2]
   refine DrawK.mk ?_
   simp only[go_sem,h3]
   have hkm:min k d.length=k:=by omega
   have g1:k≤2147483648:=by omega
   have g2:k+1≤2147483648:=by omega
   have g3:k+1+(d.length-k)≤2147483648:=by omega
   have htk:(d.drop k).take (d.length-k)=d.drop k:=aaE (by simp)
   refine DrawK.split 4 9 [0,1,2,3,4,5,6,7,8,9,10,11,12,13,14,15] [0,5,6,7,8,9,1,2,3,4,10,11,12,13,14,15] rfl (by kernel_rfl) (by kernel_rfl) ?_ ?_
   ·simp only[go_sem]
    refine DrawK.mkE ?_
    simp only[go_sem,AA _ hi',QZ,Hq,aK,ak,aba,hkle,hkm,g1,g2,g3,← bZ,← df,bn,zG,aa7,bi,htk,wrap_i64 (n:=(i:Int)+1) (by omega) (by omega)]
    exact⟨i+1,Head.trans (Kr 5 rfl (J9 _ _ _)) (Head.sel [(5,false)] ⟨rfl,rfl,J9 _ _ _,trivial⟩ (by rw[hds,Rz]; rfl)),hi',by omega⟩
   ·simp only[go_sem]
    refine DrawK.split 0 5 [0,1,2,3,4,5,6,7,8,9,10,11,12,13,14,15] [1,2,3,4,5,0,6,7,8,9,10,11,12,13,14,15] rfl (by kernel_rfl) (by kernel_rfl) ?_ ?_
    ·simp only[go_sem]
     refine DrawK.mkE ?_
     simp only[go_sem,AA _ hi',QZ,Hq,aK,ak,aba,hkle,hkm,g1,g2,g3,← bZ,← df,bn,zG,aa7,bi,htk,wrap_i64 (n:=(i:Int)+1) (by omega) (by omega)]
     exact⟨i+1,Head.trans (Kr 5 rfl (J9 _ _ _)) (Head.sel [(5,false)] ⟨rfl,rfl,J9 _ _ _,trivial⟩ (by rw[hds,Rz]; rfl)),hi',by omega⟩
    ·simp only[go_sem]
     refine DrawK.mkE ?_
     simp only[go_sem,AA _ hi',QZ,Hq,aK,ak,aba,hkle,hkm,g1,g2,g3,← bZ,← df,bn,zG,aa7,bi,htk,wrap_i64 (n:=(i:Int)+1) (by omega) (by omega)]
     exact⟨i+1,Head.trans (Kr 5 rfl (J9 _ _ _)) (Head.sel [(5,false)] ⟨rfl,rfl,J9 _ _ _,trivial⟩ (by rw[hds,Rz]; rfl)),hi',by omega⟩
  have h2':k<d.length:=by simpa using h2
  simp only[go_sem]
  refine DrawK.mk ?_
  simp only[go_sem,h2,h2',AA _ h2',AA _ hi']
  have e1:(d[k].ty==l[i].ty&&(d[k].n==l[i].n&&d[k].s.toList==l[i].s.toList))=KX d[k] l[i]:=rfl
  refine CY (Zj d[k] l[i]) ?_
  rcases h3:EP d[k] l[i] with _ | _
  ·have hins:=x_ l[i] h2' hless h3
   have h4:((k:Int)==(d.length:Int))=false:=by simp; omega
   simp only[go_sem]
   refine DrawK.mk ?_
   simp only[go_sem,h4,h2',AA _ h2',AA _ hi',FB,Iu,e1]
   rcases h5:KX d[k] l[i] with _ | _
   rotate_left
   ·have hds:CO (l.take (i+1))=d:=by rw[hds,hins,aX h5]
    simp only[go_sem,wrap_i64 (n:=(i:Int)+1) (by omega) (by omega)]
    exact⟨i+1,Head.sel [(0,false)] ⟨rfl,rfl,OG _,trivial⟩ (by rw[hds]; rfl),hi',by omega⟩
   have hds:CO (l.take (i+1))=d.take k++l[i]::d.drop k:=by rw[hds,hins,h5,aV (by simp)]
   have hkle:k≤d.length:=hk
   simp only[go_sem]
   have hkm:min k d.length=k:=by omega
   have g1:k≤2147483648:=by omega
   have g2:k+1≤2147483648:=by omega
   have g3:k+1+(d.length-k)≤2147483648:=by omega
   have htk:(d.drop k).take (d.length-k)=d.drop k:=aaE (by simp)
   refine DrawK.split 4 9 [0,1,2,3,4,5,6,7,8,9,10,11,12,13,14,15] [0,5,6,7,8,9,1,2,3,4,10,11,12,13,14,15] rfl (by kernel_rfl) (by kernel_rfl) ?_ ?_
   ·simp only[go_sem]
    refine DrawK.mkE ?_
    simp only[go_sem,AA _ hi',QZ,Hq,aK,ak,aba,hkle,hkm,g1,g2,g3,← bZ,← df,bn,zG,aa7,bi,htk,wrap_i64 (n:=(i:Int)+1) (by omega) (by omega)]
    exact⟨i+1,Head.trans (Kr 5 rfl (J9 _ _ _)) (Head.sel [(5,false)] ⟨rfl,rfl,J9 _ _ _,trivial⟩ (by rw[hds,Rz]; rfl)),hi',by omega⟩
   ·simp only[go_sem]
    refine DrawK.split 0 5 [0,1,2,3,4,5,6,7,8,9,10,11,12,13,14,15] [1,2,3,4,5,0,6,7,8,9,10,11,12,13,14,15] rfl (by kernel_rfl) (by kernel_rfl) ?_ ?_
    ·simp only[go_sem]
     refine DrawK.mkE ?_
     simp only[go_sem,AA _ hi',QZ,Hq,aK,ak,aba,hkle,hkm,g1,g2,g3,← bZ,← df,bn,zG,aa7,bi,htk,wrap_i64 (n:=(i:Int)+1) (by omega) (by omega)]
     exact⟨i+1,Head.trans (Kr 5 rfl (J9 _ _ _)) (Head.sel [(5,false)] ⟨rfl,rfl,J9 _ _ _,trivial⟩ (by rw[hds,Rz]; rfl)),hi',by omega⟩
    ·simp only[go_sem]
     refine DrawK.mkE ?_
     simp only[go_sem,AA _ hi',QZ,Hq,aK,ak,aba,hkle,hkm,g1,g2,g3,← bZ,← df,bn,zG,aa7,bi,htk,wrap_i64 (n:=(i:Int)+1) (by omega) (by omega)]
     exact⟨i+1,Head.trans (Kr 5 rfl (J9 _ _ _)) (Head.sel [(5,false)] ⟨rfl,rfl,J9 _ _ _,trivial⟩ (by rw[hds,Rz]; rfl)),hi',by omega⟩
  ·simp only[go_sem,wrap_i64 (n:=(k:Int)+1) (by omega) (by omega)]
   exact⟨k+1,⟨rfl,all1 (AP (CX _))⟩,rfl,⟨h2',fun m h4 h5=>by
    by_cases e:m=k
    ·subst e; exact h3
    ·exact hless m h4 (by omega)⟩,by omega⟩
 ·have hi':i=l.length:=by simp at h; omega
  subst hi'
  simp only[go_sem,bP]
  try simp[BX,AY]
end Go.Proofs.YtnchiiikacemmaaGreat
