/- A part. -/
import Derived.Test.YtnfbaclikokapaaGreatYh
set_option linter.unusedSimpArgs false
set_option linter.unusedVariables false
set_option maxHeartbeats 2000000
set_option maxRecDepth 10000
namespace Go.Vm
theorem Head.frz {s:MS} (ls:List Nat) {st':List Ob} (h:Vw s.st ls=some st'):Head s ⟨s.n,s.env,st'⟩:=⟨rfl,fun w0 St0 St β a w hc=>by
 obtain⟨St',h'⟩:=YK ls s.st st' St hc h
 exact⟨St',β,h'⟩⟩
end Go.Vm
open Go.Proofs.Tryz
namespace Go.Proofs.YtnfbaclikokapaaGreat
open Go.Vm
theorem drop_cons {α:Type} {l:List α} {i:Nat} (h:i<l.length):l.drop i=l[i]::l.drop (i+1):=aG h
theorem Kv (v x:DVal) (r:List DVal) (i:Nat):placeOf v (x::r) i=if LC x v=true then some (i:Int) else placeOf v r (i+1):=rfl
theorem SC {v:DVal}:∀ {d:List DVal} {k:Nat} {i:Int},placeOf v d k=some i→(k:Int)≤i
 | [],_,_,h=>by cases h
 | x::r,k,i,h=>by
  rw[Kv] at h
  split at h
  ·simp only[ah] at h; omega
  ·have:=SC h; omega
theorem ABn (a b:DVal):LC a b=LC b a:=by
 rw[Bool.eq_iff_iff,JD,JD]; exact eq_comm
theorem jv (d:List DVal) (v:DVal) (hl:d.length≤1048576):Ctr prog 331 [.c (.sl (d.map DVal.c)),.agg v.c] [.val (.c (.v (.int .i64 ((placeOf v d 0).getD (-1)))))]:=by
 refine CM call331 func331 ntmps331 results331 fun hw=>?_
 simp only[go_sem]
 refine LoopU.mk 1 (A:=Nat) (fun x=>[(5,.c (.v (.int .i64 (x))))]) (fun _=>[⟨68,3,[v.c],true,true⟩]) (fun x=>x≤d.length∧placeOf v (d.drop x) x=placeOf v d 0) (fun x=>d.length-x) 0 ⟨⟨rfl,rfl⟩,rfl,ax _,rfl⟩ ?_
 rintro i ⟨hi,hp⟩
 simp only[go_sem]
 refine cndC.mk (fun h=>?_) (fun h=>?_)
 ·have hi':i<d.length:=by simp at h; omega
  have e1:(d[i].ty==v.ty&&(d[i].n==v.n&&d[i].s.toList==v.s.toList))=LC d[i] v:=rfl
  rw[drop_cons hi',Kv] at hp
  simp only[go_sem,AA _ hi']
  refine DrawK.mk ?_
  simp only[go_sem,AA _ hi',Dc,Gs,e1]
  rcases h2:LC d[i] v with _ | _
  ·simp only[h2,aC,aT] at hp
   simp only[go_sem,h2,wrap_i64 (n:=(i:Int)+1) (by omega) (by omega)]
   exact⟨i+1,⟨rfl,rfl⟩,rfl,⟨hi',hp⟩,by omega⟩
  ·simp only[h2,bD] at hp
   rw[← hp]
   simp only[go_sem,h2]
 ·have hi':i=d.length:=by simp at h; omega
  subst hi'
  rw[aU] at hp
  rw[← hp]
  simp only[go_sem,placeOf,qy]
theorem index_spec (d:List DVal) (v:DVal) (hl:d.length≤1048576):Ctr prog 341 [.c (.sl (d.map DVal.c)),.agg v.c] [.val (.c (.v (.int .i64 ((placeOf v d 0).getD (-1)))))]:=by
 refine CM call341 func341 ntmps341 results341 fun hw=>?_
 simp only[go_sem]
 refine LoopU.mk 1 (A:=Nat) (fun x=>[(8,.c (.v (.int .i64 (x))))]) (fun _=>[⟨68,3,[v.c],true,true⟩]) (fun x=>x≤d.length∧placeOf v (d.drop x) x=placeOf v d 0) (fun x=>d.length-x) 0 ⟨⟨rfl,rfl⟩,rfl,ax _,rfl⟩ ?_
 rintro i ⟨hi,hp⟩
 simp only[go_sem]
 refine cndC.mk (fun h=>?_) (fun h=>?_)
 ·have hi':i<d.length:=by simp at h; omega
  have e1:(v.ty==d[i].ty&&(v.n==d[i].n&&v.s.toList==d[i].s.toList))=LC v d[i]:=rfl
  rw[drop_cons hi',Kv] at hp
  simp only[go_sem,AA _ hi']
  refine DrawK.mk ?_
  simp only[go_sem,AA _ hi',Dc,Gs,e1,ABn v d[i]]
  rcases h2:LC d[i] v with _ | _
  ·simp only[h2,aC,aT] at hp
   simp only[go_sem,h2,wrap_i64 (n:=(i:Int)+1) (by omega) (by omega)]
   exact⟨i+1,⟨rfl,rfl⟩,rfl,⟨hi',hp⟩,by omega⟩
  ·simp only[h2,bD] at hp
   rw[← hp]
   simp only[go_sem,h2]
 ·have hi':i=d.length:=by simp at h; omega
  subst hi'
  rw[aU] at hp
  rw[← hp]
  simp only[go_sem,placeOf,qy]
theorem jw (d:List DVal) (v:DVal) (hl:d.length≤1048576):Ctr prog 338 [.c (.sl (d.map DVal.c)),.agg v.c] [.val (.c (.v (.int .i64 ((placeOf v d 0).getD (-1)))))]:=by
 refine CM call338 func338 ntmps338 results338 fun hw=>?_
 simp only[go_sem]
 refine CallK.mk _ (index_spec d v hl) fun _=>?_
 simp only[go_sem]
theorem places_cons (d:List DVal) (v:DVal) (l:List DVal):places d (v::l)=match placeOf v d 0,places d l with
  | some i,some r=>some (i::r)
  | _,_=>none:=rfl
theorem jy (d l:List DVal) (hl:l.length≤1048576) (hd:d.length≤1048576):Ctr prog 324 [.c (.sl (d.map DVal.c)),.c (.sl (l.map DVal.c))] (XO (places d l)):=by
 refine CM call324 func324 ntmps324 results324 fun hw=>?_
 simp only[go_sem]
 refine LoopH.mk [10] (A:=Nat×List Int) (fun x=>[(13,.c (.v (.int .i64 (x.1)))),(6,.c (.ref 0))]) (fun x=>[⟨3,1,x.2.map intC,true,true⟩]) (fun x=>x.1≤l.length∧x.2.length=x.1∧(places d (l.drop x.1)).map (fun y=>x.2++y)=places d l) (fun x=>l.length-x.1) (0,[]) (Head.sel [(0,false)] ⟨rfl,rfl,rfl,trivial⟩ rfl) ⟨ax _,rfl,by simp⟩ ?_
 rintro⟨i,out⟩ ⟨hi,hll,hp⟩
 dsimp only at hi hll hp
 simp only[go_sem]
 refine cndC.mk (fun h=>?_) (fun h=>?_)
 ·have hi':i<l.length:=by simp at h; omega
  have hl2:out.length+1≤2147483648:=by omega
  rw[drop_cons hi',places_cons] at hp
  simp only[go_sem,AA _ hi']
  refine CallK.mk _ (jw d l[i] hd) fun _=>?_
  rcases h2:placeOf l[i] d 0 with _ | p
  ·rw[h2] at hp
   simp only[di] at hp
   have h3:decide ((-1:Int)<0)=true:=by decide
   rw[← hp]
   simp only[go_sem,h2,qy,h3,XO]
  ·rw[h2] at hp
   have h3:decide (p<0)=false:=by have:=SC h2; simp; omega
   simp only[go_sem,h2,h3,hl2,wrap_i64 (n:=(i:Int)+1) (by omega) (by omega)]
   exact⟨(i+1,out ++ [p]),Head.sel [(3,false)] ⟨rfl,rfl,by rw[← FK]; exact Be _,trivial⟩ (by rw[FK]; rfl),⟨hi',by simp; omega,by
    rw[← hp]
    cases places d (l.drop (i+1))<;>simp⟩,by simp only; omega⟩
 ·have hi':i=l.length:=by simp at h; omega
  subst hi'
  rw[aU] at hp
  simp only[places,bP,bF] at hp
  rw[← hp]
  simp only[go_sem,XO]
  try simp[AU,AO]
theorem j_ (d l:List DVal) (hl:l.length≤1048576) (hd:d.length≤1048576):Ctr prog 312 [.c (.sl (d.map DVal.c)),.c (.sl (l.map DVal.c))] (XO (places d l)):=by
 refine CM call312 func312 ntmps312 results312 fun hw=>?_
 simp only[go_sem]
 refine LoopH.mk [9] (A:=Nat×List Int) (fun x=>[(7,.c (.v (.int .i64 (x.1)))),(6,.c (.ref 0))]) (fun x=>[⟨3,1,x.2.map intC,true,true⟩]) (fun x=>x.1≤l.length∧x.2.length=x.1∧(places d (l.drop x.1)).map (fun y=>x.2++y)=places d l) (fun x=>l.length-x.1) (0,[]) (Head.sel [(0,false)] ⟨rfl,rfl,rfl,trivial⟩ rfl) ⟨ax _,rfl,by simp⟩ ?_
 rintro⟨i,out⟩ ⟨hi,hll,hp⟩
 dsimp only at hi hll hp
 simp only[go_sem]
 refine cndC.mk (fun h=>?_) (fun h=>?_)
 ·have hi':i<l.length:=by simp at h; omega
  have hl2:out.length+1≤2147483648:=by omega
  rw[drop_cons hi',places_cons] at hp
  simp only[go_sem,AA _ hi']
  refine CallK.mk _ (jv d l[i] hd) fun _=>?_
  rcases h2:placeOf l[i] d 0 with _ | p
  ·rw[h2] at hp
   simp only[di] at hp
   have h3:decide ((-1:Int)<0)=true:=by decide
   rw[← hp]
   simp only[go_sem,h2,qy,h3,XO]
   try simp[Df]
  ·rw[h2] at hp
   have h3:decide (p<0)=false:=by have:=SC h2; simp; omega
   simp only[go_sem,h2,h3,hl2,wrap_i64 (n:=(i:Int)+1) (by omega) (by omega)]
   exact⟨(i+1,out ++ [p]),Head.sel [(2,false)] ⟨rfl,rfl,by rw[← FK]; exact Be _,trivial⟩ (by rw[FK]; rfl),⟨hi',by simp; omega,by
    rw[← hp]
    cases places d (l.drop (i+1))<;>simp⟩,by simp only; omega⟩
 ·have hi':i=l.length:=by simp at h; omega
  subst hi'
  rw[aU] at hp
  simp only[places,bP,bF] at hp
  rw[← hp]
  simp only[go_sem,XO]
  try simp[AU,AO]
theorem V_ (d:List DVal) (i:Int) (l:List Int):picked d (i::l)=if 0≤i then match d[i.toNat]?,picked d l with
   | some v,some r=>some (v::r)
   | _,_=>none
  else none:=rfl
theorem SE {d:List DVal} {i:Int} (l:List Int) (h:¬ (0≤i∧i<d.length)):picked d (i::l)=none:=by
 rw[V_]
 split
 ·have:d[i.toNat]?=none:=by rw[abp]; omega
  rw[this]
 ·rfl
theorem eu {d:List DVal} {i:Nat} (l:List Int) (h:i<d.length):picked d ((i:Int)::l)=(picked d l).map (fun r=>d[i]::r):=by
 rw[V_,bz (by omega),bY,aA h]
 cases picked d l<;>rfl
theorem kC (d:List DVal) (l:List Int) (hl:l.length≤1048576) (hd:d.length≤1048576):Ctr prog 299 [.c (.sl (d.map DVal.c)),.c (.sl (l.map intC))] (Cj (picked d l)):=by
 refine CM call299 func299 ntmps299 results299 fun hw=>?_
 simp only[go_sem]
 refine LoopH.mk [9] (A:=Nat×List DVal) (fun x=>[(12,.c (.v (.int .i64 (x.1)))),(6,.c (.ref 0))]) (fun x=>[⟨68,3,x.2.map DVal.c,true,true⟩]) (fun x=>x.1≤l.length∧x.2.length=x.1∧(picked d (l.drop x.1)).map (fun y=>x.2++y)=picked d l) (fun x=>l.length-x.1) (0,[]) (Head.sel [(0,false)] ⟨rfl,rfl,rfl,trivial⟩ rfl) ⟨ax _,rfl,by simp⟩ ?_
 rintro⟨i,out⟩ ⟨hi,hll,hp⟩
 dsimp only at hi hll hp
 simp only[go_sem]
 refine cndC.mk (fun h=>?_) (fun h=>?_)
 ·have hi':i<l.length:=by simp at h; omega
  have hl2:out.length+1≤2147483648:=by omega
  rw[drop_cons hi'] at hp
  simp only[go_sem,AA _ hi']
  rcases h2:decide (l[i]<0) with _ | _
  ·have h2':0≤l[i]:=by simpa using h2
   rcases h3:decide (l[i]≥(d.length:Int)) with _ | _
   ·have h3':l[i]<d.length:=by simpa using h3
    obtain⟨p,hpe⟩:=aP h2'
    have hp':p<d.length:=by omega
    rw[hpe,eu _ hp'] at hp
    rw[hpe] at h2 h3
    simp only[go_sem,hpe,h2,h3,hl2,AA _ hp',wrap_i64 (n:=(i:Int)+1) (by omega) (by omega)]
    exact⟨(i+1,out ++ [d[p]]),Head.sel [(2,false)] ⟨rfl,rfl,Ku _ _,trivial⟩ (by rw[FM]; rfl),⟨hi',by simp; omega,by
     rw[← hp,yV]; congr 1; funext y; simp⟩,by simp only; omega⟩
   ·rw[SE _ (by simp at h3; omega)] at hp
    rw[← hp]
    simp only[go_sem,h2,h3,di,Cj]
  ·rw[SE _ (by simp at h2; omega)] at hp
   rw[← hp]
   simp only[go_sem,h2,di,Cj]
 ·have hi':i=l.length:=by simp at h; omega
  subst hi'
  rw[aU] at hp
  simp only[picked,bP,bF] at hp
  rw[← hp]
  simp only[go_sem,Cj]
  try simp[AU,AO]
theorem UJ (d:List DVal) (l:List Int) (hl:l.length≤1048576) (hd:d.length≤1048576):Ctr prog 286 [.c (.sl (d.map DVal.c)),.c (.sl (l.map intC))] (Cj (picked d l)):=by
 refine CM call286 func286 ntmps286 results286 fun hw=>?_
 simp only[go_sem]
 refine LoopH.mk [8] (A:=Nat×List DVal) (fun x=>[(7,.c (.v (.int .i64 (x.1)))),(6,.c (.ref 0))]) (fun x=>[⟨68,3,x.2.map DVal.c,true,true⟩]) (fun x=>x.1≤l.length∧x.2.length=x.1∧(picked d (l.drop x.1)).map (fun y=>x.2++y)=picked d l) (fun x=>l.length-x.1) (0,[]) (Head.sel [(0,false)] ⟨rfl,rfl,rfl,trivial⟩ rfl) ⟨ax _,rfl,by simp⟩ ?_
 rintro⟨i,out⟩ ⟨hi,hll,hp⟩
 dsimp only at hi hll hp
 simp only[go_sem]
 refine cndC.mk (fun h=>?_) (fun h=>?_)
 ·have hi':i<l.length:=by simp at h; omega
  have hl2:out.length+1≤2147483648:=by omega
  rw[drop_cons hi'] at hp
  simp only[go_sem,AA _ hi',wrap_i64 (n:=(d.length:Int)-1) (by omega) (by omega)]
  refine CallK.mk _ (AL _ _ _) fun _=>?_
  rcases h2:Ac l[i] 0 ((d.length:Int)-1) with _ | _
  ·rw[SE _ (by simp[Ac] at h2; omega)] at hp
   rw[← hp]
   simp only[go_sem,h2,di,Cj]
   try simp[Df]
  ·have h2':0≤l[i]∧l[i]<d.length:=by simp[Ac] at h2; omega
   obtain⟨p,hpe⟩:=aP h2'.1
   have hp':p<d.length:=by omega
   rw[hpe,eu _ hp'] at hp
   rw[hpe] at h2
   simp only[go_sem,AA _ hi',hpe,h2,hl2,AA _ hp',wrap_i64 (n:=(i:Int)+1) (by omega) (by omega)]
   exact⟨(i+1,out ++ [d[p]]),Head.sel [(2,false)] ⟨rfl,rfl,Ku _ _,trivial⟩ (by rw[FM]; rfl),⟨hi',by simp; omega,by
    rw[← hp,yV]; congr 1; funext y; simp⟩,by simp only; omega⟩
 ·have hi':i=l.length:=by simp at h; omega
  subst hi'
  rw[aU] at hp
  simp only[picked,bP,bF] at hp
  rw[← hp]
  simp only[go_sem,Cj]
  try simp[AU,AO]
theorem uY {l:List DVal} (h:0<l.length):Bq (l.take 1)=l[0].n:=by
 cases l with
 | nil=>simp at h
 | cons v r=>rfl
theorem WA {l:List DVal} {i:Nat} (h0:0<i) (h:i<l.length):Bq (l.take (i+1))=min (Bq (l.take i)) l[i].n:=by
 cases l with
 | nil=>simp at h
 | cons v r =>
  obtain⟨j,rfl⟩:∃ j,i=j+1:=⟨i-1,by omega⟩
  have hj:j<r.length:=by simpa using h
  simp only[abt,aby]
  show (r.take (j+1)).foldl _ _=min ((r.take j).foldl _ _) _
  rw[aas hj,List.foldl_append]
  rfl
theorem qB {l:List DVal} (h:0<l.length):l.foldl (fun n x=>min n x.n) l[0].n=Bq l:=by
 cases l with
 | nil=>simp at h
 | cons v r =>
  show r.foldl _ (min v.n v.n)=r.foldl _ v.n
  rw[show min v.n v.n=v.n by omega]
theorem VI:∀ {l:List DVal} {v:DVal},v∈l→Bq l≤v.n∧∃ x∈l,Bq l=x.n:=by
 have key:∀ (r:List DVal) (n:Int),r.foldl (fun n x=>min n x.n) n≤n∧(∀ x∈r,r.foldl (fun n x=>min n x.n) n≤x.n)∧(r.foldl (fun n x=>min n x.n) n=n∨∃ x∈r,r.foldl (fun n x=>min n x.n) n=x.n):=by
  intro r
  induction r with
  | nil=>intro n; simp
  | cons v r ih =>
   intro n
   obtain⟨a1,a2,a3⟩:=ih (min n v.n)
   simp only[abn]
   refine⟨by omega,fun x hx=>?_, ?_⟩
   ·rcases cZ.1 hx with rfl | hx
    ·omega
    ·exact a2 x hx
   ·rcases a3 with a3 | ⟨x,hx,a3⟩
    ·by_cases h:n≤v.n
     ·left; omega
     ·right; exact⟨v,by simp,by omega⟩
    ·right; exact⟨x,by simp[hx],a3⟩
 intro l v hv
 cases l with
 | nil=>cases hv
 | cons w r =>
  obtain⟨a1,a2,a3⟩:=key r w.n
  have e:Bq (w::r)=r.foldl (fun n x=>min n x.n) w.n:=rfl
  rw[e]
  refine⟨?_, ?_⟩
  ·rcases cZ.1 hv with rfl | hv
   ·exact a1
   ·exact a2 v hv
  ·rcases a3 with a3 | ⟨x,hx,a3⟩
   ·exact⟨w,by simp,a3⟩
   ·exact⟨x,by simp[hx],a3⟩
theorem XQ {v:DVal} (h:BD v=true) (h1:v.ty=1) : -1000000000≤v.n∧v.n≤1000000000:=by
 simp only[BD,bz h1,ak] at h
 simpa [DX,Ac] using h.1
theorem ABo {l:List DVal} (h:typeOf l=1) {v:DVal} (hv:v∈l):0≤v.n-Bq l∧v.n-Bq l≤2000000000:=by
 obtain⟨_,_,q3⟩:=Cc (l:=l) (by omega)
 obtain⟨a1,x,hx,a2⟩:=VI hv
 have b1:=XQ (q3 v hv).1 ((q3 v hv).2.trans h)
 have b2:=XQ (q3 x hx).1 ((q3 x hx).2.trans h)
 omega
theorem take_snoc' {α:Type} {l:List α} {i:Nat} (h:i<l.length):l.take (i+1)=l.take i ++ [l[i]]:=aas h
theorem AE5 (a b:Int):min a b=if b<a then b else a:=by split<;>omega
theorem Jc {α β:Type} (f:α→β) {l:List α} {i:Nat} (h:i<l.length):(l.take (i+1)).map f=(l.take i).map f ++ [f l[i]]:=by
 rw[aas h,Vp]; rfl
theorem Yl (l:List DVal) (hl:l.length≤1048576):Ctr prog 316 [.c (.sl (l.map DVal.c))] [.val (.c (.v (.int .i64 (Bq l))))]:=by
 refine CM call316 func316 ntmps316 results316 fun hw=>?_
 simp only[go_sem]
 refine LoopU.mk 0 (A:=Nat) (fun x=>[(4,.c (.v (.int .i64 (x)))),(3,.c (.v (.int .i64 (Bq (l.take x)))))]) (fun _=>[]) (fun x=>x≤l.length) (fun x=>l.length-x) 0 ⟨⟨rfl,rfl⟩,rfl,ax _⟩ ?_
 rintro i hi
 simp only[go_sem]
 refine cndC.mk (fun h=>?_) (fun h=>?_)
 ·have hi':i<l.length:=by simp at h; omega
  rcases h2:((i:Int)==0) with _ | _
  ·have h2':0<i:=by simp at h2; omega
   rcases h3:decide (l[i].n<Bq (l.take i)) with _ | _
   ·have e:Bq (l.take (i+1))=Bq (l.take i):=by rw[WA h2' hi']; simp at h3; omega
    simp only[go_sem,AA _ hi',h2,h3,wrap_i64 (n:=(i:Int)+1) (by omega) (by omega)]
    exact⟨i+1,⟨rfl,rfl⟩,by rw[e]; rfl,hi',by omega⟩
   ·have e:Bq (l.take (i+1))=l[i].n:=by rw[WA h2' hi']; simp at h3; omega
    simp only[go_sem,AA _ hi',h2,h3,wrap_i64 (n:=(i:Int)+1) (by omega) (by omega)]
    exact⟨i+1,⟨rfl,rfl⟩,by rw[e]; rfl,hi',by omega⟩
  ·have h2':i=0:=by simpa using h2
   subst h2'
   have e:Bq (l.take (0+1))=l[0].n:=uY hi'
   simp only[go_sem,AA _ hi',h2,wrap_i64 (n:=((0:Nat):Int)+1) (by omega) (by omega)]
   exact⟨0+1,⟨rfl,rfl⟩,by rw[e]; rfl,hi',by omega⟩
 ·have hi':i=l.length:=by simp at h; omega
  subst hi'
  simp only[go_sem,bG]
theorem Ym (l:List DVal) (hl:l.length≤1048576):Ctr prog 328 [.c (.sl (l.map DVal.c))] [.val (.c (.v (.int .i64 (Bq l))))]:=by
 refine CM call328 func328 ntmps328 results328 fun hw=>?_
 rcases h1:((l.length:Int)==0) with _ | _
 rotate_left
 ·have:l = []:=by simpa using h1
  have e:Bq l=0:=by rw[this]; rfl
  rw[e]
  simp only[go_sem,h1]
 have h0:0<l.length:=by
  rcases abo l.length with h | h
  ·rw[h] at h1; exact absurd h1 (by decide)
  ·exact h
 simp only[go_sem,h1,AA _ h0]
 refine LoopU.mk 0 (A:=Nat) (fun x=>[(15,.c (.v (.int .i64 (x)))),(3,.c (.v (.int .i64 ((l.take x).foldl (fun n x=>min n x.n) l[0].n))))]) (fun _=>[]) (fun x=>x≤l.length) (fun x=>l.length-x) 0 ⟨⟨rfl,rfl⟩,rfl,ax _⟩ ?_
 rintro i hi
 simp only[go_sem]
 refine cndC.mk (fun h=>?_) (fun h=>?_)
 ·have hi':i<l.length:=by simp at h; omega
  simp only[go_sem,AA _ hi',wrap_i64 (n:=(i:Int)+1) (by omega) (by omega)]
  exact⟨i+1,⟨rfl,rfl⟩,by rw[take_snoc' hi',List.foldl_append,abn,List.foldl_nil,AE5]; rfl,hi',by omega⟩
 ·have hi':i=l.length:=by simp at h; omega
  subst hi'
  rw[← qB h0]
  simp only[go_sem,bG]
theorem Zy (l:List DVal) (hl:l.length≤1048576):Ctr prog 326 [.c (.sl (l.map DVal.c))] [.own 3 1 ((offsets l).map intC) true]:=by
 refine CM call326 func326 ntmps326 results326 fun hw=>?_
 simp only[go_sem]
 refine CallK.mk _ (Bz l hl) fun _=>?_
 rcases h1:typeOf l != 1 with _ | _
 ·have h1':typeOf l=1:=by simpa using h1
  obtain⟨q1,q2,q3⟩:=Cc (l:=l) (by omega)
  have e:offsets l=l.map fun v=>v.n-Bq l:=aV (by omega)
  rw[e]
  simp only[go_sem,h1]
  refine LoopH.mk [6] (A:=Nat) (fun x=>[(13,.c (.v (.int .i64 (x)))),(3,.c (.ref 0))]) (fun x=>[⟨3,1,((l.take x).map fun v=>v.n-Bq l).map intC,true,true⟩]) (fun x=>x≤l.length) (fun x=>l.length-x) 0 (Head.sel [(0,false)] ⟨rfl,rfl,rfl,trivial⟩ rfl) (ax _) ?_
  rintro i hi
  simp only[go_sem]
  refine cndC.mk (fun h=>?_) (fun h=>?_)
  ·have hi':i<l.length:=by simp at h; omega
   have ho:=ABo h1' (aj hi')
   have hl2:i+1≤2147483648:=by omega
   simp only[go_sem,AA _ hi']
   refine DrawK.edge 4 6 [0,1,2,3,4,5,6,7,8] [5,6] rfl (by kernel_rfl) rfl (by kernel_rfl) ?_
   simp only[go_sem]
   refine DrawK.mkE ?_
   simp only[go_sem]
   refine CallE.mk _ (Ym l hl) ?_
   simp only[go_sem,hl2,bC,X4 hi,wrap_i64 (n:=l[i].n-Bq l) (by omega) (by omega),wrap_i64 (n:=(i:Int)+1) (by omega) (by omega)]
   exact⟨i+1,Head.sel [(3,false)] ⟨rfl,rfl,by rw[← FK]; exact Be _,trivial⟩ (by rw[Jc _ hi',FK]; rfl),hi',by omega⟩
  ·have hi':i=l.length:=by simp at h; omega
   subst hi'
   simp only[go_sem,bG]
   try simp[AU,AO]
 ·have h1':typeOf l≠1:=by simpa using h1
  have e:offsets l = []:=bz h1'
  rw[e]
  simp only[go_sem,h1]
  try simp[AU,AO,Df]
theorem Zz (l:List DVal) (hl:l.length≤1048576):Ctr prog 314 [.c (.sl (l.map DVal.c))] [.own 3 1 ((offsets l).map intC) true]:=by
 refine CM call314 func314 ntmps314 results314 fun hw=>?_
 simp only[go_sem]
 refine CallK.mk _ (D8 l hl) fun _=>?_
 rcases h1:typeOf l != 1 with _ | _
 ·have h1':typeOf l=1:=by simpa using h1
  obtain⟨q1,q2,q3⟩:=Cc (l:=l) (by omega)
  have e:offsets l=l.map fun v=>v.n-Bq l:=aV (by omega)
  rw[e]
  simp only[go_sem,h1]
  refine CallK.mk _ (Yl l hl) fun _=>?_
  simp only[go_sem]
  refine LoopH.mk [6] (A:=Nat) (fun x=>[(5,.c (.v (.int .i64 (x)))),(3,.c (.ref 0))]) (fun x=>[⟨3,1,((l.take x).map fun v=>v.n-Bq l).map intC,true,true⟩]) (fun x=>x≤l.length) (fun x=>l.length-x) 0 (Head.sel [(0,false)] ⟨rfl,rfl,rfl,trivial⟩ rfl) (ax _) ?_
  rintro i hi
  simp only[go_sem]
  refine cndC.mk (fun h=>?_) (fun h=>?_)
  ·have hi':i<l.length:=by simp at h; omega
   have ho:=ABo h1' (aj hi')
   have hl2:i+1≤2147483648:=by omega
   simp only[go_sem,AA _ hi',hl2,bC,X4 hi,wrap_i64 (n:=l[i].n-Bq l) (by omega) (by omega),wrap_i64 (n:=(i:Int)+1) (by omega) (by omega)]
   exact⟨i+1,Head.sel [(2,false)] ⟨rfl,rfl,by rw[← FK]; exact Be _,trivial⟩ (by rw[Jc _ hi',FK]; rfl),hi',by omega⟩
  ·have hi':i=l.length:=by simp at h; omega
   subst hi'
   simp only[go_sem,bG]
   try simp[AU,AO]
 ·have h1':typeOf l≠1:=by simpa using h1
  have e:offsets l = []:=bz h1'
  rw[e]
  simp only[go_sem,h1]
  try simp[AU,AO,Df]
def rOk (base x:Int):Prop:=(0≤x∧x≤2000000000)∧base+x≤1000000000
theorem VJ {base:Int} {l:List Int} (h:¬ (-1000000000≤base∧base≤1000000000)):raised base l=none:=aV fun q=>h q.1
theorem Oe {base:Int} {l:List Int} {i:Nat} (hi:i<l.length) (h:¬ rOk base l[i]):raised base l=none:=aV fun q=>h (q.2 _ (aj hi))
theorem Yn {base:Int} {l:List Int} (h : -1000000000≤base∧base≤1000000000) (h2:∀ i (hi:i<l.length),rOk base l[i]):raised base l=some (l.map fun x=>⟨1,base+x,ByteArray.empty⟩):=bz ⟨h,fun x hx=>by
 obtain⟨i,hi,rfl⟩:=aaI hx
 exact h2 i hi⟩
theorem DL (x:Int):DX x=true↔ -1000000000≤x∧x≤1000000000:=by simp[DX,Ac]
theorem kD (base:Int) (l:List Int) (hl:l.length≤1048576):Ctr prog 301 [.c (.v (.int .i64 (base))),.c (.sl (l.map intC))] (Cj (raised base l)):=by
 refine CM call301 func301 ntmps301 results301 fun hw=>?_
 simp only[go_sem]
 refine CallK.mk _ (LX _) fun _=>?_
 rcases h1:DX base with _ | _
 ·rw[VJ (by rw[← DL,h1]; simp)]
  simp only[go_sem,h1,Cj]
  try simp[Df]
 have hb:=(DL base).1 h1
 simp only[go_sem,h1]
 refine LoopH.mk [12] (A:=Nat) (fun x=>[(15,.c (.v (.int .i64 (x)))),(6,.c (.ref 0))]) (fun x=>[⟨68,3,((l.take x).map fun(x:Int)=>(⟨1,base+x,ByteArray.empty⟩:DVal)).map DVal.c,true,true⟩]) (fun x=>x≤l.length∧∀ m (h:m<l.length),m<x→rOk base l[m]) (fun x=>l.length-x) 0 (Head.sel [(0,false)] ⟨rfl,rfl,rfl,trivial⟩ rfl) ⟨ax _,fun m h h2=>by omega⟩ ?_
 rintro i ⟨hi,hok⟩
 simp only[go_sem]
 refine cndC.mk (fun h=>?_) (fun h=>?_)
 ·have hi':i<l.length:=by simp at h; omega
  simp only[go_sem,AA _ hi']
  refine CallK.mk _ (AC _ _ _) fun _=>?_
  rcases h2:Ac l[i] 0 2000000000 with _ | _
  ·rw[Oe hi' (fun q=>by have:=q.1; simp[Ac] at h2; omega)]
   simp only[go_sem,h2,Cj]
  have h2':0≤l[i]∧l[i]≤2000000000:=by simp[Ac] at h2; omega
  rcases h3:decide (base+l[i]>1000000000) with _ | _
  ·have hl2:i+1≤2147483648:=by omega
   simp only[go_sem,AA _ hi',h2,h3,hl2,wrap_i64 (n:=base+l[i]) (by omega) (by omega),wrap_i64 (n:=(i:Int)+1) (by omega) (by omega),bC,X4 hi]
   exact⟨i+1,Head.sel [(2,false)] ⟨rfl,rfl,Ku _ ⟨1,base+l[i],ByteArray.empty⟩,trivial⟩ (by rw[Jc _ hi',FM]; rfl),⟨hi',fun m h4 h5=>by
    by_cases e:m=i
    ·subst e; exact⟨h2',by simp at h3; omega⟩
    ·exact hok m h4 (by omega)⟩,by omega⟩
  ·rw[Oe hi' (fun q=>by have:=q.2; simp at h3; omega)]
   simp only[go_sem,AA _ hi',h2,h3,wrap_i64 (n:=base+l[i]) (by omega) (by omega),Cj]
 ·have hi':i=l.length:=by simp at h; omega
  subst hi'
  rw[Yn hb fun m hm=>hok m hm hm]
  simp only[go_sem,Cj,bG]
  try simp[AU,AO]
theorem UK (base:Int) (l:List Int) (hl:l.length≤1048576):Ctr prog 288 [.c (.v (.int .i64 (base))),.c (.sl (l.map intC))] (Cj (raised base l)):=by
 refine CM call288 func288 ntmps288 results288 fun hw=>?_
 simp only[go_sem]
 refine LoopH.mk [8] (A:=Nat) (fun x=>[(7,.c (.v (.int .i64 (x)))),(6,.c (.ref 0))]) (fun x=>[⟨68,3,((l.take x).map fun(x:Int)=>(⟨1,base+x,ByteArray.empty⟩:DVal)).map DVal.c,true,true⟩]) (fun x=>x≤l.length∧(0<x→ -1000000000≤base∧base≤1000000000)∧∀ m (h:m<l.length),m<x→rOk base l[m]) (fun x=>l.length-x) 0 (Head.sel [(0,false)] ⟨rfl,rfl,rfl,trivial⟩ rfl) ⟨ax _,fun h=>by omega,fun m h h2=>by omega⟩ ?_
 rintro i ⟨hi,hbs,hok⟩
 simp only[go_sem]
 refine cndC.mk (fun h=>?_) (fun h=>?_)
 ·have hi':i<l.length:=by simp at h; omega
  simp only[go_sem]
  refine CallK.mk _ (Iu _) fun _=>?_
  rcases h1:DX base with _ | _
  ·rw[VJ (by rw[← DL,h1]; simp)]
   simp only[go_sem,h1,Cj]
   try simp[Df]
  have hb:=(DL base).1 h1
  simp only[go_sem,h1,AA _ hi']
  refine CallK.mk _ (AL _ _ _) fun _=>?_
  rcases h2:Ac l[i] 0 2000000000 with _ | _
  ·rw[Oe hi' (fun q=>by have:=q.1; simp[Ac] at h2; omega)]
   simp only[go_sem,h2,Cj]
  have h2':0≤l[i]∧l[i]≤2000000000:=by simp[Ac] at h2; omega
  rcases h3:decide (base+l[i]>1000000000) with _ | _
  ·have hl2:i+1≤2147483648:=by omega
   simp only[go_sem,AA _ hi',h2,h3,hl2,wrap_i64 (n:=base+l[i]) (by omega) (by omega),wrap_i64 (n:=(i:Int)+1) (by omega) (by omega),bC,X4 hi]
   exact⟨i+1,Head.sel [(2,false)] ⟨rfl,rfl,Ku _ ⟨1,base+l[i],ByteArray.empty⟩,trivial⟩ (by rw[Jc _ hi',FM]; rfl),⟨hi',fun _=>hb,fun m h4 h5=>by
    by_cases e:m=i
    ·subst e; exact⟨h2',by simp at h3; omega⟩
    ·exact hok m h4 (by omega)⟩,by omega⟩
  ·rw[Oe hi' (fun q=>by have:=q.2; simp at h3; omega)]
   simp only[go_sem,AA _ hi',h2,h3,wrap_i64 (n:=base+l[i]) (by omega) (by omega),Cj]
 ·have hi':i=l.length:=by simp at h; omega
  subst hi'
  simp only[go_sem,bG]
  refine CallK.mk _ (Iu _) fun _=>?_
  rcases h1:DX base with _ | _
  ·rw[VJ (by rw[← DL,h1]; simp)]
   have:l = []:=by
    by_cases h0:0<l.length
    ·have:=(DL base).2 (hbs h0); rw[h1] at this; cases this
    ·cases l<;>simp_all
   subst this
   simp only[go_sem,h1,Cj]
   try simp[Df]
  have hb:=(DL base).1 h1
  rw[Yn hb fun m hm=>hok m hm hm]
  simp only[go_sem,h1,Cj]
  try simp[AU,AO]
theorem LK {s:MS} (l:Nat) {ob:Ob} (h:CO s.st l=some ob) (hp:F5 ob.xs=true):Head s ⟨s.n,s.env,O5 s.st l⟩:=Head.frz [l] (by simp only[Vw,h,hp,bD])
theorem Qq (l:List DVal):((l.map DVal.c).all fun r=>r.length==3)=true:=aF.2 fun r hr=>by
 obtain⟨x,_,rfl⟩:=WY.1 hr
 rfl
theorem Yo (v x:DVal) (r:List DVal):ins v (x::r)=if EN x v=true then x::ins v r else if LC x v=true then x::r else v::x::r:=rfl
theorem xH (v:DVal):∀ {d:List DVal},(∀ m (h:m<d.length),EN d[m] v=true)→ins v d=d ++ [v]
 | [],_=>rfl
 | x::r,h=>by
  have h0:=h 0 (by simp)
  simp only[abx] at h0
  rw[Yo,bz h0,xH v fun m hm=>by
   have:=h (m+1) (by simpa using hm)
   simpa using this]
  rfl
theorem xI (v:DVal):∀ {d:List DVal} {k:Nat} (hk:k<d.length),(∀ m (h:m<d.length),m<k→EN d[m] v=true)→EN d[k] v=false→ins v d=if LC d[k] v=true then d else d.take k++v::d.drop k
 | [],k,hk,_,_=>by simp at hk
 | x::r,0,_,_,h2=>by
  simp only[abx] at h2
  rw[Yo,h2,aV (by simp)]
  rfl
 | x::r,k+1,hk,h1,h2=>by
  have h0:=h1 0 (by simp) (by omega)
  simp only[abx] at h0
  simp only[aby] at h2
  rw[Yo,bz h0,xI v (k:=k) (by simpa using hk) (fun m hm hm2=>by
   have:=h1 (m+1) (by simpa using hm) (by omega)
   simpa using this) h2]
  simp only[aby]
  split<;>rfl
theorem zU {l:List DVal} {i:Nat} (h:i<l.length):CG (l.take (i+1))=ins l[i] (CG (l.take i)):=by
 rw[take_snoc h]
 simp only[CG,List.foldl_append,abn,List.foldl_nil]
theorem SG (a b:List DVal) (v:DVal):(a++v::b).map DVal.c=a.map DVal.c ++ [v.c]++b.map DVal.c:=by simp
theorem KG (a b:List DVal) (v:DVal):F5 (a.map DVal.c ++ [v.c]++b.map DVal.c)=true:=by rw[← SG]; exact OW _
theorem uZ (l:List DVal) (hl:l.length≤1048576):Ctr prog 311 [.c (.sl (l.map DVal.c))] [.val (.c (.sl ((CG l).map DVal.c)))]:=by
 refine CM call311 func311 ntmps311 results311 fun hw=>?_
 simp only[go_sem]
 refine LoopH.mk [6] (A:=Nat) (fun x=>[(4,.c (.v (.int .i64 (x)))),(3,.c (.ref 0))]) (fun x=>[⟨68,3,(CG (l.take x)).map DVal.c,false,true⟩]) (fun x=>x≤l.length) (fun x=>l.length-x) 0 (Head.trans (Head.frz [0] rfl) (Head.sel [(0,false)] ⟨rfl,rfl,rfl,trivial⟩ rfl)) (ax _) ?_
 rintro i hi
 simp only[go_sem]
 refine cndC.mk (fun h=>?_) (fun h=>?_)
 ·have hi':i<l.length:=by simp at h; omega
  have hdl:=Nr (l.take i)
  rw[bC] at hdl
  have hds:=zU hi'
  generalize hd:CG (l.take i)=d at hdl hds
  simp only[go_sem,hd]
  refine LoopU.mk 1 (A:=Nat) (fun x=>[(5,.c (.v (.int .i64 (x))))]) (fun _=>[⟨68,3,d.map DVal.c,false,true⟩]) (fun x=>x≤d.length∧∀ m (h:m<d.length),m<x→EN d[m] l[i]=true) (fun x=>d.length-x) 0 ⟨⟨rfl,all1 (AP (CV _))⟩,rfl,ax _,fun m h h2=>by omega⟩ ?_
  rintro k ⟨hk,hless⟩
  rcases h2:decide ((k:Int)<(d.length:Int)) with _ | _
  ·have h2':k=d.length:=by simp at h2; omega
   have hkle:k≤d.length:=hk
   have hins:=xH l[i] fun m hm=>hless m hm (by omega)
   have hds:CG (l.take (i+1))=d.take k++l[i]::d.drop k:=by rw[hds,hins,h2']; simp
   have h3:((k:Int)==(d.length:Int))=true:=by simp; omega
   simp only[go_sem]
   refine DrawK.mk ?_
   simp only[go_sem,h2]
   refine DrawK.mk ?_
   simp only[go_sem,h3]
   have hkm:min k d.length=k:=by omega
   have g1:k≤2147483648:=by omega
   have g2:k+1≤2147483648:=by omega
   have g3:k+1+(d.length-k)≤2147483648:=by omega
   have htk:(d.drop k).take (d.length-k)=d.drop k:=aaC (by simp)
   refine DrawK.split 4 9 [0,1,2,3,4,5,6,7,8,9,10,11,12,13,14,15] [0,5,6,7,8,9,1,2,3,4,10,11,12,13,14,15] rfl (by kernel_rfl) (by kernel_rfl) ?_ ?_
   ·simp only[go_sem]
    refine DrawK.mkE ?_
    simp only[go_sem,AA _ hi',Qq,G7,aN,ax,aa9,hkle,hkm,g1,g2,g3,← bV,← bW,bC,yT,aa4,aI,htk,bG,wrap_i64 (n:=(i:Int)+1) (by omega) (by omega)]
    exact⟨i+1,Head.trans (LK 5 rfl (KG _ _ _)) (Head.sel [(5,false)] ⟨rfl,rfl,KG _ _ _,trivial⟩ (by rw[hds,SG]; rfl)),hi',by omega⟩
   ·simp only[go_sem]
    refine DrawK.split 0 5 [0,1,2,3,4,5,6,7,8,9,10,11,12,13,14,15] [1,2,3,4,5,0,6,7,8,9,10,11,12,13,14,15] rfl (by kernel_rfl) (by kernel_rfl) ?_ ?_
    ·simp only[go_sem]
     refine DrawK.mkE ?_
     simp only[go_sem,AA _ hi',Qq,G7,aN,ax,aa9,hkle,hkm,g1,g2,g3,← bV,← bW,bC,yT,aa4,aI,htk,bG,wrap_i64 (n:=(i:Int)+1) (by omega) (by omega)]
     exact⟨i+1,Head.trans (LK 5 rfl (KG _ _ _)) (Head.sel [(5,false)] ⟨rfl,rfl,KG _ _ _,trivial⟩ (by rw[hds,SG]; rfl)),hi',by omega⟩
    ·simp only[go_sem]
     refine DrawK.mkE ?_
     simp only[go_sem,AA _ hi',Qq,G7,aN,ax,aa9,hkle,hkm,g1,g2,g3,← bV,← bW,bC,yT,aa4,aI,htk,bG,wrap_i64 (n:=(i:Int)+1) (by omega) (by omega)]
     exact⟨i+1,Head.trans (LK 5 rfl (KG _ _ _)) (Head.sel [(5,false)] ⟨rfl,rfl,KG _ _ _,trivial⟩ (by rw[hds,SG]; rfl)),hi',by omega⟩
  have h2':k<d.length:=by simpa using h2
  simp only[go_sem]
  refine DrawK.mk ?_
  simp only[go_sem,h2,h2',AA _ h2',AA _ hi']
  have e1:(d[k].ty==l[i].ty&&(d[k].n==l[i].n&&d[k].s.toList==l[i].s.toList))=LC d[k] l[i]:=rfl
  refine CY (Za d[k] l[i]) ?_
  rcases h3:EN d[k] l[i] with _ | _
  ·have hins:=xI l[i] h2' hless h3
   have h4:((k:Int)==(d.length:Int))=false:=by simp; omega
   simp only[go_sem]
   refine DrawK.mk ?_
   simp only[go_sem,h4,h2',AA _ h2',AA _ hi',Dc,Gs,e1]
   rcases h5:LC d[k] l[i] with _ | _
   rotate_left
   ·have hds:CG (l.take (i+1))=d:=by rw[hds,hins,bz h5]
    simp only[go_sem,h5,wrap_i64 (n:=(i:Int)+1) (by omega) (by omega)]
    exact⟨i+1,Head.sel [(0,false)] ⟨rfl,rfl,OW _,trivial⟩ (by rw[hds]; rfl),hi',by omega⟩
   have hds:CG (l.take (i+1))=d.take k++l[i]::d.drop k:=by rw[hds,hins,h5,aV (by simp)]
   have hkle:k≤d.length:=hk
   simp only[go_sem,h5]
   have hkm:min k d.length=k:=by omega
   have g1:k≤2147483648:=by omega
   have g2:k+1≤2147483648:=by omega
   have g3:k+1+(d.length-k)≤2147483648:=by omega
   have htk:(d.drop k).take (d.length-k)=d.drop k:=aaC (by simp)
   refine DrawK.split 4 9 [0,1,2,3,4,5,6,7,8,9,10,11,12,13,14,15] [0,5,6,7,8,9,1,2,3,4,10,11,12,13,14,15] rfl (by kernel_rfl) (by kernel_rfl) ?_ ?_
   ·simp only[go_sem]
    refine DrawK.mkE ?_
    simp only[go_sem,AA _ hi',Qq,G7,aN,ax,aa9,hkle,hkm,g1,g2,g3,← bV,← bW,bC,yT,aa4,aI,htk,bG,wrap_i64 (n:=(i:Int)+1) (by omega) (by omega)]
    exact⟨i+1,Head.trans (LK 5 rfl (KG _ _ _)) (Head.sel [(5,false)] ⟨rfl,rfl,KG _ _ _,trivial⟩ (by rw[hds,SG]; rfl)),hi',by omega⟩
   ·simp only[go_sem]
    refine DrawK.split 0 5 [0,1,2,3,4,5,6,7,8,9,10,11,12,13,14,15] [1,2,3,4,5,0,6,7,8,9,10,11,12,13,14,15] rfl (by kernel_rfl) (by kernel_rfl) ?_ ?_
    ·simp only[go_sem]
     refine DrawK.mkE ?_
     simp only[go_sem,AA _ hi',Qq,G7,aN,ax,aa9,hkle,hkm,g1,g2,g3,← bV,← bW,bC,yT,aa4,aI,htk,bG,wrap_i64 (n:=(i:Int)+1) (by omega) (by omega)]
     exact⟨i+1,Head.trans (LK 5 rfl (KG _ _ _)) (Head.sel [(5,false)] ⟨rfl,rfl,KG _ _ _,trivial⟩ (by rw[hds,SG]; rfl)),hi',by omega⟩
    ·simp only[go_sem]
     refine DrawK.mkE ?_
     simp only[go_sem,AA _ hi',Qq,G7,aN,ax,aa9,hkle,hkm,g1,g2,g3,← bV,← bW,bC,yT,aa4,aI,htk,bG,wrap_i64 (n:=(i:Int)+1) (by omega) (by omega)]
     exact⟨i+1,Head.trans (LK 5 rfl (KG _ _ _)) (Head.sel [(5,false)] ⟨rfl,rfl,KG _ _ _,trivial⟩ (by rw[hds,SG]; rfl)),hi',by omega⟩
  ·simp only[go_sem,wrap_i64 (n:=(k:Int)+1) (by omega) (by omega)]
   exact⟨k+1,⟨rfl,all1 (AP (CV _))⟩,rfl,⟨h2',fun m h4 h5=>by
    by_cases e:m=k
    ·subst e; exact h3
    ·exact hless m h4 (by omega)⟩,by omega⟩
 ·have hi':i=l.length:=by simp at h; omega
  subst hi'
  simp only[go_sem,bG]
  try simp[AU,AO]
end Go.Proofs.YtnfbaclikokapaaGreat
