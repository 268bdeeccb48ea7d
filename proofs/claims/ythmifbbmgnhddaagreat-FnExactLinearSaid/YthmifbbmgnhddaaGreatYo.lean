/- A part. -/
import Derived.Test.YthmifbbmgnhddaaGreatYh
import Derived.Test.YthmifbbmgnhddaaGreatYu
set_option linter.unusedSimpArgs false
set_option linter.unusedVariables false
set_option maxHeartbeats 4000000
set_option maxRecDepth 100000
namespace Go.Vm
section
variable {p q r:Prop}
theorem ASk(h:p:=by kernel_rfl):p:=h
end
theorem Head.frz {s:MS} (ls:List Nat) {st':List Ob} (h:U8 s.st ls=some st'):Head s ⟨s.n,s.env,st'⟩:=⟨rfl,fun w0 St0 St β a w hc=>by
 obtain⟨St',h'⟩:=XT ls s.st st' St hc h
 exact⟨St',β,h'⟩⟩
end Go.Vm
open Go.Proofs.Tryz
namespace Go.Proofs.YthmifbbmgnhddaaGreat
open Go.Vm
theorem drop_cons {α:Type} {l:List α} {i:Nat} (h:i<l.length):l.drop i=l[i]::l.drop (i+1):=aA h
theorem N8 (v x:DVal) (r:List DVal) (i:Nat):placeOf v (x::r) i=if LG x v=true then some (i:Int) else placeOf v r (i+1):=rfl
theorem Vx {v:DVal}:∀ {d:List DVal} {k:Nat} {i:Int},placeOf v d k=some i→(k:Int)≤i
 | [],_,_,h=>AR0
 | x::r,k,i,h=>by
  rw[N8] at h
  split at h
  ·simp only[ai] at h; omega
  ·have:=Vx h; omega
theorem AG3 (a b:DVal):LG a b=LG b a:=by
 rw[Bool.eq_iff_iff,L_,L_]; exact eq_comm
theorem ui (d:List DVal) (v:DVal) (hl:d.length≤1048576):Ctr prog 454 [.c (.sl (d.map DVal.c)),.agg v.c] [.val (.c (.v (.int .i64 ((placeOf v d 0).getD (-1)))))]:=by
 refine CM call454 func454 ntmps454 results454 fun hw=>?_
 simp only[go_sem]
 refine AAT 1 (A:=Nat) (fun x=>[(5,.c (.v (.int .i64 (x))))]) (fun _=>[⟨66,3,[v.c],true,true⟩]) (fun x=>x≤d.length∧placeOf v (d.drop x) x=placeOf v d 0) (fun x=>d.length-x) 0 ⟨⟨rfl,rfl⟩,rfl,au _,rfl⟩ ?_
 rintro i ⟨hi,hp⟩
 refine AQx (fun h=>?_) fun h=>?_
 ·have hi':i<d.length:=by simp at h; omega
  have e1:(d[i].ty==v.ty&&(d[i].n==v.n&&d[i].s.toList==v.s.toList))=LG d[i] v:=rfl
  rw[drop_cons hi',N8] at hp
  simp only[go_sem,AA _ hi']
  refine AAO ?_
  simp only[go_sem,AA _ hi',Dx,G9,e1]
  exact AN5
 ·exact APg
theorem index_spec (d:List DVal) (v:DVal) (hl:d.length≤1048576):Ctr prog 463 [.c (.sl (d.map DVal.c)),.agg v.c] [.val (.c (.v (.int .i64 ((placeOf v d 0).getD (-1)))))]:=by
 refine CM call463 func463 ntmps463 results463 fun hw=>?_
 simp only[go_sem]
 refine AAT 1 (A:=Nat) (fun x=>[(8,.c (.v (.int .i64 (x))))]) (fun _=>[⟨66,3,[v.c],true,true⟩]) (fun x=>x≤d.length∧placeOf v (d.drop x) x=placeOf v d 0) (fun x=>d.length-x) 0 ⟨⟨rfl,rfl⟩,rfl,au _,rfl⟩ ?_
 rintro i ⟨hi,hp⟩
 refine AQx (fun h=>?_) fun h=>?_
 ·have hi':i<d.length:=by simp at h; omega
  have e1:(v.ty==d[i].ty&&(v.n==d[i].n&&v.s.toList==d[i].s.toList))=LG v d[i]:=rfl
  rw[drop_cons hi',N8] at hp
  simp only[go_sem,AA _ hi']
  refine AAO ?_
  simp only[go_sem,AA _ hi',Dx,G9,e1,AG3 v d[i]]
  exact AN5
 ·exact APg
theorem uj (d:List DVal) (v:DVal) (hl:d.length≤1048576):Ctr prog 461 [.c (.sl (d.map DVal.c)),.agg v.c] [.val (.c (.v (.int .i64 ((placeOf v d 0).getD (-1)))))]:=by
 refine CM call461 func461 ntmps461 results461 fun hw=>?_
 simp only[go_sem]
 refine AAN _ (index_spec d v hl) fun _=>?_
 exact AIu
theorem places_cons (d:List DVal) (v:DVal) (l:List DVal):places d (v::l)=match placeOf v d 0,places d l with
  | some i,some r=>some (i::r)
  | _,_=>none:=rfl
theorem uk (d l:List DVal) (hl:l.length≤1048576) (hd:d.length≤1048576):Ctr prog 447 [.c (.sl (d.map DVal.c)),.c (.sl (l.map DVal.c))] (eP (places d l)):=by
 refine CM call447 func447 ntmps447 results447 fun hw=>?_
 simp only[go_sem]
 refine AAU [10] (A:=Nat×List Int) (fun x=>[(13,.c (.v (.int .i64 (x.1)))),(6,.c (.ref 0))]) (fun x=>[⟨3,1,x.2.map intC,true,true⟩]) (fun x=>x.1≤l.length∧x.2.length=x.1∧(places d (l.drop x.1)).map (fun y=>x.2++y)=places d l) (fun x=>l.length-x.1) (0,[]) (AAQ [(0,false)] ⟨rfl,rfl,rfl,trivial⟩ rfl) ⟨au _,rfl,AQ3⟩ ?_
 rintro⟨i,out⟩ ⟨hi,hll,hp⟩
 dsimp only at hi hll hp
 refine AQx (fun h=>?_) fun h=>?_
 ·have hi':i<l.length:=by simp at h; omega
  have hl2:out.length+1≤2147483648:=AQ2
  rw[drop_cons hi',places_cons] at hp
  simp only[go_sem,AA _ hi']
  refine AAN _ (uj d l[i] hd) fun _=>?_
  rcases h2:placeOf l[i] d 0 with _ | p
  ·rw[h2] at hp
   simp only[X6] at hp
   have h3:decide ((-1:Int)<0)=true:=ARJ
   rw[← hp]
   simp only[go_sem,h2,aaF,h3,eP]
  ·rw[h2] at hp
   have h3:decide (p<0)=false:=by have:=Vx h2; simp; omega
   simp only[go_sem,h2,h3,hl2,wrap_i64 (n:=(i:Int)+1) AQ2 AQ2]
   exact⟨(i+1,out ++ [p]),AAQ [(3,false)] ⟨rfl,rfl,by rw[← Gv]; exact CB _,trivial⟩ (by rw[Gv]; rfl),⟨hi',AQ5,by
    rw[← hp]
    cases places d (l.drop (i+1))<;>simp⟩,AQ4⟩
 ·have hi':i=l.length:=by simp at h; omega
  subst hi'
  rw[aJ] at hp
  simp only[places,dm,bK] at hp
  rw[← hp]
  simp only[go_sem,eP]
  try exact AHA
theorem ul (d l:List DVal) (hl:l.length≤1048576) (hd:d.length≤1048576):Ctr prog 435 [.c (.sl (d.map DVal.c)),.c (.sl (l.map DVal.c))] (eP (places d l)):=by
 refine CM call435 func435 ntmps435 results435 fun hw=>?_
 simp only[go_sem]
 refine AAU [9] (A:=Nat×List Int) (fun x=>[(7,.c (.v (.int .i64 (x.1)))),(6,.c (.ref 0))]) (fun x=>[⟨3,1,x.2.map intC,true,true⟩]) (fun x=>x.1≤l.length∧x.2.length=x.1∧(places d (l.drop x.1)).map (fun y=>x.2++y)=places d l) (fun x=>l.length-x.1) (0,[]) (AAQ [(0,false)] ⟨rfl,rfl,rfl,trivial⟩ rfl) ⟨au _,rfl,AQ3⟩ ?_
 rintro⟨i,out⟩ ⟨hi,hll,hp⟩
 dsimp only at hi hll hp
 refine AQx (fun h=>?_) fun h=>?_
 ·have hi':i<l.length:=by simp at h; omega
  have hl2:out.length+1≤2147483648:=AQ2
  rw[drop_cons hi',places_cons] at hp
  simp only[go_sem,AA _ hi']
  refine AAN _ (ui d l[i] hd) fun _=>?_
  rcases h2:placeOf l[i] d 0 with _ | p
  ·rw[h2] at hp
   simp only[X6] at hp
   have h3:decide ((-1:Int)<0)=true:=ARJ
   rw[← hp]
   simp only[go_sem,h2,aaF,h3,eP]
   try simp[D7]
  ·rw[h2] at hp
   have h3:decide (p<0)=false:=by have:=Vx h2; simp; omega
   simp only[go_sem,h2,h3,hl2,wrap_i64 (n:=(i:Int)+1) AQ2 AQ2]
   exact⟨(i+1,out ++ [p]),AAQ [(2,false)] ⟨rfl,rfl,by rw[← Gv]; exact CB _,trivial⟩ (by rw[Gv]; rfl),⟨hi',AQ5,by
    rw[← hp]
    cases places d (l.drop (i+1))<;>simp⟩,AQ4⟩
 ·have hi':i=l.length:=by simp at h; omega
  subst hi'
  rw[aJ] at hp
  simp only[places,dm,bK] at hp
  rw[← hp]
  simp only[go_sem,eP]
  try exact AHA
theorem Zt (d:List DVal) (i:Int) (l:List Int):picked d (i::l)=if 0≤i then match d[i.toNat]?,picked d l with
   | some v,some r=>some (v::r)
   | _,_=>none
  else none:=rfl
theorem Vy {d:List DVal} {i:Int} (l:List Int) (h:¬ (0≤i∧i<d.length)):picked d (i::l)=none:=by
 rw[Zt]
 split
 ·have:d[i.toNat]?=none:=by rw[abB]; omega
  rw[this]
 ·rfl
theorem pG {d:List DVal} {i:Nat} (l:List Int) (h:i<d.length):picked d ((i:Int)::l)=(picked d l).map (fun r=>d[i]::r):=by
 rw[Zt,bG AQ2,YM,aC h]
 cases picked d l<;>rfl
theorem um (d:List DVal) (l:List Int) (hl:l.length≤1048576) (hd:d.length≤1048576):Ctr prog 419 [.c (.sl (d.map DVal.c)),.c (.sl (l.map intC))] (Dt (picked d l)):=by
 refine CM call419 func419 ntmps419 results419 fun hw=>?_
 simp only[go_sem]
 refine AAU [9] (A:=Nat×List DVal) (fun x=>[(12,.c (.v (.int .i64 (x.1)))),(6,.c (.ref 0))]) (fun x=>[⟨66,3,x.2.map DVal.c,true,true⟩]) (fun x=>x.1≤l.length∧x.2.length=x.1∧(picked d (l.drop x.1)).map (fun y=>x.2++y)=picked d l) (fun x=>l.length-x.1) (0,[]) (AAQ [(0,false)] ⟨rfl,rfl,rfl,trivial⟩ rfl) ⟨au _,rfl,AQ3⟩ ?_
 rintro⟨i,out⟩ ⟨hi,hll,hp⟩
 dsimp only at hi hll hp
 refine AQx (fun h=>?_) fun h=>?_
 ·have hi':i<l.length:=by simp at h; omega
  have hl2:out.length+1≤2147483648:=AQ2
  rw[drop_cons hi'] at hp
  simp only[go_sem,AA _ hi']
  rcases h2:decide (l[i]<0) with _ | _
  ·have h2':0≤l[i]:=by simpa using h2
   rcases h3:decide (l[i]≥(d.length:Int)) with _ | _
   ·have h3':l[i]<d.length:=by simpa using h3
    obtain⟨p,hpe⟩:=aU h2'
    have hp':p<d.length:=AQ2
    rw[hpe,pG _ hp'] at hp
    rw[hpe] at h2 h3
    simp only[go_sem,hpe,h2,h3,hl2,AA _ hp',wrap_i64 (n:=(i:Int)+1) AQ2 AQ2]
    exact AOb
   ·rw[Vy _ ARr] at hp
    rw[← hp]
    simp only[go_sem,h2,h3,X6,Dt]
  ·rw[Vy _ ARN] at hp
   rw[← hp]
   simp only[go_sem,h2,X6,Dt]
 ·have hi':i=l.length:=by simp at h; omega
  subst hi'
  rw[aJ] at hp
  simp only[picked,dm,bK] at hp
  rw[← hp]
  simp only[go_sem,Dt]
  try exact AHA
theorem Xx (d:List DVal) (l:List Int) (hl:l.length≤1048576) (hd:d.length≤1048576):Ctr prog 406 [.c (.sl (d.map DVal.c)),.c (.sl (l.map intC))] (Dt (picked d l)):=by
 refine CM call406 func406 ntmps406 results406 fun hw=>?_
 simp only[go_sem]
 refine AAU [8] (A:=Nat×List DVal) (fun x=>[(7,.c (.v (.int .i64 (x.1)))),(6,.c (.ref 0))]) (fun x=>[⟨66,3,x.2.map DVal.c,true,true⟩]) (fun x=>x.1≤l.length∧x.2.length=x.1∧(picked d (l.drop x.1)).map (fun y=>x.2++y)=picked d l) (fun x=>l.length-x.1) (0,[]) (AAQ [(0,false)] ⟨rfl,rfl,rfl,trivial⟩ rfl) ⟨au _,rfl,AQ3⟩ ?_
 rintro⟨i,out⟩ ⟨hi,hll,hp⟩
 dsimp only at hi hll hp
 refine AQx (fun h=>?_) fun h=>?_
 ·have hi':i<l.length:=by simp at h; omega
  have hl2:out.length+1≤2147483648:=AQ2
  rw[drop_cons hi'] at hp
  simp only[go_sem,AA _ hi',wrap_i64 (n:=(d.length:Int)-1) AQ2 AQ2]
  refine AAN _ (AQ _ _ _) fun _=>?_
  rcases h2:Ad l[i] 0 ((d.length:Int)-1) with _ | _
  ·rw[Vy _ ARH] at hp
   rw[← hp]
   simp only[go_sem,h2,X6,Dt]
   try simp[D7]
  ·have h2':0≤l[i]∧l[i]<d.length:=by simp[Ad] at h2; omega
   obtain⟨p,hpe⟩:=aU h2'.1
   have hp':p<d.length:=AQ2
   rw[hpe,pG _ hp'] at hp
   rw[hpe] at h2
   simp only[go_sem,AA _ hi',hpe,h2,hl2,AA _ hp',wrap_i64 (n:=(i:Int)+1) AQ2 AQ2]
   exact AOb
 ·have hi':i=l.length:=by simp at h; omega
  subst hi'
  rw[aJ] at hp
  simp only[picked,dm,bK] at hp
  rw[← hp]
  simp only[go_sem,Dt]
  try exact AHA
theorem AB6 {l:List DVal} (h:0<l.length):Cc (l.take 1)=l[0].n:=by
 cases l with
 | nil=>simp at h
 | cons v r=>rfl
theorem Zu {l:List DVal} {i:Nat} (h0:0<i) (h:i<l.length):Cc (l.take (i+1))=min (Cc (l.take i)) l[i].n:=by
 cases l with
 | nil=>simp at h
 | cons v r =>
  obtain⟨j,rfl⟩:∃ j,i=j+1:=⟨i-1,AQ2⟩
  have hj:j<r.length:=ARY
  simp only[cu,abN]
  show (r.take (j+1)).foldl _ _=min ((r.take j).foldl _ _) _
  rw[aaB hj,List.foldl_append]
  rfl
theorem z_ {l:List DVal} (h:0<l.length):l.foldl (fun n x=>min n x.n) l[0].n=Cc l:=by
 cases l with
 | nil=>simp at h
 | cons v r =>
  show r.foldl _ (min v.n v.n)=r.foldl _ v.n
  rw[show min v.n v.n=v.n from AQ2]
theorem Yn:∀ {l:List DVal} {v:DVal},v∈l→Cc l≤v.n∧∃ x∈l,Cc l=x.n:=by
 have key:∀ (r:List DVal) (n:Int),r.foldl (fun n x=>min n x.n) n≤n∧(∀ x∈r,r.foldl (fun n x=>min n x.n) n≤x.n)∧(r.foldl (fun n x=>min n x.n) n=n∨∃ x∈r,r.foldl (fun n x=>min n x.n) n=x.n):=by
  intro r
  induction r with
  | nil=>intro n; simp
  | cons v r ih =>
   intro n
   obtain⟨a1,a2,a3⟩:=ih (min n v.n)
   simp only[aby]
   refine⟨AQ2,fun x hx=>?_, ?_⟩
   ·rcases Rx.1 hx with rfl | hx
    ·omega
    ·exact a2 x hx
   ·rcases a3 with a3 | ⟨x,hx,a3⟩
    ·by_cases h:n≤v.n
     ·left; omega
     ·right; exact⟨v,AQ3,AQ2⟩
    ·right; exact⟨x,ARS,a3⟩
 intro l v hv
 cases l with
 | nil=>cases hv
 | cons w r =>
  obtain⟨a1,a2,a3⟩:=key r w.n
  have e:Cc (w::r)=r.foldl (fun n x=>min n x.n) w.n:=rfl
  rw[e]
  refine⟨?_, ?_⟩
  ·rcases Rx.1 hv with rfl | hv
   ·exact a1
   ·exact a2 v hv
  ·rcases a3 with a3 | ⟨x,hx,a3⟩
   ·exact⟨w,AQ3,a3⟩
   ·exact⟨x,ARS,a3⟩
theorem eU {v:DVal} (h:BO v=true) (h1:v.ty=1) : -1000000000≤v.n∧v.n≤1000000000:=by
 simp only[BO,bG h1,az] at h
 simpa [EN,Ad] using h.1
theorem AG4 {l:List DVal} (h:typeOf l=1) {v:DVal} (hv:v∈l):0≤v.n-Cc l∧v.n-Cc l≤2000000000:=by
 obtain⟨_,_,q3⟩:=Dh (l:=l) AQ2
 obtain⟨a1,x,hx,a2⟩:=Yn hv
 have b1:=eU (q3 v hv).1 ((q3 v hv).2.trans h)
 have b2:=eU (q3 x hx).1 ((q3 x hx).2.trans h)
 omega
theorem take_snoc' {α:Type} {l:List α} {i:Nat} (h:i<l.length):l.take (i+1)=l.take i ++ [l[i]]:=aaB h
theorem AKo (a b:Int):min a b=if b<a then b else a:=by split<;>omega
theorem Lh {α β:Type} (f:α→β) {l:List α} {i:Nat} (h:i<l.length):(l.take (i+1)).map f=(l.take i).map f ++ [f l[i]]:=by
 rw[aaB h,bQ]; rfl
theorem kW (l:List DVal) (hl:l.length≤1048576):Ctr prog 439 [.c (.sl (l.map DVal.c))] [.val (.c (.v (.int .i64 (Cc l))))]:=by
 refine CM call439 func439 ntmps439 results439 fun hw=>?_
 simp only[go_sem]
 refine AAT 0 (A:=Nat) (fun x=>[(4,.c (.v (.int .i64 (x)))),(3,.c (.v (.int .i64 (Cc (l.take x)))))]) (fun _=>[]) (fun x=>x≤l.length) (fun x=>l.length-x) 0 ⟨⟨rfl,rfl⟩,rfl,au _⟩ ?_
 rintro i hi
 refine AQx (fun h=>?_) fun h=>?_
 ·have hi':i<l.length:=by simp at h; omega
  rcases h2:((i:Int)==0) with _ | _
  ·have h2':0<i:=by simp at h2; omega
   rcases h3:decide (l[i].n<Cc (l.take i)) with _ | _
   ·have e:Cc (l.take (i+1))=Cc (l.take i):=by rw[Zu h2' hi']; simp at h3; omega
    exact APF
   ·have e:Cc (l.take (i+1))=l[i].n:=by rw[Zu h2' hi']; simp at h3; omega
    exact APF
  ·have h2':i=0:=by simpa using h2
   subst h2'
   have e:Cc (l.take (0+1))=l[0].n:=AB6 hi'
   simp only[go_sem,AA _ hi',h2,wrap_i64 (n:=((0:Nat):Int)+1) AQ2 AQ2]
   exact⟨0+1,⟨rfl,rfl⟩,by rw[e]; rfl,hi',AQ2⟩
 ·have hi':i=l.length:=by simp at h; omega
  subst hi'
  simp only[go_sem,bP]
theorem kX (l:List DVal) (hl:l.length≤1048576):Ctr prog 451 [.c (.sl (l.map DVal.c))] [.val (.c (.v (.int .i64 (Cc l))))]:=by
 refine CM call451 func451 ntmps451 results451 fun hw=>?_
 rcases h1:((l.length:Int)==0) with _ | _
 rotate_left
 ·have:l = []:=by simpa using h1
  have e:Cc l=0:=by rw[this]; rfl
  rw[e]
  simp only[go_sem,h1]
 have h0:0<l.length:=by
  rcases abh l.length with h | h
  ·rw[h] at h1; exact absurd h1 ARJ
  ·exact h
 simp only[go_sem,h1,AA _ h0]
 refine AAT 0 (A:=Nat) (fun x=>[(15,.c (.v (.int .i64 (x)))),(3,.c (.v (.int .i64 ((l.take x).foldl (fun n x=>min n x.n) l[0].n))))]) (fun _=>[]) (fun x=>x≤l.length) (fun x=>l.length-x) 0 ⟨⟨rfl,rfl⟩,rfl,au _⟩ ?_
 rintro i hi
 refine AQx (fun h=>?_) fun h=>?_
 ·have hi':i<l.length:=by simp at h; omega
  simp only[go_sem,AA _ hi',wrap_i64 (n:=(i:Int)+1) AQ2 AQ2]
  exact⟨i+1,⟨rfl,rfl⟩,by rw[take_snoc' hi',List.foldl_append,aby,List.foldl_nil,AKo]; rfl,hi',AQ2⟩
 ·have hi':i=l.length:=by simp at h; omega
  subst hi'
  rw[← z_ h0]
  simp only[go_sem,bP]
theorem mO (l:List DVal) (hl:l.length≤1048576):Ctr prog 449 [.c (.sl (l.map DVal.c))] [.own 3 1 ((offsets l).map intC) true]:=by
 refine CM call449 func449 ntmps449 results449 fun hw=>?_
 simp only[go_sem]
 refine AAN _ (DC l hl) fun _=>?_
 rcases h1:typeOf l != 1 with _ | _
 ·have h1':typeOf l=1:=by simpa using h1
  obtain⟨q1,q2,q3⟩:=Dh (l:=l) AQ2
  have e:offsets l=l.map fun v=>v.n-Cc l:=bu AQ2
  rw[e]
  simp only[go_sem,h1]
  refine AAU [6] (A:=Nat) (fun x=>[(13,.c (.v (.int .i64 (x)))),(3,.c (.ref 0))]) (fun x=>[⟨3,1,((l.take x).map fun v=>v.n-Cc l).map intC,true,true⟩]) (fun x=>x≤l.length) (fun x=>l.length-x) 0 (AAQ [(0,false)] ⟨rfl,rfl,rfl,trivial⟩ rfl) (au _) ?_
  rintro i hi
  refine AQx (fun h=>?_) fun h=>?_
  ·have hi':i<l.length:=by simp at h; omega
   have ho:=AG4 h1' (aj hi')
   have hl2:i+1≤2147483648:=AQ2
   simp only[go_sem,AA _ hi']
   refine AEG 4 6 [0,1,2,3,4,5,6,7,8] [5,6] rfl ASk rfl ASk ?_
   simp only[go_sem]
   refine AAR ?_
   simp only[go_sem]
   refine ABO _ (kX l hl) ?_
   simp only[go_sem,hl2,bJ,dO hi,wrap_i64 (n:=l[i].n-Cc l) AQ2 AQ2,wrap_i64 (n:=(i:Int)+1) AQ2 AQ2]
   exact APa
  ·have hi':i=l.length:=by simp at h; omega
   subst hi'
   simp only[go_sem,bP]
   try exact AHA
 ·have h1':typeOf l≠1:=by simpa using h1
  have e:offsets l = []:=bG h1'
  exact AKC
theorem mP (l:List DVal) (hl:l.length≤1048576):Ctr prog 437 [.c (.sl (l.map DVal.c))] [.own 3 1 ((offsets l).map intC) true]:=by
 refine CM call437 func437 ntmps437 results437 fun hw=>?_
 simp only[go_sem]
 refine AAN _ (Ey l hl) fun _=>?_
 rcases h1:typeOf l != 1 with _ | _
 ·have h1':typeOf l=1:=by simpa using h1
  obtain⟨q1,q2,q3⟩:=Dh (l:=l) AQ2
  have e:offsets l=l.map fun v=>v.n-Cc l:=bu AQ2
  rw[e]
  simp only[go_sem,h1]
  refine AAN _ (kW l hl) fun _=>?_
  simp only[go_sem]
  refine AAU [6] (A:=Nat) (fun x=>[(5,.c (.v (.int .i64 (x)))),(3,.c (.ref 0))]) (fun x=>[⟨3,1,((l.take x).map fun v=>v.n-Cc l).map intC,true,true⟩]) (fun x=>x≤l.length) (fun x=>l.length-x) 0 (AAQ [(0,false)] ⟨rfl,rfl,rfl,trivial⟩ rfl) (au _) ?_
  rintro i hi
  refine AQx (fun h=>?_) fun h=>?_
  ·have hi':i<l.length:=by simp at h; omega
   have ho:=AG4 h1' (aj hi')
   have hl2:i+1≤2147483648:=AQ2
   simp only[go_sem,AA _ hi',hl2,bJ,dO hi,wrap_i64 (n:=l[i].n-Cc l) AQ2 AQ2,wrap_i64 (n:=(i:Int)+1) AQ2 AQ2]
   exact⟨i+1,AAQ [(2,false)] ⟨rfl,rfl,by rw[← Gv]; exact CB _,trivial⟩ (by rw[Lh _ hi',Gv]; rfl),hi',AQ2⟩
  ·have hi':i=l.length:=by simp at h; omega
   subst hi'
   simp only[go_sem,bP]
   try exact AHA
 ·have h1':typeOf l≠1:=by simpa using h1
  have e:offsets l = []:=bG h1'
  exact AKC
def rOk (base x:Int):Prop:=(0≤x∧x≤2000000000)∧base+x≤1000000000
theorem Yo {base:Int} {l:List Int} (h:¬ (-1000000000≤base∧base≤1000000000)):raised base l=none:=bu fun q=>h q.1
theorem RU {base:Int} {l:List Int} {i:Nat} (hi:i<l.length) (h:¬ rOk base l[i]):raised base l=none:=bu fun q=>h (q.2 _ (aj hi))
theorem kY {base:Int} {l:List Int} (h : -1000000000≤base∧base≤1000000000) (h2:∀ i (hi:i<l.length),rOk base l[i]):raised base l=some (l.map fun x=>⟨1,base+x,ByteArray.empty⟩):=bG ⟨h,fun x hx=>by
 obtain⟨i,hi,rfl⟩:=aaT hx
 exact h2 i hi⟩
theorem EF (x:Int):EN x=true↔ -1000000000≤x∧x≤1000000000:=by simp[EN,Ad]
theorem uo (base:Int) (l:List Int) (hl:l.length≤1048576):Ctr prog 421 [.c (.v (.int .i64 (base))),.c (.sl (l.map intC))] (Dt (raised base l)):=by
 refine CM call421 func421 ntmps421 results421 fun hw=>?_
 simp only[go_sem]
 refine AAN _ (OX _) fun _=>?_
 rcases h1:EN base with _ | _
 ·exact AQo
 have hb:=(EF base).1 h1
 simp only[go_sem,h1]
 refine AAU [12] (A:=Nat) (fun x=>[(15,.c (.v (.int .i64 (x)))),(6,.c (.ref 0))]) (fun x=>[⟨66,3,((l.take x).map fun(x:Int)=>(⟨1,base+x,ByteArray.empty⟩:DVal)).map DVal.c,true,true⟩]) (fun x=>x≤l.length∧∀ m (h:m<l.length),m<x→rOk base l[m]) (fun x=>l.length-x) 0 (AAQ [(0,false)] ⟨rfl,rfl,rfl,trivial⟩ rfl) ⟨au _,fun m h h2=>AQ2⟩ ?_
 rintro i ⟨hi,hok⟩
 refine AQx (fun h=>?_) fun h=>?_
 ·have hi':i<l.length:=by simp at h; omega
  simp only[go_sem,AA _ hi']
  refine AAN _ (AL _ _ _) fun _=>?_
  rcases h2:Ad l[i] 0 2000000000 with _ | _
  ·rw[RU hi' (fun q=>by have:=q.1; simp[Ad] at h2; omega)]
   exact APs
  have h2':0≤l[i]∧l[i]≤2000000000:=ARH
  rcases h3:decide (base+l[i]>1000000000) with _ | _
  ·have hl2:i+1≤2147483648:=by omega
   simp only[go_sem,AA _ hi',h2,h3,hl2,wrap_i64 (n:=base+l[i]) AQ2 AQ2,wrap_i64 (n:=(i:Int)+1) AQ2 AQ2,bJ,dO hi]
   exact⟨i+1,AAQ [(2,false)] ⟨rfl,rfl,Nz _ ⟨1,base+l[i],ByteArray.empty⟩,trivial⟩ (by rw[Lh _ hi',Gw]; rfl),⟨hi',fun m h4 h5=>by
    by_cases e:m=i
    ·subst e; exact⟨h2',ARr⟩
    ·exact hok m h4 AQ2⟩,AQ2⟩
  ·exact AO6
 ·have hi':i=l.length:=by simp at h; omega
  subst hi'
  rw[kY hb fun m hm=>hok m hm hm]
  simp only[go_sem,Dt,bP]
  try exact AHA
theorem Xy (base:Int) (l:List Int) (hl:l.length≤1048576):Ctr prog 408 [.c (.v (.int .i64 (base))),.c (.sl (l.map intC))] (Dt (raised base l)):=by
 refine CM call408 func408 ntmps408 results408 fun hw=>?_
 simp only[go_sem]
 refine AAU [8] (A:=Nat) (fun x=>[(7,.c (.v (.int .i64 (x)))),(6,.c (.ref 0))]) (fun x=>[⟨66,3,((l.take x).map fun(x:Int)=>(⟨1,base+x,ByteArray.empty⟩:DVal)).map DVal.c,true,true⟩]) (fun x=>x≤l.length∧(0<x→ -1000000000≤base∧base≤1000000000)∧∀ m (h:m<l.length),m<x→rOk base l[m]) (fun x=>l.length-x) 0 (AAQ [(0,false)] ⟨rfl,rfl,rfl,trivial⟩ rfl) ⟨au _,fun h=>AQ2,fun m h h2=>AQ2⟩ ?_
 rintro i ⟨hi,hbs,hok⟩
 refine AQx (fun h=>?_) fun h=>?_
 ·have hi':i<l.length:=by simp at h; omega
  simp only[go_sem]
  refine AAN _ (KT _) fun _=>?_
  rcases h1:EN base with _ | _
  ·exact AQo
  have hb:=(EF base).1 h1
  simp only[go_sem,h1,AA _ hi']
  refine AAN _ (AQ _ _ _) fun _=>?_
  rcases h2:Ad l[i] 0 2000000000 with _ | _
  ·rw[RU hi' (fun q=>by have:=q.1; simp[Ad] at h2; omega)]
   exact APs
  have h2':0≤l[i]∧l[i]≤2000000000:=ARH
  rcases h3:decide (base+l[i]>1000000000) with _ | _
  ·have hl2:i+1≤2147483648:=by omega
   simp only[go_sem,AA _ hi',h2,h3,hl2,wrap_i64 (n:=base+l[i]) AQ2 AQ2,wrap_i64 (n:=(i:Int)+1) AQ2 AQ2,bJ,dO hi]
   exact⟨i+1,AAQ [(2,false)] ⟨rfl,rfl,Nz _ ⟨1,base+l[i],ByteArray.empty⟩,trivial⟩ (by rw[Lh _ hi',Gw]; rfl),⟨hi',fun _=>hb,fun m h4 h5=>by
    by_cases e:m=i
    ·subst e; exact⟨h2',ARr⟩
    ·exact hok m h4 AQ2⟩,AQ2⟩
  ·exact AO6
 ·have hi':i=l.length:=by simp at h; omega
  subst hi'
  simp only[go_sem,bP]
  refine AAN _ (KT _) fun _=>?_
  rcases h1:EN base with _ | _
  ·rw[Yo (by rw[← EF,h1]; simp)]
   have:l = []:=by
    by_cases h0:0<l.length
    ·have:=(EF base).2 (hbs h0); rw[h1] at this; cases this
    ·cases l<;>simp_all
   subst this
   simp only[go_sem,h1,Dt]
   try simp[D7]
  have hb:=(EF base).1 h1
  rw[kY hb fun m hm=>hok m hm hm]
  simp only[go_sem,h1,Dt]
  try exact AHA
theorem OH {s:MS} (l:Nat) {ob:Ob} (h:EH s.st l=some ob) (hp:Fv ob.xs=true):Head s ⟨s.n,s.env,Qu s.st l⟩:=Head.frz [l] (by simp only[U8,h,hp,bH])
theorem RV (l:List DVal):((l.map DVal.c).all fun r=>r.length==3)=true:=aS.2 fun r hr=>by
 exact APL
theorem kZ (v x:DVal) (r:List DVal):ins v (x::r)=if Dj x v=true then x::ins v r else if LG x v=true then x::r else v::x::r:=rfl
theorem ADK (v:DVal):∀ {d:List DVal},(∀ m (h:m<d.length),Dj d[m] v=true)→ins v d=d ++ [v]
 | [],_=>rfl
 | x::r,h=>by
  have h0:=h 0 AQ3
  simp only[abM] at h0
  rw[kZ,bG h0,ADK v fun m hm=>by
   have:=h (m+1) (by simpa using hm)
   simpa using this]
  rfl
theorem ADL (v:DVal):∀ {d:List DVal} {k:Nat} (hk:k<d.length),(∀ m (h:m<d.length),m<k→Dj d[m] v=true)→Dj d[k] v=false→ins v d=if LG d[k] v=true then d else d.take k++v::d.drop k
 | [],k,hk,_,_=>ARi
 | x::r,0,_,_,h2=>by
  simp only[abM] at h2
  rw[kZ,h2,bu AQ3]
  rfl
 | x::r,k+1,hk,h1,h2=>by
  have h0:=h1 0 AQ3 AQ2
  simp only[abM] at h0
  simp only[abN] at h2
  rw[kZ,bG h0,ADL v (k:=k) ARc (fun m hm hm2=>by
   have:=h1 (m+1) (by simpa using hm) AQ2
   simpa using this) h2]
  simp only[abN]
  split<;>rfl
theorem AEu {l:List DVal} {i:Nat} (h:i<l.length):DJ (l.take (i+1))=ins l[i] (DJ (l.take i)):=by
 rw[take_snoc h]
 simp only[DJ,List.foldl_append,aby,List.foldl_nil]
theorem Vz (a b:List DVal) (v:DVal):(a++v::b).map DVal.c=a.map DVal.c ++ [v.c]++b.map DVal.c:=AQ3
theorem NT (a b:List DVal) (v:DVal):Fv (a.map DVal.c ++ [v.c]++b.map DVal.c)=true:=by rw[← Vz]; exact RI _
theorem AB7 (l:List DVal) (hl:l.length≤1048576):Ctr prog 434 [.c (.sl (l.map DVal.c))] [.val (.c (.sl ((DJ l).map DVal.c)))]:=by
 refine CM call434 func434 ntmps434 results434 fun hw=>?_
 simp only[go_sem]
 refine AAU [6] (A:=Nat) (fun x=>[(4,.c (.v (.int .i64 (x)))),(3,.c (.ref 0))]) (fun x=>[⟨66,3,(DJ (l.take x)).map DVal.c,false,true⟩]) (fun x=>x≤l.length) (fun x=>l.length-x) 0 (Head.trans (Head.frz [0] rfl) (AAQ [(0,false)] ⟨rfl,rfl,rfl,trivial⟩ rfl)) (au _) ?_
 rintro i hi
 refine AQx (fun h=>?_) fun h=>?_
 ·have hi':i<l.length:=by simp at h; omega
  have hdl:=QR (l.take i)
  rw[bJ] at hdl
  have hds:=AEu hi'
  generalize hd:DJ (l.take i)=d at hdl hds
  simp only[go_sem,hd]
  refine AAT 1 (A:=Nat) (fun x=>[(5,.c (.v (.int .i64 (x))))]) (fun _=>[⟨66,3,d.map DVal.c,false,true⟩]) (fun x=>x≤d.length∧∀ m (h:m<d.length),m<x→Dj d[m] l[i]=true) (fun x=>d.length-x) 0 ⟨⟨rfl,all1 (AU (BH _))⟩,rfl,au _,fun m h h2=>AQ2⟩ ?_
  rintro k ⟨hk,hless⟩
  rcases h2:decide ((k:Int)<(d.length:Int)) with _ | _
  ·have h2':k=d.length:=by simp at h2; omega
   have hkle:k≤d.length:=hk
   have hins:=ADK l[i] fun m hm=>hless m hm AQ2
   have hds:DJ (l.take (i+1))=d.take k++l[i]::d.drop k:=by rw[hds,hins,h2']; simp
   have h3:((k:Int)==(d.length:Int))=true:=AQ5
   simp only[go_sem]
   refine AAO ?_
   simp only[go_sem,h2]
   refine AAO ?_
   simp only[go_sem,h3]
   have hkm:min k d.length=k:=AQ2
   have g1:k≤2147483648:=AQ2
   have g2:k+1≤2147483648:=AQ2
   have g3:k+1+(d.length-k)≤2147483648:=AQ2
   have htk:(d.drop k).take (d.length-k)=d.drop k:=aat AQ3
   refine ACh 4 9 [0,1,2,3,4,5,6,7,8,9,10,11,12,13,14,15] [0,5,6,7,8,9,1,2,3,4,10,11,12,13,14,15] rfl ASk ASk ?_ ?_
   ·exact AF0
   ·simp only[go_sem]
    refine ACh 0 5 [0,1,2,3,4,5,6,7,8,9,10,11,12,13,14,15] [1,2,3,4,5,0,6,7,8,9,10,11,12,13,14,15] rfl ASk ASk ?_ ?_
    ·exact AF0
    ·exact AF0
  have h2':k<d.length:=ARw
  simp only[go_sem]
  refine AAO ?_
  simp only[go_sem,h2,h2',AA _ h2',AA _ hi']
  have e1:(d[k].ty==l[i].ty&&(d[k].n==l[i].n&&d[k].s.toList==l[i].s.toList))=LG d[k] l[i]:=rfl
  refine CY (Gz d[k] l[i]) ?_
  rcases h3:Dj d[k] l[i] with _ | _
  ·have hins:=ADL l[i] h2' hless h3
   have h4:((k:Int)==(d.length:Int))=false:=AQ5
   simp only[go_sem]
   refine AAO ?_
   simp only[go_sem,h4,h2',AA _ h2',AA _ hi',Dx,G9,e1]
   rcases h5:LG d[k] l[i] with _ | _
   rotate_left
   ·have hds:DJ (l.take (i+1))=d:=by rw[hds,hins,bG h5]
    simp only[go_sem,h5,wrap_i64 (n:=(i:Int)+1) AQ2 AQ2]
    exact⟨i+1,AAQ [(0,false)] ⟨rfl,rfl,RI _,trivial⟩ (by rw[hds]; rfl),hi',AQ2⟩
   have hds:DJ (l.take (i+1))=d.take k++l[i]::d.drop k:=by rw[hds,hins,h5,bu AQ3]
   have hkle:k≤d.length:=hk
   simp only[go_sem,h5]
   have hkm:min k d.length=k:=AQ2
   have g1:k≤2147483648:=AQ2
   have g2:k+1≤2147483648:=AQ2
   have g3:k+1+(d.length-k)≤2147483648:=AQ2
   have htk:(d.drop k).take (d.length-k)=d.drop k:=aat AQ3
   refine ACh 4 9 [0,1,2,3,4,5,6,7,8,9,10,11,12,13,14,15] [0,5,6,7,8,9,1,2,3,4,10,11,12,13,14,15] rfl ASk ASk ?_ ?_
   ·exact AF0
   ·simp only[go_sem]
    refine ACh 0 5 [0,1,2,3,4,5,6,7,8,9,10,11,12,13,14,15] [1,2,3,4,5,0,6,7,8,9,10,11,12,13,14,15] rfl ASk ASk ?_ ?_
    ·exact AF0
    ·exact AF0
  ·simp only[go_sem,wrap_i64 (n:=(k:Int)+1) AQ2 AQ2]
   exact⟨k+1,⟨rfl,all1 (AU (BH _))⟩,rfl,⟨h2',fun m h4 h5=>by
    by_cases e:m=k
    ·subst e; exact h3
    ·exact hless m h4 AQ2⟩,AQ2⟩
 ·have hi':i=l.length:=by simp at h; omega
  subst hi'
  simp only[go_sem,bP]
  try exact AHA
open Go.RowKit
theorem ku {w:World} {b:Nat} {l:List DVal} {cs:Array Value} {ty:TypeId} (hb:w.heap[b]?=some (.cells cs ty (0,0))) (hc:∀ (k:Nat) (c:Cl),(l.map DVal.c).flatten[k]?=some c→∃ y,cs[k]?=some y∧c = .v y) :
  Go.Sort.HoldsK EK 3 w b 0 l.toArray:=by
 intro t ht
 have ht':t<l.length*3:=by simpa using ht
 have hk:t/3<l.length:=AQ2
 have hr:(l.map DVal.c)[t/3]?=some l[t/3].c:=by simp[hk]
 have hlen:∀ x∈l.map DVal.c,x.length=3:=fun x hx=>by
  obtain⟨v,_,rfl⟩:=UT.1 hx
  rfl
 have h3:t%3<3:=Nat.mod_lt _ AQ2
 have he:(EK l.toArray[t/3]!)[t%3]! = (EK l[t/3])[t%3]!:=by simp[hk]
 rw[Go.Sort.get_flatK _ _ _ _ (by simpa using ht'),he,Ry]
 have hc1:∃ y,l[t/3].c[t%3]?=some (.v y)∧(EK l[t/3])[t%3]! = y:=by
  rcases(show t%3=0∨t%3=1∨t%3=2 from AQ2) with e | e | e<;>rw[e]<;>exact⟨_,rfl,rfl⟩
 obtain⟨y,hy1,hy2⟩:=hc1
 have hf:=G8 hlen (t/3) (t%3) _ _ hr hy1
 rw[show t/3*3+t%3=t from AQ2] at hf
 obtain⟨z,hz1,hz2⟩:=hc t _ hf
 cases hz2
 rw[hy2]
 constructor
 ·show (match w.heap[b]? with | some (.cells cs _ _)=>cs[t]? | _=>none)=some y
  rw[hb]; exact hz1
 ·show (match w.heap[b]? with | some (.cells _ _ (lo,hi))=>decide (lo≤t)&&decide (t<hi) | _=>false)=false
  rw[hb]; simp
theorem AAA {w:World} {b q:Nat} {F:Array Value} {n:Nat} (h:Go.Sort.Holds id w b 0 F) {G:Array Value} (hs:G.size=F.size) (hn:n<F.size):(Go.Sort.putRow id (Go.Sort.ahead w q) b 0 G).cell? ⟨b,n,none⟩=some G[n]!:=by
 have:=(Go.Sort.holds_putRow id (Go.Sort.ahead w q) b 0 F G (Go.Sort.holds_ahead id w q b 0 F h) hs n AQ2).1
 rwa [Ry] at this
theorem mQ (l:List DVal) (hl:l.length≤1048576) (w:World) (St:Nat→Nat→Prop) (u:Value) (hSt:∀ b o,St b o→b<w.heap.size) (hu:RdA w St (.c (.sl (l.map DVal.c))) u) :
  Calls prog 143 #[u] w fun e w1=>∃ a cap,e = .returned (.slice a l.length cap)∧l.length≤cap∧cap≤maxLen∧Below w.heap.size w w1∧(l = []∨∃ b,a=some ⟨b,0,none⟩∧w.heap.size≤b∧b<w1.heap.size∧Go.Sort.HoldsK EK 3 w1 b 0 l.toArray):=by
 refine((DZ l hl).2 w St [u] hSt ⟨u,[],rfl,hu,rfl⟩).mono ?_
 rintro e w1 ⟨us,bs,St1,hb⟩
 obtain⟨Φs,hR,_⟩:=hb.res
 obtain⟨u1,us',b1,bs',Φ,Φs',rfl,rfl,rfl,h1,h2,_,_⟩:=hR
 subst h2
 have hret:=hb.ret
 cases b1 with
 | none =>
  obtain⟨rfl,h3⟩:=h1
  have:l = []:=ARQ
  subst this
  exact⟨none,0,hret,aI _,au _,hb.below,.inl rfl⟩
 | some b =>
  obtain⟨g1,g2,g3,g4,cap,cs,rfl,g5,g6,g7,g8,g9⟩:=h1
  rw[ae] at g5
  refine⟨_,cap,by rw[hret]; simp[YT],g5,g6,hb.below,.inr ⟨b,rfl,g1,g2,ku g7 fun k c hc=>?_⟩⟩
  obtain⟨y,hy1,hy2⟩:=g9 k c hc
  have hm:=bI hc
  obtain⟨r,hr,hcr⟩:=abr.1 hm
  obtain⟨v,_,rfl⟩:=UT.1 hr
  have hcr:c∈ [Cl.v (.int .i64 v.ty),Cl.v (.int .i64 v.n),Cl.v (.string v.s)]:=hcr
  simp only[Rx,List.not_mem_nil,or_false] at hcr
  rcases hcr with rfl | rfl | rfl<;>simp only[RdO] at hy2<;>exact⟨_,hy1,by rw[hy2.1]⟩
theorem AAB:∀ args w,(callFunc 459 args).run prog w = .ok (.enter 459 args) w:=call459
theorem mV (a:Option Addr) (cap:Nat) (w:World):Calls prog 460 #[.slice a 0 cap] w fun e w'=>e = .returned (.slice a 0 cap)∧w'=w:=by
 go_enter func460,ntmps460
 go_wp2
 go_ret
 exact⟨rfl,rfl⟩
def ADM (l:List DVal) (b:Nat) (w w':World):Prop:=∃ d n os,Go.Sort.PermIn 0 l.length l.toArray d∧(∀ i j,i<j→j<d.size→Dj d[j]! d[i]! = false)∧w'=sortWorldK EK 3 w b 0 n d os
def AB8 (l:List DVal) (b:Nat) (w w':World):Prop:=∃ q F,w'=Go.Sort.putRow id (Go.Sort.ahead w q) b 0 F∧F.size=l.length*3∧∀ j,j<(DJ l).length→∀ c,c<3→F[j*3+c]! = (EK (DJ l)[j]!)[c]!
theorem AAC {l:List DVal} {b cap:Nat} {w1 w2:World} (hH:Go.Sort.HoldsK EK 3 w1 b 0 l.toArray) (hb:b<w1.heap.size) (hl:l.length≤1048576) (hc:l.length≤cap) (h:ADM l b w1 w2) :
  Calls prog 460 #[.slice (some ⟨b,0,none⟩) l.length cap] w2 fun e w3=>e = .returned (.slice (some ⟨b,0,none⟩) (DJ l).length cap)∧AB8 l b w2 w3:=by
 obtain⟨d,n,os,hp,hs,rfl⟩:=h
 have hd:d.size=l.length:=by simpa using hp.1
 have hH2:=Go.Proofs.holdsK_sortWorldK_c EK 3 w1 b 0 l.toArray d n os hH hb (by simpa using hd)
 have hk:=vC b 0 cap d _ hH2 AQ2 AQ2
 rw[AIh hp hs,hd] at hk
 exact hk.mono fun e w3 ⟨h1,q,F,h2,h3,h4⟩=>⟨h1,q,F,h2,h3,h4⟩
theorem AAD (b cap:Nat) (l:List DVal) (w:World) (hH:Go.Sort.HoldsK EK 3 w b 0 l.toArray) (hb:b<w.heap.size) (hl:l.length≤1048576) :
  Calls prog 458 #[.slice (some ⟨b,0,none⟩) l.length cap,.func (.func 459) #[] #[]] w fun e w'=>e = .returned (.tuple #[])∧ADM l b w w':=by
 have h:=AnyQ.slices_SortFunc ADQ 3 isAgg66 sizeOf66 EK (fun _=>rfl) (fun x v hv=>by
  simp only[EK,Rx,List.not_mem_nil,or_false] at hv
  rcases hv with rfl | rfl | rfl<;>rfl) ACB AN1 459 #[] b 0 cap l.toArray w AAB (AIi b 0 _ w) hH hb (by show l.length<_; omega)
 refine Calls.mono h ?_
 rintro e w' ⟨rfl,d,n,os,hp,hs,rfl⟩
 refine⟨rfl,d,n,os,hp,fun i j hij hj=>?_,rfl⟩
 have:=hs i j (au _) hij (by rw[← hp.1]; exact hj)
 rwa [X4] at this
theorem AEv {w:World} {b:Nat} {St:Nat→Nat→Prop} (l:List DVal) (F:Array Value) (hF:l.length*3≤F.size) (hSt:∀ o,o<l.length*3→St b o) (hc:∀ n,n<F.size→w.cell? ⟨b,n,none⟩=some F[n]!) (hv:∀ j,j<l.length→∀ c,c<3→F[j*3+c]! = (EK l[j]!)[c]!) (hw:∀ v∈l,YR v.c):RdE w St (l.map DVal.c) b 0:=by
 refine AEV 3 (fun x hx=>by obtain⟨v,_,rfl⟩:=UT.1 hx; rfl) fun i x hx=>?_
 have hi:i<l.length:=by
  have:=(aP.1 hx).1
  simpa using this
 have hx':x=l[i].c:=by
  rw[lg,aC hi] at hx
  exact(yH hx).symm
 subst hx'
 refine AEI fun j c hj=>?_
 have hj3:j<3:=(aP.1 hj).1
 refine⟨hSt _ AQ2,(EK l[i])[j]!, ?_, ?_⟩
 ·rw[hc _ AQ2,Ry,hv i hi j hj3,getElem!_pos l i hi]
 ·have hwl:YR [Cl.v (.int .i64 l[i].ty),Cl.v (.int .i64 l[i].n),Cl.v (.string l[i].s)]:=hw _ (aj hi)
  simp only[YR,yP,abP] at hwl
  rcases(show j=0∨j=1∨j=2 from AQ2) with rfl | rfl | rfl<;>cases hj<;>simp only[RdD]<;>refine⟨rfl, ?_⟩
  ·exact hwl.1
  ·exact hwl.2.1
  ·exact hwl.2.2
theorem AAE {w w':World} {St St':Nat→Nat→Prop} {x:AV} {u:Value} (hb:Below w.heap.size w w') (h1:∀ b o,St b o→St' b o) (h2:∀ b o,St' b o→b<w.heap.size→St b o) (h3:∀ b o,St' b o→b<w'.heap.size) (hr:RdA w' St' x u):Back w St [.val x] (.returned u) w' [u] [none] St' where
 ret:=rfl
 below:=hb
 st:=h1
 stOld:=h2
 stIn:=h3
 res:=⟨[fun _ _=>False],⟨u,[],none,[],_,[],rfl,rfl,rfl,⟨hr,rfl⟩,rfl,rfl,rfl⟩,{
  nodup:=fun i j b hi=>by
   cases i with
   | zero=>simp at hi
   | succ i=>simp at hi
  fresh:=fun i Φ k x hi hx=>by
   cases i with
   | zero=>simp at hi; subst hi; exact hx.elim
   | succ i=>simp at hi
  dis:=fun i i' Φ Φ' k k' x hi _ hx=>by
   cases i with
   | zero=>simp at hi; subst hi; exact hx.elim
   | succ i=>simp at hi }⟩
theorem below_putRow (w:World) {b B:Nat} (q:Nat) (F:Array Value) (hB:B≤b):Below B w (Go.Sort.putRow id (Go.Sort.ahead w q) b 0 F):=
 ⟨rfl,rfl,rfl,by rw[Go.Sort.size_putRow]; exact aI _,fun k hk=>by
  show (w.heap.modify b _)[k]?=_
  rw[Array.getElem?_modify,bu AQ2]⟩
theorem below_grow (w:World) {B:Nat} (os:Array Obj) (hB:B≤w.heap.size):Below B w (Go.Sort.grow w os):=
 ⟨rfl,rfl,rfl,by rw[Go.Sort.size_grow]; omega,fun k hk=>by
  show (w.heap++os)[k]?=_
  rw[aaO AQ2]⟩
theorem AB9 (l:List DVal) (hl:l.length≤1048576):Ctr prog 446 [.c (.sl (l.map DVal.c))] [.val (.c (.sl ((DJ l).map DVal.c)))]:=by
 refine⟨call446,fun w St vs hSt hrd=>?_⟩
 obtain⟨u,vs',rfl,hu,hvs⟩:=hrd
 obtain rfl:vs' = []:=hvs
 have hcl:=mQ l hl w St u hSt hu
 have hwf:∀ v∈l,YR v.c:=fun v hv=>by
  have h:=hu.wf
  simp only[WfA,yP] at h
  exact dQ h.2 _ (UT.2 ⟨v,hv,rfl⟩)
 clear hu
 by_cases hl0:l = []
 ·subst hl0
  clear hwf
  go_enter func446,ntmps446
  go_wp2_with (first | (go_at_call 143; refine hcl.mono ?_; rintro e w1 ⟨a,cap,rfl,q1,q2,q3,q4⟩) | (go_at_call 458; refine(AnyF.slices_SortFunc_none ADQ a cap _ _).mono ?_; rintro e w2 ⟨rfl,rfl⟩) | (go_at_call 460; refine(mV a cap _).mono ?_; rintro e w3 ⟨rfl,rfl⟩))
  go_ret
  refine⟨[.slice a 0 cap],[none],St,AAE q3 (fun _ _ h=>h) (fun _ _ h _=>h) (fun b o h=>di (hSt b o h) q3.size) ?_⟩
  show RdD _ _ (.sl []) _
  simp only[RdD]
  exact⟨a,cap,rfl,au _,q2,⟨0,fun x hx=>by cases hx⟩,AQ3⟩
 ·have HF:Go.RowKit.Hid (∀ v∈l,YR v.c):=hwf
  clear hwf
  have hcl2:Calls prog 143 #[u] w fun e w1=>∃ b cap,e = .returned (.slice (some ⟨b,0,none⟩) l.length cap)∧Go.RowKit.Hid (l.length≤cap∧cap≤maxLen∧Below w.heap.size w w1∧w.heap.size≤b∧b<w1.heap.size∧Go.Sort.HoldsK EK 3 w1 b 0 l.toArray):=hcl.mono fun e w1 ⟨a,cap,q0,q1,q2,q3,q4⟩=>by
   rcases q4 with q4 | ⟨b,rfl,q5,q6,q7⟩
   ·exact absurd q4 hl0
   ·exact⟨b,cap,q0,q1,q2,q3,q5,q6,q7⟩
  clear hcl
  go_enter func446,ntmps446
  go_wp2_with (first | (go_at_call 143; refine hcl2.mono ?_; rintro e w1 ⟨b,cap,rfl,HQ⟩) | (go_at_call 458; refine(AAD b cap l w1 HQ.out.2.2.2.2.2 HQ.out.2.2.2.2.1 hl).mono ?_; rintro e w2 ⟨rfl,HS⟩) | (go_at_call 460; refine(AAC HQ.out.2.2.2.2.2 HQ.out.2.2.2.2.1 hl HQ.out.1 HS).mono ?_; rintro e w3 ⟨rfl,HC⟩))
  go_ret
  obtain⟨q1,q2,q3,q4,q5,q6⟩:=HQ.out
  obtain⟨d,n,os,hp,hs,rfl⟩:=HS
  obtain⟨q,F,rfl,hF,hv⟩:=HC
  have hd:d.size=l.length:=by simpa using hp.1
  have hH2:=Go.Proofs.holdsK_sortWorldK_c EK 3 w1 b 0 l.toArray d n os q6 q5 (by simpa using hd)
  have hsz2:=Go.Proofs.size_sortWorldK_c EK 3 w1 b 0 n d os
  have hdl:=QR l
  have hB1:Below w.heap.size w1 (sortWorldK EK 3 w1 b 0 n d os):=by
   unfold sortWorldK
   have h1:=below_putRow w1 (B:=w.heap.size) n (Go.Sort.flatK EK 3 d) q4
   exact h1.trans (below_grow _ os (by show w.heap.size≤(Go.Sort.putRow id (Go.Sort.ahead w1 n) b 0 (Go.Sort.flatK EK 3 d)).heap.size; rw[Go.Sort.size_putRow]; exact q3.size))
  have hB2:=below_putRow (sortWorldK EK 3 w1 b 0 n d os) (B:=w.heap.size) q F q4
  have hB:=(q3.trans hB1).trans hB2
  have hsz3:(Go.Sort.putRow id (Go.Sort.ahead (sortWorldK EK 3 w1 b 0 n d os) q) b 0 F).heap.size=(sortWorldK EK 3 w1 b 0 n d os).heap.size:=by rw[Go.Sort.size_putRow]; rfl
  refine⟨[.slice (some ⟨b,0,none⟩) (DJ l).length cap],[none],fun b' o=>St b' o∨(b'=b∧o<(DJ l).length*3),AAE hB (fun _ _ h=>.inl h) (fun b' o h hlt=>?_) (fun b' o h=>?_) ?_⟩
  ·rcases h with h | ⟨rfl,_⟩
   ·exact h
   ·omega
  ·rcases h with h | ⟨rfl,_⟩
   ·exact di (hSt b' o h) hB.size
   ·rw[hsz3]; omega
  ·show RdD _ _ (.sl ((DJ l).map DVal.c)) _
   simp only[RdD,ae]
   refine⟨_,cap,rfl,AQ2,q2,⟨3,fun x hx=>by obtain⟨v,_,rfl⟩:=UT.1 hx; rfl⟩,.inr ⟨b,0,rfl, ?_⟩⟩
   refine AEv (DJ l) F AQ2 (fun o ho=>.inr ⟨rfl,ho⟩) (fun m hm=>AAA hH2 (by simp[hF,hd]) (by simpa [hd,hF] using hm)) hv fun v hv=>HF.out v ((ND l v).1 hv)
end Go.Proofs.YthmifbbmgnhddaaGreat
