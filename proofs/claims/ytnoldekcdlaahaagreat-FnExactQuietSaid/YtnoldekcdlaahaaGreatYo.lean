/- A part. -/
import Derived.Test.YtnoldekcdlaahaaGreatYh
import Derived.Test.YtnoldekcdlaahaaGreatYc
set_option linter.unusedSimpArgs false
set_option linter.unusedVariables false
set_option maxHeartbeats 4000000
set_option maxRecDepth 100000
namespace Go.Vm
section
variable {p q r:Prop}
theorem AQG(h:p:=by kernel_rfl):p:=h
end
theorem Head.frz {s:MS} (ls:List Nat) {st':List Ob} (h:YN s.st ls=some st'):Head s ⟨s.n,s.env,st'⟩:=⟨rfl,fun w0 St0 St β a w hc=>by
 obtain⟨St',h'⟩:=eU ls s.st st' St hc h
 exact⟨St',β,h'⟩⟩
end Go.Vm
open Go.Proofs.Tryz
namespace Go.Proofs.YtnoldekcdlaahaaGreat
open Go.Vm
theorem drop_cons {α:Type} {l:List α} {i:Nat} (h:i<l.length):l.drop i=l[i]::l.drop (i+1):=aG h
theorem NC (v x:DVal) (r:List DVal) (i:Nat):placeOf v (x::r) i=if NM x v=true then some (i:Int) else placeOf v r (i+1):=rfl
theorem Ud {v:DVal}:∀ {d:List DVal} {k:Nat} {i:Int},placeOf v d k=some i→(k:Int)≤i
 | [],_,_,h=>APk
 | x::r,k,i,h=>by
  rw[NC] at h
  split at h
  ·simp only[ak] at h; omega
  ·have:=Ud h; omega
theorem AEg (a b:DVal):NM a b=NM b a:=by
 rw[Bool.eq_iff_iff,LK,LK]; exact eq_comm
theorem qJ (d:List DVal) (v:DVal) (hl:d.length≤1048576):Ctr prog 456 [.c (.sl (d.map DVal.c)),.agg v.c] [.val (.c (.v (.int .i64 ((placeOf v d 0).getD (-1)))))]:=by
 refine CM call456 func456 ntmps456 results456 fun hw=>?_
 simp only[go_sem]
 refine AB4 1 (A:=Nat) (fun x=>[(5,.c (.v (.int .i64 (x))))]) (fun _=>[⟨64,3,[v.c],true,true⟩]) (fun x=>x≤d.length∧placeOf v (d.drop x) x=placeOf v d 0) (fun x=>d.length-x) 0 ⟨⟨rfl,rfl⟩,rfl,az _,rfl⟩ ?_
 rintro i ⟨hi,hp⟩
 refine AOb (fun h=>?_) fun h=>?_
 ·have hi':i<d.length:=by simp at h; omega
  have e1:(d[i].ty==v.ty&&(d[i].n==v.n&&d[i].s.toList==v.s.toList))=NM d[i] v:=rfl
  rw[drop_cons hi',NC] at hp
  simp only[go_sem,AA _ hi']
  refine AAm ?_
  simp only[go_sem,AA _ hi',EP,IG,e1]
  exact ALp
 ·exact ANM
theorem index_spec (d:List DVal) (v:DVal) (hl:d.length≤1048576):Ctr prog 472 [.c (.sl (d.map DVal.c)),.agg v.c] [.val (.c (.v (.int .i64 ((placeOf v d 0).getD (-1)))))]:=by
 refine CM call472 func472 ntmps472 results472 fun hw=>?_
 simp only[go_sem]
 refine AB4 1 (A:=Nat) (fun x=>[(8,.c (.v (.int .i64 (x))))]) (fun _=>[⟨64,3,[v.c],true,true⟩]) (fun x=>x≤d.length∧placeOf v (d.drop x) x=placeOf v d 0) (fun x=>d.length-x) 0 ⟨⟨rfl,rfl⟩,rfl,az _,rfl⟩ ?_
 rintro i ⟨hi,hp⟩
 refine AOb (fun h=>?_) fun h=>?_
 ·have hi':i<d.length:=by simp at h; omega
  have e1:(v.ty==d[i].ty&&(v.n==d[i].n&&v.s.toList==d[i].s.toList))=NM v d[i]:=rfl
  rw[drop_cons hi',NC] at hp
  simp only[go_sem,AA _ hi']
  refine AAm ?_
  simp only[go_sem,AA _ hi',EP,IG,e1,AEg v d[i]]
  exact ALp
 ·exact ANM
theorem qK (d:List DVal) (v:DVal) (hl:d.length≤1048576):Ctr prog 461 [.c (.sl (d.map DVal.c)),.agg v.c] [.val (.c (.v (.int .i64 ((placeOf v d 0).getD (-1)))))]:=by
 refine CM call461 func461 ntmps461 results461 fun hw=>?_
 simp only[go_sem]
 refine AAT _ (index_spec d v hl) fun _=>?_
 exact AIk
theorem places_cons (d:List DVal) (v:DVal) (l:List DVal):places d (v::l)=match placeOf v d 0,places d l with
  | some i,some r=>some (i::r)
  | _,_=>none:=rfl
theorem qL (d l:List DVal) (hl:l.length≤1048576) (hd:d.length≤1048576):Ctr prog 436 [.c (.sl (d.map DVal.c)),.c (.sl (l.map DVal.c))] (ZU (places d l)):=by
 refine CM call436 func436 ntmps436 results436 fun hw=>?_
 simp only[go_sem]
 refine AB6 [10] (A:=Nat×List Int) (fun x=>[(13,.c (.v (.int .i64 (x.1)))),(6,.c (.ref 0))]) (fun x=>[⟨3,1,x.2.map intC,true,true⟩]) (fun x=>x.1≤l.length∧x.2.length=x.1∧(places d (l.drop x.1)).map (fun y=>x.2++y)=places d l) (fun x=>l.length-x.1) (0,[]) (AB3 [(0,false)] ⟨rfl,rfl,rfl,trivial⟩ rfl) ⟨az _,rfl,AOi⟩ ?_
 rintro⟨i,out⟩ ⟨hi,hll,hp⟩
 dsimp only at hi hll hp
 refine AOb (fun h=>?_) fun h=>?_
 ·have hi':i<l.length:=by simp at h; omega
  have hl2:out.length+1≤2147483648:=AOh
  rw[drop_cons hi',places_cons] at hp
  simp only[go_sem,AA _ hi']
  refine AAT _ (qK d l[i] hd) fun _=>?_
  rcases h2:placeOf l[i] d 0 with _ | p
  ·rw[h2] at hp
   simp only[WY] at hp
   have h3:decide ((-1:Int)<0)=true:=AOq
   rw[← hp]
   simp only[go_sem,h2,xY,h3,ZU]
  ·rw[h2] at hp
   have h3:decide (p<0)=false:=by have:=Ud h2; simp; omega
   simp only[go_sem,h2,h3,hl2,wrap_i64 (n:=(i:Int)+1) AOh AOh]
   exact⟨(i+1,out ++ [p]),AB3 [(3,false)] ⟨rfl,rfl,by rw[← GU]; exact CB _,trivial⟩ (by rw[GU]; rfl),⟨hi',AOj,by
    rw[← hp]
    cases places d (l.drop (i+1))<;>simp⟩,AOl⟩
 ·have hi':i=l.length:=by simp at h; omega
  subst hi'
  rw[aV] at hp
  simp only[places,bW,bI] at hp
  rw[← hp]
  simp only[go_sem,ZU]
  try exact AIj
theorem qM (d l:List DVal) (hl:l.length≤1048576) (hd:d.length≤1048576):Ctr prog 428 [.c (.sl (d.map DVal.c)),.c (.sl (l.map DVal.c))] (ZU (places d l)):=by
 refine CM call428 func428 ntmps428 results428 fun hw=>?_
 simp only[go_sem]
 refine AB6 [9] (A:=Nat×List Int) (fun x=>[(7,.c (.v (.int .i64 (x.1)))),(6,.c (.ref 0))]) (fun x=>[⟨3,1,x.2.map intC,true,true⟩]) (fun x=>x.1≤l.length∧x.2.length=x.1∧(places d (l.drop x.1)).map (fun y=>x.2++y)=places d l) (fun x=>l.length-x.1) (0,[]) (AB3 [(0,false)] ⟨rfl,rfl,rfl,trivial⟩ rfl) ⟨az _,rfl,AOi⟩ ?_
 rintro⟨i,out⟩ ⟨hi,hll,hp⟩
 dsimp only at hi hll hp
 refine AOb (fun h=>?_) fun h=>?_
 ·have hi':i<l.length:=by simp at h; omega
  have hl2:out.length+1≤2147483648:=AOh
  rw[drop_cons hi',places_cons] at hp
  simp only[go_sem,AA _ hi']
  refine AAT _ (qJ d l[i] hd) fun _=>?_
  rcases h2:placeOf l[i] d 0 with _ | p
  ·rw[h2] at hp
   simp only[WY] at hp
   have h3:decide ((-1:Int)<0)=true:=AOq
   rw[← hp]
   simp only[go_sem,h2,xY,h3,ZU]
   try simp[DI]
  ·rw[h2] at hp
   have h3:decide (p<0)=false:=by have:=Ud h2; simp; omega
   simp only[go_sem,h2,h3,hl2,wrap_i64 (n:=(i:Int)+1) AOh AOh]
   exact⟨(i+1,out ++ [p]),AB3 [(2,false)] ⟨rfl,rfl,by rw[← GU]; exact CB _,trivial⟩ (by rw[GU]; rfl),⟨hi',AOj,by
    rw[← hp]
    cases places d (l.drop (i+1))<;>simp⟩,AOl⟩
 ·have hi':i=l.length:=by simp at h; omega
  subst hi'
  rw[aV] at hp
  simp only[places,bW,bI] at hp
  rw[← hp]
  simp only[go_sem,ZU]
  try exact AIj
theorem Yc (d:List DVal) (i:Int) (l:List Int):picked d (i::l)=if 0≤i then match d[i.toNat]?,picked d l with
   | some v,some r=>some (v::r)
   | _,_=>none
  else none:=rfl
theorem Ue {d:List DVal} {i:Int} (l:List Int) (h:¬ (0≤i∧i<d.length)):picked d (i::l)=none:=by
 rw[Yc]
 split
 ·have:d[i.toNat]?=none:=by rw[abn]; omega
  rw[this]
 ·rfl
theorem lS {d:List DVal} {i:Nat} (l:List Int) (h:i<d.length):picked d ((i:Int)::l)=(picked d l).map (fun r=>d[i]::r):=by
 rw[Yc,bu AOh,bH,au h]
 cases picked d l<;>rfl
theorem qN (d:List DVal) (l:List Int) (hl:l.length≤1048576) (hd:d.length≤1048576):Ctr prog 423 [.c (.sl (d.map DVal.c)),.c (.sl (l.map intC))] (Dn (picked d l)):=by
 refine CM call423 func423 ntmps423 results423 fun hw=>?_
 simp only[go_sem]
 refine AB6 [9] (A:=Nat×List DVal) (fun x=>[(12,.c (.v (.int .i64 (x.1)))),(6,.c (.ref 0))]) (fun x=>[⟨64,3,x.2.map DVal.c,true,true⟩]) (fun x=>x.1≤l.length∧x.2.length=x.1∧(picked d (l.drop x.1)).map (fun y=>x.2++y)=picked d l) (fun x=>l.length-x.1) (0,[]) (AB3 [(0,false)] ⟨rfl,rfl,rfl,trivial⟩ rfl) ⟨az _,rfl,AOi⟩ ?_
 rintro⟨i,out⟩ ⟨hi,hll,hp⟩
 dsimp only at hi hll hp
 refine AOb (fun h=>?_) fun h=>?_
 ·have hi':i<l.length:=by simp at h; omega
  have hl2:out.length+1≤2147483648:=AOh
  rw[drop_cons hi'] at hp
  simp only[go_sem,AA _ hi']
  rcases h2:decide (l[i]<0) with _ | _
  ·have h2':0≤l[i]:=by simpa using h2
   rcases h3:decide (l[i]≥(d.length:Int)) with _ | _
   ·have h3':l[i]<d.length:=by simpa using h3
    obtain⟨p,hpe⟩:=aO h2'
    have hp':p<d.length:=AOh
    rw[hpe,lS _ hp'] at hp
    rw[hpe] at h2 h3
    simp only[go_sem,hpe,h2,h3,hl2,AA _ hp',wrap_i64 (n:=(i:Int)+1) AOh AOh]
    exact AMG
   ·rw[Ue _ APX] at hp
    rw[← hp]
    simp only[go_sem,h2,h3,WY,Dn]
  ·rw[Ue _ AOw] at hp
   rw[← hp]
   simp only[go_sem,h2,WY,Dn]
 ·have hi':i=l.length:=by simp at h; omega
  subst hi'
  rw[aV] at hp
  simp only[picked,bW,bI] at hp
  rw[← hp]
  simp only[go_sem,Dn]
  try exact AIj
theorem V8 (d:List DVal) (l:List Int) (hl:l.length≤1048576) (hd:d.length≤1048576):Ctr prog 416 [.c (.sl (d.map DVal.c)),.c (.sl (l.map intC))] (Dn (picked d l)):=by
 refine CM call416 func416 ntmps416 results416 fun hw=>?_
 simp only[go_sem]
 refine AB6 [8] (A:=Nat×List DVal) (fun x=>[(7,.c (.v (.int .i64 (x.1)))),(6,.c (.ref 0))]) (fun x=>[⟨64,3,x.2.map DVal.c,true,true⟩]) (fun x=>x.1≤l.length∧x.2.length=x.1∧(picked d (l.drop x.1)).map (fun y=>x.2++y)=picked d l) (fun x=>l.length-x.1) (0,[]) (AB3 [(0,false)] ⟨rfl,rfl,rfl,trivial⟩ rfl) ⟨az _,rfl,AOi⟩ ?_
 rintro⟨i,out⟩ ⟨hi,hll,hp⟩
 dsimp only at hi hll hp
 refine AOb (fun h=>?_) fun h=>?_
 ·have hi':i<l.length:=by simp at h; omega
  have hl2:out.length+1≤2147483648:=AOh
  rw[drop_cons hi'] at hp
  simp only[go_sem,AA _ hi',wrap_i64 (n:=(d.length:Int)-1) AOh AOh]
  refine AAT _ (AP _ _ _) fun _=>?_
  rcases h2:Aa l[i] 0 ((d.length:Int)-1) with _ | _
  ·rw[Ue _ AOr] at hp
   rw[← hp]
   simp only[go_sem,h2,WY,Dn]
   try simp[DI]
  ·have h2':0≤l[i]∧l[i]<d.length:=by simp[Aa] at h2; omega
   obtain⟨p,hpe⟩:=aO h2'.1
   have hp':p<d.length:=AOh
   rw[hpe,lS _ hp'] at hp
   rw[hpe] at h2
   simp only[go_sem,AA _ hi',hpe,h2,hl2,AA _ hp',wrap_i64 (n:=(i:Int)+1) AOh AOh]
   exact AMG
 ·have hi':i=l.length:=by simp at h; omega
  subst hi'
  rw[aV] at hp
  simp only[picked,bW,bI] at hp
  rw[← hp]
  simp only[go_sem,Dn]
  try exact AIj
theorem z_ {l:List DVal} (h:0<l.length):Cm (l.take 1)=l[0].n:=by
 cases l with
 | nil=>simp at h
 | cons v r=>rfl
theorem Yd {l:List DVal} {i:Nat} (h0:0<i) (h:i<l.length):Cm (l.take (i+1))=min (Cm (l.take i)) l[i].n:=by
 cases l with
 | nil=>simp at h
 | cons v r =>
  obtain⟨j,rfl⟩:∃ j,i=j+1:=⟨i-1,AOh⟩
  have hj:j<r.length:=AO7
  simp only[abg,abx]
  show (r.take (j+1)).foldl _ _=min ((r.take j).foldl _ _) _
  rw[aag hj,abD]
  rfl
theorem wP {l:List DVal} (h:0<l.length):l.foldl (fun n x=>min n x.n) l[0].n=Cm l:=by
 cases l with
 | nil=>simp at h
 | cons v r =>
  show r.foldl _ (min v.n v.n)=r.foldl _ v.n
  rw[show min v.n v.n=v.n from AOh]
theorem Xe:∀ {l:List DVal} {v:DVal},v∈l→Cm l≤v.n∧∃ x∈l,Cm l=x.n:=by
 have key:∀ (r:List DVal) (n:Int),r.foldl (fun n x=>min n x.n) n≤n∧(∀ x∈r,r.foldl (fun n x=>min n x.n) n≤x.n)∧(r.foldl (fun n x=>min n x.n) n=n∨∃ x∈r,r.foldl (fun n x=>min n x.n) n=x.n):=by
  intro r
  induction r with
  | nil=>intro n; simp
  | cons v r ih =>
   intro n
   obtain⟨a1,a2,a3⟩:=ih (min n v.n)
   simp only[abC]
   refine⟨AOh,fun x hx=>?_, ?_⟩
   ·rcases dh.1 hx with rfl | hx
    ·omega
    ·exact a2 x hx
   ·rcases a3 with a3 | ⟨x,hx,a3⟩
    ·by_cases h:n≤v.n
     ·left; omega
     ·right; exact⟨v,AOi,AOh⟩
    ·right; exact⟨x,APe,a3⟩
 intro l v hv
 cases l with
 | nil=>cases hv
 | cons w r =>
  obtain⟨a1,a2,a3⟩:=key r w.n
  have e:Cm (w::r)=r.foldl (fun n x=>min n x.n) w.n:=rfl
  rw[e]
  refine⟨?_, ?_⟩
  ·rcases dh.1 hv with rfl | hv
   ·exact a1
   ·exact a2 v hv
  ·rcases a3 with a3 | ⟨x,hx,a3⟩
   ·exact⟨w,AOi,a3⟩
   ·exact⟨x,APe,a3⟩
theorem ZW {v:DVal} (h:BK v=true) (h1:v.ty=1) : -1000000000≤v.n∧v.n≤1000000000:=by
 simp only[BK,bu h1,ay] at h
 simpa [EL,Aa] using h.1
theorem AEh {l:List DVal} (h:typeOf l=1) {v:DVal} (hv:v∈l):0≤v.n-Cm l∧v.n-Cm l≤2000000000:=by
 obtain⟨_,_,q3⟩:=Df (l:=l) AOh
 obtain⟨a1,x,hx,a2⟩:=Xe hv
 have b1:=ZW (q3 v hv).1 ((q3 v hv).2.trans h)
 have b2:=ZW (q3 x hx).1 ((q3 x hx).2.trans h)
 omega
theorem take_snoc' {α:Type} {l:List α} {i:Nat} (h:i<l.length):l.take (i+1)=l.take i ++ [l[i]]:=aag h
theorem AIB (a b:Int):min a b=if b<a then b else a:=by split<;>omega
theorem Ky {α β:Type} (f:α→β) {l:List α} {i:Nat} (h:i<l.length):(l.take (i+1)).map f=(l.take i).map f ++ [f l[i]]:=by
 rw[aag h,XC]; rfl
theorem gz (l:List DVal) (hl:l.length≤1048576):Ctr prog 432 [.c (.sl (l.map DVal.c))] [.val (.c (.v (.int .i64 (Cm l))))]:=by
 refine CM call432 func432 ntmps432 results432 fun hw=>?_
 simp only[go_sem]
 refine AB4 0 (A:=Nat) (fun x=>[(4,.c (.v (.int .i64 (x)))),(3,.c (.v (.int .i64 (Cm (l.take x)))))]) (fun _=>[]) (fun x=>x≤l.length) (fun x=>l.length-x) 0 ⟨⟨rfl,rfl⟩,rfl,az _⟩ ?_
 rintro i hi
 refine AOb (fun h=>?_) fun h=>?_
 ·have hi':i<l.length:=by simp at h; omega
  rcases h2:((i:Int)==0) with _ | _
  ·have h2':0<i:=by simp at h2; omega
   rcases h3:decide (l[i].n<Cm (l.take i)) with _ | _
   ·have e:Cm (l.take (i+1))=Cm (l.take i):=by rw[Yd h2' hi']; simp at h3; omega
    exact AMx
   ·have e:Cm (l.take (i+1))=l[i].n:=by rw[Yd h2' hi']; simp at h3; omega
    exact AMx
  ·have h2':i=0:=by simpa using h2
   subst h2'
   have e:Cm (l.take (0+1))=l[0].n:=z_ hi'
   simp only[go_sem,AA _ hi',h2,wrap_i64 (n:=((0:Nat):Int)+1) AOh AOh]
   exact⟨0+1,⟨rfl,rfl⟩,by rw[e]; rfl,hi',AOh⟩
 ·have hi':i=l.length:=by simp at h; omega
  subst hi'
  simp only[go_sem,bD]
theorem g_ (l:List DVal) (hl:l.length≤1048576):Ctr prog 440 [.c (.sl (l.map DVal.c))] [.val (.c (.v (.int .i64 (Cm l))))]:=by
 refine CM call440 func440 ntmps440 results440 fun hw=>?_
 rcases h1:((l.length:Int)==0) with _ | _
 rotate_left
 ·have:l = []:=by simpa using h1
  have e:Cm l=0:=by rw[this]; rfl
  rw[e]
  simp only[go_sem,h1]
 have h0:0<l.length:=by
  rcases abk l.length with h | h
  ·rw[h] at h1; exact absurd h1 AOq
  ·exact h
 simp only[go_sem,h1,AA _ h0]
 refine AB4 0 (A:=Nat) (fun x=>[(15,.c (.v (.int .i64 (x)))),(3,.c (.v (.int .i64 ((l.take x).foldl (fun n x=>min n x.n) l[0].n))))]) (fun _=>[]) (fun x=>x≤l.length) (fun x=>l.length-x) 0 ⟨⟨rfl,rfl⟩,rfl,az _⟩ ?_
 rintro i hi
 refine AOb (fun h=>?_) fun h=>?_
 ·have hi':i<l.length:=by simp at h; omega
  simp only[go_sem,AA _ hi',wrap_i64 (n:=(i:Int)+1) AOh AOh]
  exact⟨i+1,⟨rfl,rfl⟩,by rw[take_snoc' hi',abD,abC,List.foldl_nil,AIB]; rfl,hi',AOh⟩
 ·have hi':i=l.length:=by simp at h; omega
  subst hi'
  rw[← wP h0]
  simp only[go_sem,bD]
theorem jZ (l:List DVal) (hl:l.length≤1048576):Ctr prog 438 [.c (.sl (l.map DVal.c))] [.own 3 1 ((offsets l).map intC) true]:=by
 refine CM call438 func438 ntmps438 results438 fun hw=>?_
 simp only[go_sem]
 refine AAT _ (DF l hl) fun _=>?_
 rcases h1:typeOf l != 1 with _ | _
 ·have h1':typeOf l=1:=by simpa using h1
  obtain⟨q1,q2,q3⟩:=Df (l:=l) AOh
  have e:offsets l=l.map fun v=>v.n-Cm l:=aZ AOh
  rw[e]
  simp only[go_sem,h1]
  refine AB6 [6] (A:=Nat) (fun x=>[(13,.c (.v (.int .i64 (x)))),(3,.c (.ref 0))]) (fun x=>[⟨3,1,((l.take x).map fun v=>v.n-Cm l).map intC,true,true⟩]) (fun x=>x≤l.length) (fun x=>l.length-x) 0 (AB3 [(0,false)] ⟨rfl,rfl,rfl,trivial⟩ rfl) (az _) ?_
  rintro i hi
  refine AOb (fun h=>?_) fun h=>?_
  ·have hi':i<l.length:=by simp at h; omega
   have ho:=AEh h1' (ax hi')
   have hl2:i+1≤2147483648:=AOh
   simp only[go_sem,AA _ hi']
   refine AC8 4 6 [0,1,2,3,4,5,6,7,8] [5,6] rfl AQG rfl AQG ?_
   simp only[go_sem]
   refine ABU ?_
   simp only[go_sem]
   refine ACJ _ (g_ l hl) ?_
   simp only[go_sem,hl2,bz,dO hi,wrap_i64 (n:=l[i].n-Cm l) AOh AOh,wrap_i64 (n:=(i:Int)+1) AOh AOh]
   exact ANE
  ·have hi':i=l.length:=by simp at h; omega
   subst hi'
   simp only[go_sem,bD]
   try exact AIj
 ·have h1':typeOf l≠1:=by simpa using h1
  have e:offsets l = []:=bu h1'
  exact AJY
theorem ja (l:List DVal) (hl:l.length≤1048576):Ctr prog 430 [.c (.sl (l.map DVal.c))] [.own 3 1 ((offsets l).map intC) true]:=by
 refine CM call430 func430 ntmps430 results430 fun hw=>?_
 simp only[go_sem]
 refine AAT _ (En l hl) fun _=>?_
 rcases h1:typeOf l != 1 with _ | _
 ·have h1':typeOf l=1:=by simpa using h1
  obtain⟨q1,q2,q3⟩:=Df (l:=l) AOh
  have e:offsets l=l.map fun v=>v.n-Cm l:=aZ AOh
  rw[e]
  simp only[go_sem,h1]
  refine AAT _ (gz l hl) fun _=>?_
  simp only[go_sem]
  refine AB6 [6] (A:=Nat) (fun x=>[(5,.c (.v (.int .i64 (x)))),(3,.c (.ref 0))]) (fun x=>[⟨3,1,((l.take x).map fun v=>v.n-Cm l).map intC,true,true⟩]) (fun x=>x≤l.length) (fun x=>l.length-x) 0 (AB3 [(0,false)] ⟨rfl,rfl,rfl,trivial⟩ rfl) (az _) ?_
  rintro i hi
  refine AOb (fun h=>?_) fun h=>?_
  ·have hi':i<l.length:=by simp at h; omega
   have ho:=AEh h1' (ax hi')
   have hl2:i+1≤2147483648:=AOh
   simp only[go_sem,AA _ hi',hl2,bz,dO hi,wrap_i64 (n:=l[i].n-Cm l) AOh AOh,wrap_i64 (n:=(i:Int)+1) AOh AOh]
   exact⟨i+1,AB3 [(2,false)] ⟨rfl,rfl,by rw[← GU]; exact CB _,trivial⟩ (by rw[Ky _ hi',GU]; rfl),hi',AOh⟩
  ·have hi':i=l.length:=by simp at h; omega
   subst hi'
   simp only[go_sem,bD]
   try exact AIj
 ·have h1':typeOf l≠1:=by simpa using h1
  have e:offsets l = []:=bu h1'
  exact AJY
def rOk (base x:Int):Prop:=(0≤x∧x≤2000000000)∧base+x≤1000000000
theorem Xf {base:Int} {l:List Int} (h:¬ (-1000000000≤base∧base≤1000000000)):raised base l=none:=aZ fun q=>h q.1
theorem QL {base:Int} {l:List Int} {i:Nat} (hi:i<l.length) (h:¬ rOk base l[i]):raised base l=none:=aZ fun q=>h (q.2 _ (ax hi))
theorem h_ {base:Int} {l:List Int} (h : -1000000000≤base∧base≤1000000000) (h2:∀ i (hi:i<l.length),rOk base l[i]):raised base l=some (l.map fun x=>⟨1,base+x,ByteArray.empty⟩):=bu ⟨h,fun x hx=>by
 obtain⟨i,hi,rfl⟩:=aay hx
 exact h2 i hi⟩
theorem ED (x:Int):EL x=true↔ -1000000000≤x∧x≤1000000000:=by simp[EL,Aa]
theorem qO (base:Int) (l:List Int) (hl:l.length≤1048576):Ctr prog 424 [.c (.v (.int .i64 (base))),.c (.sl (l.map intC))] (Dn (raised base l)):=by
 refine CM call424 func424 ntmps424 results424 fun hw=>?_
 simp only[go_sem]
 refine AAT _ (NL _) fun _=>?_
 rcases h1:EL base with _ | _
 ·exact AOT
 have hb:=(ED base).1 h1
 simp only[go_sem,h1]
 refine AB6 [12] (A:=Nat) (fun x=>[(15,.c (.v (.int .i64 (x)))),(6,.c (.ref 0))]) (fun x=>[⟨64,3,((l.take x).map fun(x:Int)=>(⟨1,base+x,ByteArray.empty⟩:DVal)).map DVal.c,true,true⟩]) (fun x=>x≤l.length∧∀ m (h:m<l.length),m<x→rOk base l[m]) (fun x=>l.length-x) 0 (AB3 [(0,false)] ⟨rfl,rfl,rfl,trivial⟩ rfl) ⟨az _,fun m h h2=>AOh⟩ ?_
 rintro i ⟨hi,hok⟩
 refine AOb (fun h=>?_) fun h=>?_
 ·have hi':i<l.length:=by simp at h; omega
  simp only[go_sem,AA _ hi']
  refine AAT _ (AL _ _ _) fun _=>?_
  rcases h2:Aa l[i] 0 2000000000 with _ | _
  ·rw[QL hi' (fun q=>by have:=q.1; simp[Aa] at h2; omega)]
   exact ANW
  have h2':0≤l[i]∧l[i]≤2000000000:=AOr
  rcases h3:decide (base+l[i]>1000000000) with _ | _
  ·have hl2:i+1≤2147483648:=by omega
   simp only[go_sem,AA _ hi',h2,h3,hl2,wrap_i64 (n:=base+l[i]) AOh AOh,wrap_i64 (n:=(i:Int)+1) AOh AOh,bz,dO hi]
   exact⟨i+1,AB3 [(2,false)] ⟨rfl,rfl,Me _ ⟨1,base+l[i],ByteArray.empty⟩,trivial⟩ (by rw[Ky _ hi',GV]; rfl),⟨hi',fun m h4 h5=>by
    by_cases e:m=i
    ·subst e; exact⟨h2',APX⟩
    ·exact hok m h4 AOh⟩,AOh⟩
  ·exact AMm
 ·have hi':i=l.length:=by simp at h; omega
  subst hi'
  rw[h_ hb fun m hm=>hok m hm hm]
  simp only[go_sem,Dn,bD]
  try exact AIj
theorem V9 (base:Int) (l:List Int) (hl:l.length≤1048576):Ctr prog 417 [.c (.v (.int .i64 (base))),.c (.sl (l.map intC))] (Dn (raised base l)):=by
 refine CM call417 func417 ntmps417 results417 fun hw=>?_
 simp only[go_sem]
 refine AB6 [8] (A:=Nat) (fun x=>[(7,.c (.v (.int .i64 (x)))),(6,.c (.ref 0))]) (fun x=>[⟨64,3,((l.take x).map fun(x:Int)=>(⟨1,base+x,ByteArray.empty⟩:DVal)).map DVal.c,true,true⟩]) (fun x=>x≤l.length∧(0<x→ -1000000000≤base∧base≤1000000000)∧∀ m (h:m<l.length),m<x→rOk base l[m]) (fun x=>l.length-x) 0 (AB3 [(0,false)] ⟨rfl,rfl,rfl,trivial⟩ rfl) ⟨az _,fun h=>AOh,fun m h h2=>AOh⟩ ?_
 rintro i ⟨hi,hbs,hok⟩
 refine AOb (fun h=>?_) fun h=>?_
 ·have hi':i<l.length:=by simp at h; omega
  simp only[go_sem]
  refine AAT _ (Jj _) fun _=>?_
  rcases h1:EL base with _ | _
  ·exact AOT
  have hb:=(ED base).1 h1
  simp only[go_sem,h1,AA _ hi']
  refine AAT _ (AP _ _ _) fun _=>?_
  rcases h2:Aa l[i] 0 2000000000 with _ | _
  ·rw[QL hi' (fun q=>by have:=q.1; simp[Aa] at h2; omega)]
   exact ANW
  have h2':0≤l[i]∧l[i]≤2000000000:=AOr
  rcases h3:decide (base+l[i]>1000000000) with _ | _
  ·have hl2:i+1≤2147483648:=by omega
   simp only[go_sem,AA _ hi',h2,h3,hl2,wrap_i64 (n:=base+l[i]) AOh AOh,wrap_i64 (n:=(i:Int)+1) AOh AOh,bz,dO hi]
   exact⟨i+1,AB3 [(2,false)] ⟨rfl,rfl,Me _ ⟨1,base+l[i],ByteArray.empty⟩,trivial⟩ (by rw[Ky _ hi',GV]; rfl),⟨hi',fun _=>hb,fun m h4 h5=>by
    by_cases e:m=i
    ·subst e; exact⟨h2',APX⟩
    ·exact hok m h4 AOh⟩,AOh⟩
  ·exact AMm
 ·have hi':i=l.length:=by simp at h; omega
  subst hi'
  simp only[go_sem,bD]
  refine AAT _ (Jj _) fun _=>?_
  rcases h1:EL base with _ | _
  ·rw[Xf (by rw[← ED,h1]; simp)]
   have:l = []:=by
    by_cases h0:0<l.length
    ·have:=(ED base).2 (hbs h0); rw[h1] at this; cases this
    ·cases l<;>simp_all
   subst this
   simp only[go_sem,h1,Dn]
   try simp[DI]
  have hb:=(ED base).1 h1
  rw[h_ hb fun m hm=>hok m hm hm]
  simp only[go_sem,h1,Dn]
  try exact AIj
theorem NK {s:MS} (l:Nat) {ob:Ob} (h:DT s.st l=some ob) (hp:G5 ob.xs=true):Head s ⟨s.n,s.env,Qi s.st l⟩:=Head.frz [l] (by simp only[YN,h,hp,aX])
theorem TG (l:List DVal):((l.map DVal.c).all fun r=>r.length==3)=true:=aP.2 fun r hr=>by
 obtain⟨x,_,rfl⟩:=kN.1 hr
 rfl
theorem iC (v x:DVal) (r:List DVal):ins v (x::r)=if FV x v=true then x::ins v r else if NM x v=true then x::r else v::x::r:=rfl
theorem ABM (v:DVal):∀ {d:List DVal},(∀ m (h:m<d.length),FV d[m] v=true)→ins v d=d ++ [v]
 | [],_=>rfl
 | x::r,h=>by
  have h0:=h 0 AOi
  simp only[abw] at h0
  rw[iC,bu h0,ABM v fun m hm=>by
   have:=h (m+1) (by simpa using hm)
   simpa using this]
  rfl
theorem ABN (v:DVal):∀ {d:List DVal} {k:Nat} (hk:k<d.length),(∀ m (h:m<d.length),m<k→FV d[m] v=true)→FV d[k] v=false→ins v d=if NM d[k] v=true then d else d.take k++v::d.drop k
 | [],k,hk,_,_=>APM
 | x::r,0,_,_,h2=>by
  simp only[abw] at h2
  rw[iC,h2,aZ AOi]
  rfl
 | x::r,k+1,hk,h1,h2=>by
  have h0:=h1 0 AOi AOh
  simp only[abw] at h0
  simp only[abx] at h2
  rw[iC,bu h0,ABN v (k:=k) APN (fun m hm hm2=>by
   have:=h1 (m+1) (by simpa using hm) AOh
   simpa using this) h2]
  simp only[abx]
  split<;>rfl
theorem ACc {l:List DVal} {i:Nat} (h:i<l.length):DN (l.take (i+1))=ins l[i] (DN (l.take i)):=by
 rw[take_snoc h]
 simp only[DN,abD,abC,List.foldl_nil]
theorem Uf (a b:List DVal) (v:DVal):(a++v::b).map DVal.c=a.map DVal.c ++ [v.c]++b.map DVal.c:=AOi
theorem MH (a b:List DVal) (v:DVal):G5 (a.map DVal.c ++ [v.c]++b.map DVal.c)=true:=by rw[← Uf]; exact QF _
theorem AAA (l:List DVal) (hl:l.length≤1048576):Ctr prog 427 [.c (.sl (l.map DVal.c))] [.val (.c (.sl ((DN l).map DVal.c)))]:=by
 refine CM call427 func427 ntmps427 results427 fun hw=>?_
 simp only[go_sem]
 refine AB6 [6] (A:=Nat) (fun x=>[(4,.c (.v (.int .i64 (x)))),(3,.c (.ref 0))]) (fun x=>[⟨64,3,(DN (l.take x)).map DVal.c,false,true⟩]) (fun x=>x≤l.length) (fun x=>l.length-x) 0 (Head.trans (Head.frz [0] rfl) (AB3 [(0,false)] ⟨rfl,rfl,rfl,trivial⟩ rfl)) (az _) ?_
 rintro i hi
 refine AOb (fun h=>?_) fun h=>?_
 ·have hi':i<l.length:=by simp at h; omega
  have hdl:=PR (l.take i)
  rw[bz] at hdl
  have hds:=ACc hi'
  generalize hd:DN (l.take i)=d at hdl hds
  simp only[go_sem,hd]
  refine AB4 1 (A:=Nat) (fun x=>[(5,.c (.v (.int .i64 (x))))]) (fun _=>[⟨64,3,d.map DVal.c,false,true⟩]) (fun x=>x≤d.length∧∀ m (h:m<d.length),m<x→FV d[m] l[i]=true) (fun x=>d.length-x) 0 ⟨⟨rfl,all1 (AU (DD _))⟩,rfl,az _,fun m h h2=>AOh⟩ ?_
  rintro k ⟨hk,hless⟩
  rcases h2:decide ((k:Int)<(d.length:Int)) with _ | _
  ·have h2':k=d.length:=by simp at h2; omega
   have hkle:k≤d.length:=hk
   have hins:=ABM l[i] fun m hm=>hless m hm AOh
   have hds:DN (l.take (i+1))=d.take k++l[i]::d.drop k:=by rw[hds,hins,h2']; simp
   have h3:((k:Int)==(d.length:Int))=true:=AOj
   simp only[go_sem]
   refine AAm ?_
   simp only[go_sem,h2]
   refine AAm ?_
   simp only[go_sem,h3]
   have hkm:min k d.length=k:=AOh
   have g1:k≤2147483648:=AOh
   have g2:k+1≤2147483648:=AOh
   have g3:k+1+(d.length-k)≤2147483648:=AOh
   have htk:(d.drop k).take (d.length-k)=d.drop k:=aaz AOi
   refine AC1 4 9 [0,1,2,3,4,5,6,7,8,9,10,11,12,13,14,15] [0,5,6,7,8,9,1,2,3,4,10,11,12,13,14,15] rfl AQG AQG ?_ ?_
   ·exact AGZ
   ·simp only[go_sem]
    refine AC1 0 5 [0,1,2,3,4,5,6,7,8,9,10,11,12,13,14,15] [1,2,3,4,5,0,6,7,8,9,10,11,12,13,14,15] rfl AQG AQG ?_ ?_
    ·exact AGZ
    ·exact AGZ
  have h2':k<d.length:=APP
  simp only[go_sem]
  refine AAm ?_
  simp only[go_sem,h2,h2',AA _ h2',AA _ hi']
  have e1:(d[k].ty==l[i].ty&&(d[k].n==l[i].n&&d[k].s.toList==l[i].s.toList))=NM d[k] l[i]:=rfl
  refine CY (jI d[k] l[i]) ?_
  rcases h3:FV d[k] l[i] with _ | _
  ·have hins:=ABN l[i] h2' hless h3
   have h4:((k:Int)==(d.length:Int))=false:=AOj
   simp only[go_sem]
   refine AAm ?_
   simp only[go_sem,h4,h2',AA _ h2',AA _ hi',EP,IG,e1]
   rcases h5:NM d[k] l[i] with _ | _
   rotate_left
   ·have hds:DN (l.take (i+1))=d:=by rw[hds,hins,bu h5]
    simp only[go_sem,h5,wrap_i64 (n:=(i:Int)+1) AOh AOh]
    exact⟨i+1,AB3 [(0,false)] ⟨rfl,rfl,QF _,trivial⟩ (by rw[hds]; rfl),hi',AOh⟩
   have hds:DN (l.take (i+1))=d.take k++l[i]::d.drop k:=by rw[hds,hins,h5,aZ AOi]
   have hkle:k≤d.length:=hk
   simp only[go_sem,h5]
   have hkm:min k d.length=k:=AOh
   have g1:k≤2147483648:=AOh
   have g2:k+1≤2147483648:=AOh
   have g3:k+1+(d.length-k)≤2147483648:=AOh
   have htk:(d.drop k).take (d.length-k)=d.drop k:=aaz AOi
   refine AC1 4 9 [0,1,2,3,4,5,6,7,8,9,10,11,12,13,14,15] [0,5,6,7,8,9,1,2,3,4,10,11,12,13,14,15] rfl AQG AQG ?_ ?_
   ·exact AGZ
   ·simp only[go_sem]
    refine AC1 0 5 [0,1,2,3,4,5,6,7,8,9,10,11,12,13,14,15] [1,2,3,4,5,0,6,7,8,9,10,11,12,13,14,15] rfl AQG AQG ?_ ?_
    ·exact AGZ
    ·exact AGZ
  ·simp only[go_sem,wrap_i64 (n:=(k:Int)+1) AOh AOh]
   exact⟨k+1,⟨rfl,all1 (AU (DD _))⟩,rfl,⟨h2',fun m h4 h5=>by
    by_cases e:m=k
    ·subst e; exact h3
    ·exact hless m h4 AOh⟩,AOh⟩
 ·have hi':i=l.length:=by simp at h; omega
  subst hi'
  simp only[go_sem,bD]
  try exact AIj
open Go.RowKit
theorem iD {w:World} {b:Nat} {l:List DVal} {cs:Array Value} {ty:TypeId} (hb:w.heap[b]?=some (.cells cs ty (0,0))) (hc:∀ (k:Nat) (c:Cl),(l.map DVal.c).flatten[k]?=some c→∃ y,cs[k]?=some y∧c = .v y) :
  Go.Sort.HoldsK EJ 3 w b 0 l.toArray:=by
 intro t ht
 have ht':t<l.length*3:=by simpa using ht
 have hk:t/3<l.length:=AOh
 have hr:(l.map DVal.c)[t/3]?=some l[t/3].c:=by simp[hk]
 have hlen:∀ x∈l.map DVal.c,x.length=3:=fun x hx=>by
  obtain⟨v,_,rfl⟩:=kN.1 hx
  rfl
 have h3:t%3<3:=Nat.mod_lt _ AOh
 have he:(EJ l.toArray[t/3]!)[t%3]! = (EJ l[t/3])[t%3]!:=by simp[hk]
 rw[Go.Sort.get_flatK _ _ _ _ (by simpa using ht'),he,uX]
 have hc1:∃ y,l[t/3].c[t%3]?=some (.v y)∧(EJ l[t/3])[t%3]! = y:=by
  rcases(show t%3=0∨t%3=1∨t%3=2 from AOh) with e | e | e<;>rw[e]<;>exact⟨_,rfl,rfl⟩
 obtain⟨y,hy1,hy2⟩:=hc1
 have hf:=FZ hlen (t/3) (t%3) _ _ hr hy1
 rw[show t/3*3+t%3=t from AOh] at hf
 obtain⟨z,hz1,hz2⟩:=hc t _ hf
 cases hz2
 rw[hy2]
 constructor
 ·show (match w.heap[b]? with | some (.cells cs _ _)=>cs[t]? | _=>none)=some y
  rw[hb]; exact hz1
 ·show (match w.heap[b]? with | some (.cells _ _ (lo,hi))=>decide (lo≤t)&&decide (t<hi) | _=>false)=false
  rw[hb]; simp
theorem wQ {w:World} {b q:Nat} {F:Array Value} {n:Nat} (h:Go.Sort.Holds id w b 0 F) {G:Array Value} (hs:G.size=F.size) (hn:n<F.size):(Go.Sort.putRow id (Go.Sort.ahead w q) b 0 G).cell? ⟨b,n,none⟩=some G[n]!:=by
 have:=(Go.Sort.holds_putRow id (Go.Sort.ahead w q) b 0 F G (Go.Sort.holds_ahead id w q b 0 F h) hs n AOh).1
 rwa [uX] at this
theorem jc (l:List DVal) (hl:l.length≤1048576) (w:World) (St:Nat→Nat→Prop) (u:Value) (hSt:∀ b o,St b o→b<w.heap.size) (hu:RdA w St (.c (.sl (l.map DVal.c))) u) :
  Calls prog 235 #[u] w fun e w1=>∃ a cap,e = .returned (.slice a l.length cap)∧l.length≤cap∧cap≤maxLen∧Below w.heap.size w w1∧(l = []∨∃ b,a=some ⟨b,0,none⟩∧w.heap.size≤b∧b<w1.heap.size∧Go.Sort.HoldsK EJ 3 w1 b 0 l.toArray):=by
 refine((Gx l hl).2 w St [u] hSt ⟨u,[],rfl,hu,rfl⟩).mono ?_
 rintro e w1 ⟨us,bs,St1,hb⟩
 obtain⟨Φs,hR,_⟩:=hb.res
 obtain⟨u1,us',b1,bs',Φ,Φs',rfl,rfl,rfl,h1,h2,_,_⟩:=hR
 subst h2
 have hret:=hb.ret
 cases b1 with
 | none =>
  obtain⟨rfl,h3⟩:=h1
  have:l = []:=AOx
  subst this
  exact⟨none,0,hret,aT _,az _,hb.below,.inl rfl⟩
 | some b =>
  obtain⟨g1,g2,g3,g4,cap,cs,rfl,g5,g6,g7,g8,g9⟩:=h1
  rw[ae] at g5
  refine⟨_,cap,by rw[hret]; simp[XK],g5,g6,hb.below,.inr ⟨b,rfl,g1,g2,iD g7 fun k c hc=>?_⟩⟩
  obtain⟨y,hy1,hy2⟩:=g9 k c hc
  have hm:=bF hc
  obtain⟨r,hr,hcr⟩:=aba.1 hm
  obtain⟨v,_,rfl⟩:=kN.1 hr
  have hcr:c∈ [Cl.v (.int .i64 v.ty),Cl.v (.int .i64 v.n),Cl.v (.string v.s)]:=hcr
  simp only[dh,List.not_mem_nil,or_false] at hcr
  rcases hcr with rfl | rfl | rfl<;>simp only[RdO] at hy2<;>exact⟨_,hy1,by rw[hy2.1]⟩
theorem wR:∀ args w,(callFunc 459 args).run prog w = .ok (.enter 459 args) w:=call459
theorem jd (a:Option Addr) (cap:Nat) (w:World):Calls prog 460 #[.slice a 0 cap] w fun e w'=>e = .returned (.slice a 0 cap)∧w'=w:=by
 go_enter func460,ntmps460
 go_wp2
 go_ret
 exact AMi
def ABO (l:List DVal) (b:Nat) (w w':World):Prop:=∃ d n os,Go.Sort.PermIn 0 l.length l.toArray d∧(∀ i j,i<j→j<d.size→FV d[j]! d[i]! = false)∧w'=sortWorldK EJ 3 w b 0 n d os
def AAB (l:List DVal) (b:Nat) (w w':World):Prop:=∃ q F,w'=Go.Sort.putRow id (Go.Sort.ahead w q) b 0 F∧F.size=l.length*3∧∀ j,j<(DN l).length→∀ c,c<3→F[j*3+c]! = (EJ (DN l)[j]!)[c]!
theorem wS {l:List DVal} {b cap:Nat} {w1 w2:World} (hH:Go.Sort.HoldsK EJ 3 w1 b 0 l.toArray) (hb:b<w1.heap.size) (hl:l.length≤1048576) (hc:l.length≤cap) (h:ABO l b w1 w2) :
  Calls prog 460 #[.slice (some ⟨b,0,none⟩) l.length cap] w2 fun e w3=>e = .returned (.slice (some ⟨b,0,none⟩) (DN l).length cap)∧AAB l b w2 w3:=by
 obtain⟨d,n,os,hp,hs,rfl⟩:=h
 have hd:d.size=l.length:=by simpa using hp.1
 have hH2:=Go.Proofs.holdsK_sortWorldK_c EJ 3 w1 b 0 l.toArray d n os hH hb (by simpa using hd)
 have hk:=pW b 0 cap d _ hH2 AOh AOh
 rw[AGF hp hs,hd] at hk
 exact hk.mono fun e w3 ⟨h1,q,F,h2,h3,h4⟩=>⟨h1,q,F,h2,h3,h4⟩
theorem wU (b cap:Nat) (l:List DVal) (w:World) (hH:Go.Sort.HoldsK EJ 3 w b 0 l.toArray) (hb:b<w.heap.size) (hl:l.length≤1048576) :
  Calls prog 458 #[.slice (some ⟨b,0,none⟩) l.length cap,.func (.func 459) #[] #[]] w fun e w'=>e = .returned (.tuple #[])∧ABO l b w w':=by
 have h:=AnyQ.slices_SortFunc ABT 3 isAgg64 sizeOf64 EJ (fun _=>rfl) (fun x v hv=>by
  simp only[EJ,dh,List.not_mem_nil,or_false] at hv
  rcases hv with rfl | rfl | rfl<;>rfl) AAG ALV 459 #[] b 0 cap l.toArray w wR (AGG b 0 _ w) hH hb (by show l.length<_; omega)
 refine Calls.mono h ?_
 rintro e w' ⟨rfl,d,n,os,hp,hs,rfl⟩
 refine⟨rfl,d,n,os,hp,fun i j hij hj=>?_,rfl⟩
 have:=hs i j (az _) hij (by rw[← hp.1]; exact hj)
 rwa [WF] at this
theorem ACd {w:World} {b:Nat} {St:Nat→Nat→Prop} (l:List DVal) (F:Array Value) (hF:l.length*3≤F.size) (hSt:∀ o,o<l.length*3→St b o) (hc:∀ n,n<F.size→w.cell? ⟨b,n,none⟩=some F[n]!) (hv:∀ j,j<l.length→∀ c,c<3→F[j*3+c]! = (EJ l[j]!)[c]!) (hw:∀ v∈l,XH v.c):RdE w St (l.map DVal.c) b 0:=by
 refine ADp 3 (fun x hx=>by obtain⟨v,_,rfl⟩:=kN.1 hx; rfl) fun i x hx=>?_
 have hi:i<l.length:=by
  have:=(aF.1 hx).1
  simpa using this
 have hx':x=l[i].c:=by
  rw[qp,au hi] at hx
  exact(uV hx).symm
 subst hx'
 refine AC7 fun j c hj=>?_
 have hj3:j<3:=(aF.1 hj).1
 refine⟨hSt _ AOh,(EJ l[i])[j]!, ?_, ?_⟩
 ·rw[hc _ AOh,uX,hv i hi j hj3,getElem!_pos l i hi]
 ·have hwl:XH [Cl.v (.int .i64 l[i].ty),Cl.v (.int .i64 l[i].n),Cl.v (.string l[i].s)]:=hw _ (ax hi)
  simp only[XH,uj,abG] at hwl
  rcases(show j=0∨j=1∨j=2 from AOh) with rfl | rfl | rfl<;>cases hj<;>simp only[RdD]<;>refine⟨rfl, ?_⟩
  ·exact hwl.1
  ·exact hwl.2.1
  ·exact hwl.2.2
theorem wV {w w':World} {St St':Nat→Nat→Prop} {x:AV} {u:Value} (hb:Below w.heap.size w w') (h1:∀ b o,St b o→St' b o) (h2:∀ b o,St' b o→b<w.heap.size→St b o) (h3:∀ b o,St' b o→b<w'.heap.size) (hr:RdA w' St' x u):Back w St [.val x] (.returned u) w' [u] [none] St' where
 ret:=rfl
 below:=hb
 st:=h1
 stOld:=h2
 stIn:=h3
 res:=⟨[fun _ _=>False],⟨u,[],none,[],_,[],rfl,rfl,rfl,⟨hr,rfl⟩,rfl,rfl,rfl⟩,{
  nodup:=fun i j b hi=>by
   cases i with
   | zero=>simp at hi
   | succ i=>simp at hi
  fresh:=fun i Φ k x hi hx=>by
   cases i with
   | zero=>simp at hi; subst hi; exact hx.elim
   | succ i=>simp at hi
  dis:=fun i i' Φ Φ' k k' x hi _ hx=>by
   cases i with
   | zero=>simp at hi; subst hi; exact hx.elim
   | succ i=>simp at hi }⟩
theorem below_putRow (w:World) {b B:Nat} (q:Nat) (F:Array Value) (hB:B≤b):Below B w (Go.Sort.putRow id (Go.Sort.ahead w q) b 0 F):=
 ⟨rfl,rfl,rfl,by rw[Go.Sort.size_putRow]; exact aT _,fun k hk=>by
  show (w.heap.modify b _)[k]?=_
  rw[Array.getElem?_modify,aZ AOh]⟩
theorem below_grow (w:World) {B:Nat} (os:Array Obj) (hB:B≤w.heap.size):Below B w (Go.Sort.grow w os):=
 ⟨rfl,rfl,rfl,by rw[Go.Sort.size_grow]; omega,fun k hk=>by
  show (w.heap++os)[k]?=_
  rw[aaC AOh]⟩
theorem AAC (l:List DVal) (hl:l.length≤1048576):Ctr prog 435 [.c (.sl (l.map DVal.c))] [.val (.c (.sl ((DN l).map DVal.c)))]:=by
 refine⟨call435,fun w St vs hSt hrd=>?_⟩
 obtain⟨u,vs',rfl,hu,hvs⟩:=hrd
 obtain rfl:vs' = []:=hvs
 have hcl:=jc l hl w St u hSt hu
 have hwf:∀ v∈l,XH v.c:=fun v hv=>by
  have h:=hu.wf
  simp only[WfA,uj] at h
  exact ZG h.2 _ (kN.2 ⟨v,hv,rfl⟩)
 clear hu
 by_cases hl0:l = []
 ·subst hl0
  clear hwf
  go_enter func435,ntmps435
  go_wp2_with (first | (go_at_call 235; refine hcl.mono ?_; rintro e w1 ⟨a,cap,rfl,q1,q2,q3,q4⟩) | (go_at_call 458; refine(AnyF.slices_SortFunc_none ABT a cap _ _).mono ?_; rintro e w2 ⟨rfl,rfl⟩) | (go_at_call 460; refine(jd a cap _).mono ?_; rintro e w3 ⟨rfl,rfl⟩))
  go_ret
  refine⟨[.slice a 0 cap],[none],St,wV q3 (fun _ _ h=>h) (fun _ _ h _=>h) (fun b o h=>bP (hSt b o h) q3.size) ?_⟩
  show RdD _ _ (.sl []) _
  simp only[RdD]
  exact⟨a,cap,rfl,az _,q2,⟨0,fun x hx=>by cases hx⟩,AOi⟩
 ·have HF:Go.RowKit.Hid (∀ v∈l,XH v.c):=hwf
  clear hwf
  have hcl2:Calls prog 235 #[u] w fun e w1=>∃ b cap,e = .returned (.slice (some ⟨b,0,none⟩) l.length cap)∧Go.RowKit.Hid (l.length≤cap∧cap≤maxLen∧Below w.heap.size w w1∧w.heap.size≤b∧b<w1.heap.size∧Go.Sort.HoldsK EJ 3 w1 b 0 l.toArray):=hcl.mono fun e w1 ⟨a,cap,q0,q1,q2,q3,q4⟩=>by
   rcases q4 with q4 | ⟨b,rfl,q5,q6,q7⟩
   ·exact absurd q4 hl0
   ·exact⟨b,cap,q0,q1,q2,q3,q5,q6,q7⟩
  clear hcl
  go_enter func435,ntmps435
  go_wp2_with (first | (go_at_call 235; refine hcl2.mono ?_; rintro e w1 ⟨b,cap,rfl,HQ⟩) | (go_at_call 458; refine(wU b cap l w1 HQ.out.2.2.2.2.2 HQ.out.2.2.2.2.1 hl).mono ?_; rintro e w2 ⟨rfl,HS⟩) | (go_at_call 460; refine(wS HQ.out.2.2.2.2.2 HQ.out.2.2.2.2.1 hl HQ.out.1 HS).mono ?_; rintro e w3 ⟨rfl,HC⟩))
  go_ret
  obtain⟨q1,q2,q3,q4,q5,q6⟩:=HQ.out
  obtain⟨d,n,os,hp,hs,rfl⟩:=HS
  obtain⟨q,F,rfl,hF,hv⟩:=HC
  have hd:d.size=l.length:=by simpa using hp.1
  have hH2:=Go.Proofs.holdsK_sortWorldK_c EJ 3 w1 b 0 l.toArray d n os q6 q5 (by simpa using hd)
  have hsz2:=Go.Proofs.size_sortWorldK_c EJ 3 w1 b 0 n d os
  have hdl:=PR l
  have hB1:Below w.heap.size w1 (sortWorldK EJ 3 w1 b 0 n d os):=by
   unfold sortWorldK
   have h1:=below_putRow w1 (B:=w.heap.size) n (Go.Sort.flatK EJ 3 d) q4
   exact h1.trans (below_grow _ os (by show w.heap.size≤(Go.Sort.putRow id (Go.Sort.ahead w1 n) b 0 (Go.Sort.flatK EJ 3 d)).heap.size; rw[Go.Sort.size_putRow]; exact q3.size))
  have hB2:=below_putRow (sortWorldK EJ 3 w1 b 0 n d os) (B:=w.heap.size) q F q4
  have hB:=(q3.trans hB1).trans hB2
  have hsz3:(Go.Sort.putRow id (Go.Sort.ahead (sortWorldK EJ 3 w1 b 0 n d os) q) b 0 F).heap.size=(sortWorldK EJ 3 w1 b 0 n d os).heap.size:=by rw[Go.Sort.size_putRow]; rfl
  refine⟨[.slice (some ⟨b,0,none⟩) (DN l).length cap],[none],fun b' o=>St b' o∨(b'=b∧o<(DN l).length*3),wV hB (fun _ _ h=>.inl h) (fun b' o h hlt=>?_) (fun b' o h=>?_) ?_⟩
  ·rcases h with h | ⟨rfl,_⟩
   ·exact h
   ·omega
  ·rcases h with h | ⟨rfl,_⟩
   ·exact bP (hSt b' o h) hB.size
   ·rw[hsz3]; omega
  ·show RdD _ _ (.sl ((DN l).map DVal.c)) _
   simp only[RdD,ae]
   refine⟨_,cap,rfl,AOh,q2,⟨3,fun x hx=>by obtain⟨v,_,rfl⟩:=kN.1 hx; rfl⟩,.inr ⟨b,0,rfl, ?_⟩⟩
   refine ACd (DN l) F AOh (fun o ho=>.inr ⟨rfl,ho⟩) (fun m hm=>wQ hH2 (by simp[hF,hd]) (by simpa [hd,hF] using hm)) hv fun v hv=>HF.out v ((Lr l v).1 hv)
end Go.Proofs.YtnoldekcdlaahaaGreat
