/- A part. -/
import Derived.Test.YtnoldekcdlaahaaGreatPYg
set_option linter.unusedSimpArgs false
set_option linter.unusedVariables false
set_option maxHeartbeats 2000000
set_option maxRecDepth 10000
namespace Go.Vm
theorem Head.frz {s:MS} (ls:List Nat) {st':List Ob} (h:Xq s.st ls=some st'):Head s ⟨s.n,s.env,st'⟩:=⟨rfl,fun w0 St0 St β a w hc=>by
 obtain⟨St',h'⟩:=Zy ls s.st st' St hc h
 exact⟨St',β,h'⟩⟩
end Go.Vm
open Go.Proofs.Tryz
namespace Go.Proofs.YtnoldekcdlaahaaGreat
open Go.Vm
theorem drop_cons {α:Type} {l:List α} {i:Nat} (h:i<l.length):l.drop i=l[i]::l.drop (i+1):=aG h
theorem MW (v x:DVal) (r:List DVal) (i:Nat):placeOf v (x::r) i=if ND x v=true then some (i:Int) else placeOf v r (i+1):=rfl
theorem UO {v:DVal}:∀ {d:List DVal} {k:Nat} {i:Int},placeOf v d k=some i→(k:Int)≤i
 | [],_,_,h=>APh
 | x::r,k,i,h=>by
  rw[MW] at h
  split at h
  ·simp only[ak] at h; omega
  ·have:=UO h; omega
theorem AEB (a b:DVal):ND a b=ND b a:=by
 rw[abz,LD,LD]; exact eq_comm
theorem oZ (d:List DVal) (v:DVal) (hl:d.length≤1048576):Ctr prog 456 [.c (.sl (d.map DVal.c)),.agg v.c] [.val (.c (.v (.int .i64 ((placeOf v d 0).getD (-1)))))]:=by
 refine CM call456 func456 ntmps456 results456 fun hw=>?_
 simp only[go_sem]
 refine ABK 1 (A:=Nat) (fun x=>[(5,.c (.v (.int .i64 (x))))]) (fun _=>[⟨64,3,[v.c],true,true⟩]) (fun x=>x≤d.length∧placeOf v (d.drop x) x=placeOf v d 0) (fun x=>d.length-x) 0 ⟨⟨rfl,rfl⟩,rfl,aA _,rfl⟩ ?_
 rintro i ⟨hi,hp⟩
 refine AOJ (fun h=>?_) fun h=>?_
 ·have hi':i<d.length:=by simp at h; omega
  have e1:(d[i].ty==v.ty&&(d[i].n==v.n&&d[i].s.toList==v.s.toList))=ND d[i] v:=rfl
  rw[drop_cons hi',MW] at hp
  simp only[go_sem,AA _ hi']
  refine AAm ?_
  simp only[go_sem,AA _ hi',ES,IL,e1]
  exact ALO
 ·exact AM3
theorem index_spec (d:List DVal) (v:DVal) (hl:d.length≤1048576):Ctr prog 472 [.c (.sl (d.map DVal.c)),.agg v.c] [.val (.c (.v (.int .i64 ((placeOf v d 0).getD (-1)))))]:=by
 refine CM call472 func472 ntmps472 results472 fun hw=>?_
 simp only[go_sem]
 refine ABK 1 (A:=Nat) (fun x=>[(8,.c (.v (.int .i64 (x))))]) (fun _=>[⟨64,3,[v.c],true,true⟩]) (fun x=>x≤d.length∧placeOf v (d.drop x) x=placeOf v d 0) (fun x=>d.length-x) 0 ⟨⟨rfl,rfl⟩,rfl,aA _,rfl⟩ ?_
 rintro i ⟨hi,hp⟩
 refine AOJ (fun h=>?_) fun h=>?_
 ·have hi':i<d.length:=by simp at h; omega
  have e1:(v.ty==d[i].ty&&(v.n==d[i].n&&v.s.toList==d[i].s.toList))=ND v d[i]:=rfl
  rw[drop_cons hi',MW] at hp
  simp only[go_sem,AA _ hi']
  refine AAm ?_
  simp only[go_sem,AA _ hi',ES,IL,e1,AEB v d[i]]
  exact ALO
 ·exact AM3
theorem og (d:List DVal) (v:DVal) (hl:d.length≤1048576):Ctr prog 461 [.c (.sl (d.map DVal.c)),.agg v.c] [.val (.c (.v (.int .i64 ((placeOf v d 0).getD (-1)))))]:=by
 refine CM call461 func461 ntmps461 results461 fun hw=>?_
 simp only[go_sem]
 refine AAM _ (index_spec d v hl) fun _=>?_
 exact AI5
theorem places_cons (d:List DVal) (v:DVal) (l:List DVal):places d (v::l)=match placeOf v d 0,places d l with
  | some i,some r=>some (i::r)
  | _,_=>none:=rfl
theorem oh (d l:List DVal) (hl:l.length≤1048576) (hd:d.length≤1048576):Ctr prog 436 [.c (.sl (d.map DVal.c)),.c (.sl (l.map DVal.c))] (Y0 (places d l)):=by
 refine CM call436 func436 ntmps436 results436 fun hw=>?_
 simp only[go_sem]
 refine ABZ [10] (A:=Nat×List Int) (fun x=>[(13,.c (.v (.int .i64 (x.1)))),(6,.c (.ref 0))]) (fun x=>[⟨3,1,x.2.map intC,true,true⟩]) (fun x=>x.1≤l.length∧x.2.length=x.1∧(places d (l.drop x.1)).map (fun y=>x.2++y)=places d l) (fun x=>l.length-x.1) (0,[]) (ABJ [(0,false)] ⟨rfl,rfl,rfl,trivial⟩ rfl) ⟨aA _,rfl,AOR⟩ ?_
 rintro⟨i,out⟩ ⟨hi,hll,hp⟩
 dsimp only at hi hll hp
 refine AOJ (fun h=>?_) fun h=>?_
 ·have hi':i<l.length:=by simp at h; omega
  have hl2:out.length+1≤2147483648:=AOQ
  rw[drop_cons hi',places_cons] at hp
  simp only[go_sem,AA _ hi']
  refine AAM _ (og d l[i] hd) fun _=>?_
  rcases h2:placeOf l[i] d 0 with _ | p
  ·rw[h2] at hp
   simp only[WB] at hp
   have h3:decide ((-1:Int)<0)=true:=AOU
   rw[← hp]
   simp only[go_sem,h2,wF,h3,Y0]
  ·rw[h2] at hp
   have h3:decide (p<0)=false:=by have:=UO h2; simp; omega
   simp only[go_sem,h2,h3,hl2,wrap_i64 (n:=(i:Int)+1) AOQ AOQ]
   exact⟨(i+1,out ++ [p]),ABJ [(3,false)] ⟨rfl,rfl,by rw[← GY]; exact CX _,trivial⟩ (by rw[GY]; rfl),⟨hi',AOS,by
    rw[← hp]
    cases places d (l.drop (i+1))<;>simp⟩,AOV⟩
 ·have hi':i=l.length:=by simp at h; omega
  subst hi'
  rw[aY] at hp
  simp only[places,bY,bQ] at hp
  rw[← hp]
  simp only[go_sem,Y0]
  try exact AII
theorem oq (d l:List DVal) (hl:l.length≤1048576) (hd:d.length≤1048576):Ctr prog 428 [.c (.sl (d.map DVal.c)),.c (.sl (l.map DVal.c))] (Y0 (places d l)):=by
 refine CM call428 func428 ntmps428 results428 fun hw=>?_
 simp only[go_sem]
 refine ABZ [9] (A:=Nat×List Int) (fun x=>[(7,.c (.v (.int .i64 (x.1)))),(6,.c (.ref 0))]) (fun x=>[⟨3,1,x.2.map intC,true,true⟩]) (fun x=>x.1≤l.length∧x.2.length=x.1∧(places d (l.drop x.1)).map (fun y=>x.2++y)=places d l) (fun x=>l.length-x.1) (0,[]) (ABJ [(0,false)] ⟨rfl,rfl,rfl,trivial⟩ rfl) ⟨aA _,rfl,AOR⟩ ?_
 rintro⟨i,out⟩ ⟨hi,hll,hp⟩
 dsimp only at hi hll hp
 refine AOJ (fun h=>?_) fun h=>?_
 ·have hi':i<l.length:=by simp at h; omega
  have hl2:out.length+1≤2147483648:=AOQ
  rw[drop_cons hi',places_cons] at hp
  simp only[go_sem,AA _ hi']
  refine AAM _ (oZ d l[i] hd) fun _=>?_
  rcases h2:placeOf l[i] d 0 with _ | p
  ·rw[h2] at hp
   simp only[WB] at hp
   have h3:decide ((-1:Int)<0)=true:=AOU
   rw[← hp]
   simp only[go_sem,h2,wF,h3,Y0]
   try simp[BJ]
  ·rw[h2] at hp
   have h3:decide (p<0)=false:=by have:=UO h2; simp; omega
   simp only[go_sem,h2,h3,hl2,wrap_i64 (n:=(i:Int)+1) AOQ AOQ]
   exact⟨(i+1,out ++ [p]),ABJ [(2,false)] ⟨rfl,rfl,by rw[← GY]; exact CX _,trivial⟩ (by rw[GY]; rfl),⟨hi',AOS,by
    rw[← hp]
    cases places d (l.drop (i+1))<;>simp⟩,AOV⟩
 ·have hi':i=l.length:=by simp at h; omega
  subst hi'
  rw[aY] at hp
  simp only[places,bY,bQ] at hp
  rw[← hp]
  simp only[go_sem,Y0]
  try exact AII
theorem X8 (d:List DVal) (i:Int) (l:List Int):picked d (i::l)=if 0≤i then match d[i.toNat]?,picked d l with
   | some v,some r=>some (v::r)
   | _,_=>none
  else none:=rfl
theorem UQ {d:List DVal} {i:Int} (l:List Int) (h:¬ (0≤i∧i<d.length)):picked d (i::l)=none:=by
 rw[X8]
 split
 ·have:d[i.toNat]?=none:=by rw[abq]; omega
  rw[this]
 ·rfl
theorem kK {d:List DVal} {i:Nat} (l:List Int) (h:i<d.length):picked d ((i:Int)::l)=(picked d l).map (fun r=>d[i]::r):=by
 rw[X8,bF AOQ,bW,au h]
 cases picked d l<;>rfl
theorem ou (d:List DVal) (l:List Int) (hl:l.length≤1048576) (hd:d.length≤1048576):Ctr prog 423 [.c (.sl (d.map DVal.c)),.c (.sl (l.map intC))] (Dv (picked d l)):=by
 refine CM call423 func423 ntmps423 results423 fun hw=>?_
 simp only[go_sem]
 refine ABZ [9] (A:=Nat×List DVal) (fun x=>[(12,.c (.v (.int .i64 (x.1)))),(6,.c (.ref 0))]) (fun x=>[⟨64,3,x.2.map DVal.c,true,true⟩]) (fun x=>x.1≤l.length∧x.2.length=x.1∧(picked d (l.drop x.1)).map (fun y=>x.2++y)=picked d l) (fun x=>l.length-x.1) (0,[]) (ABJ [(0,false)] ⟨rfl,rfl,rfl,trivial⟩ rfl) ⟨aA _,rfl,AOR⟩ ?_
 rintro⟨i,out⟩ ⟨hi,hll,hp⟩
 dsimp only at hi hll hp
 refine AOJ (fun h=>?_) fun h=>?_
 ·have hi':i<l.length:=by simp at h; omega
  have hl2:out.length+1≤2147483648:=AOQ
  rw[drop_cons hi'] at hp
  simp only[go_sem,AA _ hi']
  rcases h2:decide (l[i]<0) with _ | _
  ·have h2':0≤l[i]:=by simpa using h2
   rcases h3:decide (l[i]≥(d.length:Int)) with _ | _
   ·have h3':l[i]<d.length:=by simpa using h3
    obtain⟨p,hpe⟩:=aQ h2'
    have hp':p<d.length:=AOQ
    rw[hpe,kK _ hp'] at hp
    rw[hpe] at h2 h3
    simp only[go_sem,hpe,h2,h3,hl2,AA _ hp',wrap_i64 (n:=(i:Int)+1) AOQ AOQ]
    exact ALt
   ·rw[UQ _ APC] at hp
    rw[← hp]
    simp only[go_sem,h2,h3,WB,Dv]
  ·rw[UQ _ AOh] at hp
   rw[← hp]
   simp only[go_sem,h2,WB,Dv]
 ·have hi':i=l.length:=by simp at h; omega
  subst hi'
  rw[aY] at hp
  simp only[picked,bY,bQ] at hp
  rw[← hp]
  simp only[go_sem,Dv]
  try exact AII
theorem Vo (d:List DVal) (l:List Int) (hl:l.length≤1048576) (hd:d.length≤1048576):Ctr prog 416 [.c (.sl (d.map DVal.c)),.c (.sl (l.map intC))] (Dv (picked d l)):=by
 refine CM call416 func416 ntmps416 results416 fun hw=>?_
 simp only[go_sem]
 refine ABZ [8] (A:=Nat×List DVal) (fun x=>[(7,.c (.v (.int .i64 (x.1)))),(6,.c (.ref 0))]) (fun x=>[⟨64,3,x.2.map DVal.c,true,true⟩]) (fun x=>x.1≤l.length∧x.2.length=x.1∧(picked d (l.drop x.1)).map (fun y=>x.2++y)=picked d l) (fun x=>l.length-x.1) (0,[]) (ABJ [(0,false)] ⟨rfl,rfl,rfl,trivial⟩ rfl) ⟨aA _,rfl,AOR⟩ ?_
 rintro⟨i,out⟩ ⟨hi,hll,hp⟩
 dsimp only at hi hll hp
 refine AOJ (fun h=>?_) fun h=>?_
 ·have hi':i<l.length:=by simp at h; omega
  have hl2:out.length+1≤2147483648:=AOQ
  rw[drop_cons hi'] at hp
  simp only[go_sem,AA _ hi',wrap_i64 (n:=(d.length:Int)-1) AOQ AOQ]
  refine AAM _ (AO _ _ _) fun _=>?_
  rcases h2:Ad l[i] 0 ((d.length:Int)-1) with _ | _
  ·rw[UQ _ AOa] at hp
   rw[← hp]
   simp only[go_sem,h2,WB,Dv]
   try simp[BJ]
  ·have h2':0≤l[i]∧l[i]<d.length:=by simp[Ad] at h2; omega
   obtain⟨p,hpe⟩:=aQ h2'.1
   have hp':p<d.length:=AOQ
   rw[hpe,kK _ hp'] at hp
   rw[hpe] at h2
   simp only[go_sem,AA _ hi',hpe,h2,hl2,AA _ hp',wrap_i64 (n:=(i:Int)+1) AOQ AOQ]
   exact ALt
 ·have hi':i=l.length:=by simp at h; omega
  subst hi'
  rw[aY] at hp
  simp only[picked,bY,bQ] at hp
  rw[← hp]
  simp only[go_sem,Dv]
  try exact AII
end Go.Proofs.YtnoldekcdlaahaaGreat
