/- A part. -/
import Derived.Test.YtnfbaclikokapaaGreatZc
import Derived.Test.YtnfbaclikokapaaGreatDa
import Derived.Test.YtnfbaclikokapaaGreatIa
set_option linter.unusedSimpArgs false
set_option linter.unusedVariables false
set_option maxHeartbeats 4000000
set_option maxRecDepth 10000
open Go.Proofs.Tryz
namespace Go.Proofs.YtnfbaclikokapaaGreat
open Go.Vm
def XK (t:DTask):List Cl:=[.v (.int .i64 t.op),.v (.int .i64 t.pc),.v (.int .i64 t.h),.sl (t.r.map DVal.c),.v (.int .i64 t.id),.v (.int .i64 t.q.kind),.v (.int .i64 t.q.p.kind),.v (.int .i64 t.q.p.col),.v (.int .i64 t.q.p.op),.v (.int .i64 t.q.p.v.ty),.v (.int .i64 t.q.p.v.n),.v (.string t.q.p.v.s),.sl (t.q.p.l.map DPred.c),.v (.int .i64 t.q.col),.sl (t.q.out.map intC),.v (.int .i64 t.ts),.v (.int .i64 t.ver),.sl (t.l.map DRef.c),.v (.int .i64 t.i),.v (.int .i64 t.j),.v (.int .i64 t.s),.v (.int .i64 t.at0),.v (.int .i64 t.own),.v (.bool t.won),.sl (t.got.map DRow.c)]
@[go_sem] theorem AEz (t:DTask):XK t = [.v (.int .i64 t.op),.v (.int .i64 t.pc),.v (.int .i64 t.h),.sl (t.r.map DVal.c),.v (.int .i64 t.id),.v (.int .i64 t.q.kind),.v (.int .i64 t.q.p.kind),.v (.int .i64 t.q.p.col),.v (.int .i64 t.q.p.op),.v (.int .i64 t.q.p.v.ty),.v (.int .i64 t.q.p.v.n),.v (.string t.q.p.v.s),.sl (t.q.p.l.map DPred.c),.v (.int .i64 t.q.col),.sl (t.q.out.map intC),.v (.int .i64 t.ts),.v (.int .i64 t.ver),.sl (t.l.map DRef.c),.v (.int .i64 t.i),.v (.int .i64 t.j),.v (.int .i64 t.s),.v (.int .i64 t.at0),.v (.int .i64 t.own),.v (.bool t.won),.sl (t.got.map DRow.c)]:=rfl
def I8 (k op:Int):Bool:=if(op==0)=true then true else if(decide (k<3))=true then Ac op 1 3 else op==4
theorem Zn (k op:Int):Ctr prog 226 [.c (.v (.int .i64 (k))),.c (.v (.int .i64 (op)))] [.val (.c (.v (.bool (I8 k op))))]:=by
 refine CM call226 func226 ntmps226 results226 fun hw=>?_
 rcases h1:op==0 with _ | _
 ·rcases h2:decide (k<3) with _ | _
  ·simp only[go_sem,h1,h2,I8,aC,aT]
  ·simp only[go_sem,h1,h2,I8,aC,aT,bD]
   refine CallK.mk _ (AC op 1 3) fun _=>?_
   simp only[go_sem]
 ·simp only[go_sem,h1,I8,bD]
def numsL (t:DTask):List Int:=[t.h,t.id,t.ts,t.ver,t.i,t.j,t.s,t.at0,t.own]
def Bo (n:Int):Bool:=!decide (n<0)
def FB (r:DRef):Bool:=Dt r && !decide (r.first<0)
def o7 (t:DTask):Bool:=!((t.id != 0)&&((t.op != 1)&&(t.op != 2)))
def H8 (t:DTask) (k:Int):Bool:=Ac k 0 4&&(I8 k t.op&&(Ac t.pc 0 9&&(!decide ((t.l.length:Int)>8)&&((numsL t).all Bo&&(t.l.all FB&&(o7 t&&((t.op != 0)||Bf t)))))))
def wu (t:DTask) (k:Int):Bool:=if(t.op==0)=true then Bf t else if(t.op==1)=true then decide (k<3) else if(t.op==2)=true then decide (k<3) else if(t.op==3)=true then decide (k<3)&&(t.id==0) else(t.op==4)&&(decide (k≥3)&&(t.id==0))
theorem ABf (t:DTask) (k:Int):wu t k=(I8 k t.op&&(o7 t&&((t.op != 0)||Bf t))):=by
 have hb:Bf t=true→(t.id==0)=true:=by
  intro h
  simp only[Bf,ak] at h
  exact h.2.2.2.1
 unfold wu I8 o7
 rcases h0:t.op==0 with _ | _
 ·rcases h1:t.op==1 with _ | _
  ·rcases h2:t.op==2 with _ | _
   ·rcases h3:t.op==3 with _ | _
    ·have hr:Ac t.op 1 3=false:=by
      simp at h0 h1 h2 h3
      simp[Ac]; omega
     by_cases hk:k<3
     ·have hk2:decide (k≥3)=false:=by simp; omega
      simp[h0,h1,h2,hk,hk2,hr,bne]
     ·have hk2:decide (k≥3)=true:=by simp; omega
      simp[h0,h1,h2,hk,hk2,bne]
    ·have e3:t.op=3:=by simpa using h3
     by_cases hk:k<3<;>simp[e3,hk,Ac,bne]
   ·have e2:t.op=2:=by simpa using h2
    by_cases hk:k<3<;>simp[e2,hk,Ac,bne]
  ·have e1:t.op=1:=by simpa using h1
   by_cases hk:k<3<;>simp[e1,hk,Ac,bne]
 ·have e0:t.op=0:=by simpa using h0
  rcases hbl:Bf t with _ | _
  ·simp[e0,bne]
  ·have:=hb hbl
   simp[e0,bne,this]
theorem T_ (t:DTask) (k:Int) (hf:Ef t):Ctr prog 185 [.agg t.c,.c (.v (.int .i64 (k)))] [.val (.c (.v (.bool (H8 t k))))]:=by
 rw[Di] at hf
 refine CM call185 func185 ntmps185 results185 fun hw=>?_
 have hl:=hf.2.2.1
 simp only[go_sem]
 refine CallK.mk _ (AC k 0 4) fun _=>?_
 rcases h1:Ac k 0 4 with _ | _
 ·simp only[go_sem,h1,H8,ag]
 simp only[go_sem,h1]
 refine CallK.mk _ (Zn k t.op) fun _=>?_
 rcases h2:I8 k t.op with _ | _
 ·simp only[go_sem,h1,h2,H8,ag,ai]
 simp only[go_sem,h1,h2]
 refine CallK.mk _ (AC t.pc 0 9) fun _=>?_
 rcases h3:Ac t.pc 0 9 with _ | _
 ·simp only[go_sem,h1,h2,h3,H8,ag,ai]
 rcases h4:decide ((t.l.length:Int)>8) with _ | _
 rotate_left
 ·simp only[go_sem,h1,h2,h3,h4,H8,aQ,ag,ai]
 have ht:H8 t k=((numsL t).all Bo&&(t.l.all FB&&(o7 t&&((t.op != 0)||Bf t)))):=by
  simp only[H8,h1,h2,h3,h4,aO,ai]
 simp only[go_sem,h1,h2,h3,h4,aJ]
 refine LoopU.mk 2 (A:=Nat) (fun x=>[(51,.c (.v (.int .i64 (x))))]) (fun _=>[⟨142,25,[XK t],true,true⟩,⟨3,1,(numsL t).map intC,true,true⟩]) (FO (numsL t) Bo) (fun x=>(numsL t).length-x) 0 ⟨⟨rfl,rfl⟩,rfl,DW⟩ ?_
 intro m hm
 simp only[go_sem]
 refine cndC.mk (fun h=>?_) (fun h=>?_)
 ·have hk':m<(numsL t).length:=by simp[numsL] at h ⊢; omega
  have hwm:IntKind.i64.wrap ((m:Int)+1)=((m+1:Nat):Int):=by have:m<9:=hk'; rw[wrap_i64 (by omega) (by omega)]; rfl
  simp only[go_sem,AA _ hk',hk']
  refine cndC.mk (fun hn=>?_) (fun hn=>?_)
  ·have hn2:Bo (numsL t)[m]=false:=by unfold Bo; rw[hn]; rfl
   simp only[go_sem,ht,BF (p:=Bo) hk' hn2,ag]
  ·have hn2:Bo (numsL t)[m]=true:=by unfold Bo; rw[hn]; rfl
   simp only[go_sem,hwm]
   exact⟨m+1,⟨rfl,rfl⟩,rfl,Bc hk' hm hn2,by have:m<(numsL t).length:=hk'; omega⟩
 have hk':m=(numsL t).length:=by have:=hm.1; simp[numsL] at h this ⊢; omega
 subst hk'
 rw[ht,CP hm,ai]
 simp only[go_sem]
 refine LoopU.mk 2 (A:=Nat) (fun x=>[(61,.c (.v (.int .i64 (x))))]) (fun _=>[⟨142,25,[XK t],true,true⟩,⟨3,1,(numsL t).map intC,true,true⟩]) (FO t.l FB) (fun x=>t.l.length-x) 0 ⟨⟨rfl,rfl⟩,rfl,DW⟩ ?_
 intro j hj
 simp only[go_sem]
 refine cndC.mk (fun h=>?_) (fun h=>?_)
 ·have hk':j<t.l.length:=by simpa using h
  simp only[go_sem,AA _ hk',hk']
  try refine DrawK.mk ?_
  try simp only[go_sem,AA _ hk',hk']
  first | refine CY (QC t.l[j]) ?_ | refine CW (QC t.l[j]) fun _=>?_
  rcases h5:Dt t.l[j] with _ | _
  ·simp only[go_sem,h5,BF (p:=FB) hk' (by simp only[FB,h5,ag]),ag]
  rcases h6:decide (t.l[j].first<0) with _ | _
  ·simp only[go_sem,h5,h6,wrap_i64 (n:=(j:Int)+1) (by omega) (by omega)]
   exact⟨j+1,⟨rfl,rfl⟩,rfl,Bc hk' hj (by simp only[FB,h5,h6]; rfl),by omega⟩
  ·simp only[go_sem,h5,h6,BF (p:=FB) hk' (by simp only[FB,h5,h6]; rfl),ag]
 have hk':j=t.l.length:=by have:=hj.1; simp at h; omega
 subst hk'
 rw[CP hj,ai]
 unfold o7
 have fin:∀ b,b=true→b=true:=fun _ h=>h
 rcases k0:t.op != 0 with _ | _
 ·have e0:t.op=0:=by simpa using k0
  have e1:(t.op != 1)=true:=by simp[e0]
  have e2:(t.op != 2)=true:=by simp[e0]
  rcases k3:t.id != 0 with _ | _
  ·simp only[go_sem,k0,k3,e1,e2,ag,aO,ai,bQ]
   refine CW (qV t hf.2.1) fun _=>?_
   simp only[go_sem]
  ·simp only[go_sem,k0,k3,e1,e2,ai,aQ,ag]
 ·rcases k1:t.op != 1 with _ | _<;>rcases k2:t.op != 2 with _ | _<;>rcases k3:t.id != 0 with _ | _ <;>
   simp only[go_sem,k0,k1,k2,k3,ag,aH,aO,aQ,ai,cO]
theorem AC9 (t:DTask) (k:Int):H8 t k=(Ac k 0 4&&(Ac t.pc 0 9&&((numsL t).all Bo&&(!decide ((t.l.length:Int)>8)&&(t.l.all FB&&wu t k))))):=by
 rw[ABf]
 unfold H8
 rcases Ac k 0 4<;>rcases I8 k t.op<;>rcases Ac t.pc 0 9<;>rcases decide ((t.l.length:Int)>8)<;>rcases(numsL t).all Bo<;>rcases t.l.all FB<;>simp only[ag,ai,aH,aQ,aO]
theorem UA (t:DTask) (k:Int) (hf:Ef t):Ctr prog 165 [.agg t.c,.c (.v (.int .i64 (k)))] [.val (.c (.v (.bool (H8 t k))))]:=by
 rw[Di] at hf
 rw[AC9]
 refine CM call165 func165 ntmps165 results165 fun hw=>?_
 have hl:=hf.2.2.1
 simp only[go_sem,bi,aK,aI]
 refine CallK.mk _ (AL k 0 4) fun _=>?_
 rcases h1:Ac k 0 4 with _ | _
 ·simp only[go_sem,bi,aK,aI,h1,ag]
 simp only[go_sem,bi,aK,aI,h1]
 refine CallK.mk _ (AL t.pc 0 9) fun _=>?_
 rcases h3:Ac t.pc 0 9 with _ | _
 ·simp only[go_sem,bi,aK,aI,h1,h3,ag,ai]
 rcases n0:decide (t.h<0) with _ | _
 rotate_left
 ·have e:(numsL t).all Bo=false:=BF (k:=0) (show 0<9 by decide) (show Bo (t.h)=false by unfold Bo; rw[n0]; rfl)
  simp only[go_sem,bi,aK,aI,h1,h3,n0,e,ag,ai]
 rcases n1:decide (t.id<0) with _ | _
 rotate_left
 ·have e:(numsL t).all Bo=false:=BF (k:=1) (show 1<9 by decide) (show Bo (t.id)=false by unfold Bo; rw[n1]; rfl)
  simp only[go_sem,bi,aK,aI,h1,h3,n0,n1,e,ag,ai]
 rcases n2:decide (t.ts<0) with _ | _
 rotate_left
 ·have e:(numsL t).all Bo=false:=BF (k:=2) (show 2<9 by decide) (show Bo (t.ts)=false by unfold Bo; rw[n2]; rfl)
  simp only[go_sem,bi,aK,aI,h1,h3,n0,n1,n2,e,ag,ai]
 rcases n3:decide (t.ver<0) with _ | _
 rotate_left
 ·have e:(numsL t).all Bo=false:=BF (k:=3) (show 3<9 by decide) (show Bo (t.ver)=false by unfold Bo; rw[n3]; rfl)
  simp only[go_sem,bi,aK,aI,h1,h3,n0,n1,n2,n3,e,ag,ai]
 rcases n4:decide (t.i<0) with _ | _
 rotate_left
 ·have e:(numsL t).all Bo=false:=BF (k:=4) (show 4<9 by decide) (show Bo (t.i)=false by unfold Bo; rw[n4]; rfl)
  simp only[go_sem,bi,aK,aI,h1,h3,n0,n1,n2,n3,n4,e,ag,ai]
 rcases n5:decide (t.j<0) with _ | _
 rotate_left
 ·have e:(numsL t).all Bo=false:=BF (k:=5) (show 5<9 by decide) (show Bo (t.j)=false by unfold Bo; rw[n5]; rfl)
  simp only[go_sem,bi,aK,aI,h1,h3,n0,n1,n2,n3,n4,n5,e,ag,ai]
 rcases n6:decide (t.s<0) with _ | _
 rotate_left
 ·have e:(numsL t).all Bo=false:=BF (k:=6) (show 6<9 by decide) (show Bo (t.s)=false by unfold Bo; rw[n6]; rfl)
  simp only[go_sem,bi,aK,aI,h1,h3,n0,n1,n2,n3,n4,n5,n6,e,ag,ai]
 rcases n7:decide (t.at0<0) with _ | _
 rotate_left
 ·have e:(numsL t).all Bo=false:=BF (k:=7) (show 7<9 by decide) (show Bo (t.at0)=false by unfold Bo; rw[n7]; rfl)
  simp only[go_sem,bi,aK,aI,h1,h3,n0,n1,n2,n3,n4,n5,n6,n7,e,ag,ai]
 rcases n8:decide (t.own<0) with _ | _
 rotate_left
 ·have e:(numsL t).all Bo=false:=BF (k:=8) (show 8<9 by decide) (show Bo (t.own)=false by unfold Bo; rw[n8]; rfl)
  simp only[go_sem,bi,aK,aI,h1,h3,n0,n1,n2,n3,n4,n5,n6,n7,n8,e,ag,ai]
 have e9:(numsL t).all Bo=true:=by simp only[numsL,bK,dm,Bo,n0,n1,n2,n3,n4,n5,n6,n7,n8,aO,aS]
 rcases h4:decide ((t.l.length:Int)>8) with _ | _
 rotate_left
 ·simp only[go_sem,bi,aK,aI,h1,h3,n0,n1,n2,n3,n4,n5,n6,n7,n8,h4,aQ,ag,aH]
 simp only[go_sem,bi,aK,aI,h1,h3,n0,n1,n2,n3,n4,n5,n6,n7,n8,h4,e9,aO,ai]
 refine LoopU.mk 1 (A:=Nat) (fun x=>[(5,.c (.v (.int .i64 (x))))]) (fun _=>[⟨142,25,[XK t],true,true⟩]) (FO t.l FB) (fun x=>t.l.length-x) 0 ⟨⟨rfl,rfl⟩,rfl,DW⟩ ?_
 intro j hj
 simp only[go_sem]
 refine cndC.mk (fun h=>?_) (fun h=>?_)
 ·have hk':j<t.l.length:=by simpa using h
  simp only[go_sem,AA _ hk',hk']
  try refine DrawK.mk ?_
  try simp only[go_sem,AA _ hk',hk']
  first | refine CY (QD t.l[j]) ?_ | refine CW (QD t.l[j]) fun _=>?_
  rcases h5:Dt t.l[j] with _ | _
  ·simp only[go_sem,AA _ hk',hk',h5,BF (p:=FB) hk' (by simp only[FB,h5,ag]),ag]
  rcases h6:decide (t.l[j].first<0) with _ | _
  ·simp only[go_sem,AA _ hk',hk',h5,h6,wrap_i64 (n:=(j:Int)+1) (by omega) (by omega)]
   exact⟨j+1,⟨rfl,rfl⟩,rfl,Bc hk' hj (by simp only[FB,h5,h6]; rfl),by omega⟩
  ·simp only[go_sem,AA _ hk',hk',h5,h6,BF (p:=FB) hk' (by simp only[FB,h5,h6]; rfl),ag]
 have hk':j=t.l.length:=by have:=hj.1; simp at h; omega
 subst hk'
 rw[CP hj,ai]
 unfold wu
 rcases k0:t.op==0 with _ | _
 rotate_left
 ·simp only[go_sem,k0,bD]
  refine CW (qW t hf.2.1) fun _=>?_
  simp only[go_sem]
 rcases k1:t.op==1 with _ | _
 rotate_left
 ·simp only[go_sem,k0,k1,aC,aT,bD]
 rcases k2:t.op==2 with _ | _
 rotate_left
 ·simp only[go_sem,k0,k1,k2,aC,aT,bD]
 rcases k3:t.op==3 with _ | _
 rotate_left
 ·rcases k4:decide (k<3) with _ | _<;>simp only[go_sem,k0,k1,k2,k3,k4,aC,aT,bD,ag,ai]
 rcases k5:t.op==4 with _ | _
 ·simp only[go_sem,k0,k1,k2,k3,k5,aC,aT,ag]
 rcases k6:decide (k≥3) with _ | _<;>simp only[go_sem,k0,k1,k2,k3,k5,k6,aC,aT,ag,ai]
def isByte (c:Int):Prop:=0≤c∧c<256
def AY (b:List Int):Prop:=∀ c∈b,isByte c
theorem Rz {b:List Int} (h:AY b) {k:Nat} {c:Int} (hk:b[k]?=some c):isByte c:=h c (aY hk)
def zig (n:Int):Int:=if n<0 then -2*n-1 else 2*n
def zag (x:Int):Int:=if x%2=1 then -((x+1)/2) else x/2
theorem AC_ {x:Int} (h:0≤x):zig (zag x)=x:=by
 unfold zig zag
 split
 ·rw[bz (by omega)]; omega
 ·rw[aV (by omega)]; omega
theorem ADA {x:Int} (h:0≤x) (h2:x≤2000000000) : -1000000000≤zag x∧zag x≤1000000000:=by
 unfold zag
 split<;>constructor<;>omega
def YR:Nat→Int→List Int
 | 0,x=>[x]
 | f+1,x=>if x≥128 then(x%128+128)::YR f (x/128) else [x]
def EM (n:Int):List Int:=YR 4 (zig n)
def I9 (b:List Int) (p:Nat):Nat→Int→Nat→Option (Int×Nat)
 | 0,_,_=>none
 | f+1,x,i=>match b[p+i]? with
  | none=>none
  | some c=>if c≥128 then I9 b p f (x+(c%128)*128 ^ i) (i+1) else
   if(0<i∧c=0)∨x+(c%128)*128 ^ i>2000000000 then none else some (zag (x+(c%128)*128 ^ i),p+i+1)
def BN (b:List Int) (p:Int):Option (Int×Nat):=if 0≤p then I9 b p.toNat 5 0 0 else none
theorem zJ {b:List Int} (hb:AY b) (p:Nat):∀ (f:Nat) (x:Int) (i:Nat) (n:Int) (q:Nat),0≤x→I9 b p (f+1) x i=some (n,q) →
  ∃ y:Int,0≤y∧(0<i→0<y)∧x+y*128 ^ i≤2000000000∧n=zag (x+y*128 ^ i)∧p+i<q∧q≤b.length∧(b.drop (p+i)).take (q-(p+i))=YR f y:=by
 intro f
 induction f with
 | zero =>
  intro x i n q hx h
  simp only[I9] at h
  cases hc:b[p+i]? with
  | none=>simp[hc] at h
  | some c =>
   simp only[hc] at h
   obtain⟨c0,c1⟩:=Rz hb hc
   split at h
   ·cases h
   ·rename_i hlt
    split at h
    ·cases h
    ·rename_i hno
     simp only[ah,bJ] at h
     obtain⟨rfl,rfl⟩:=h
     have hm:c%128=c:=by omega
     rw[hm] at hno ⊢
     have hl:=(az.1 hc).1
     refine⟨c,c0,fun hi=>?_,by omega,rfl,by omega,by omega, ?_⟩
     ·have:¬ (0<i∧c=0):=fun hh=>hno (.inl hh)
      omega
     ·rw[aG hl]
      have e1:p+i+1-(p+i)=1:=by omega
      have e2:b[p+i]=c:=(az.1 hc).2
      rw[e1,e2]; simp[YR]
 | succ f ih =>
  intro x i n q hx h
  rw[I9] at h
  cases hc:b[p+i]? with
  | none=>simp[hc] at h
  | some c =>
   simp only[hc] at h
   obtain⟨c0,c1⟩:=Rz hb hc
   have hl:=(az.1 hc).1
   have e2:b[p+i]=c:=(az.1 hc).2
   have hp:(0:Int)≤128 ^ i:=yX (by omega)
   split at h
   ·rename_i hge
    have hm0:0≤c%128*128 ^ i:=aaY (by omega) hp
    obtain⟨y,y0,y1,y2,y3,y4,y5,y6⟩:=ih _ (i+1) n q (by omega) h
    have y1:=y1 (by omega)
    have e3:x+c%128*128 ^ i+y*128 ^ (i+1)=x+(c%128+y*128)*128 ^ i:=by
     rw[wB,Int.add_mul,Int.mul_assoc y 128,Int.mul_comm 128 (128 ^ i)]; omega
    rw[e3] at y2 y3
    refine⟨c%128+y*128,by omega,fun _=>by omega,y2,y3,by omega,y5, ?_⟩
    rw[aG hl,e2]
    have e4:q-(p+i)=(q-(p+(i+1)))+1:=by omega
    rw[e4,abt]
    have e5:p+i+1=p+(i+1):=by omega
    rw[e5,y6,YR,bz (by omega)]
    congr 1
    ·omega
    ·congr 1; omega
   ·rename_i hlt
    split at h
    ·cases h
    ·rename_i hno
     simp only[ah,bJ] at h
     obtain⟨rfl,rfl⟩:=h
     have hm:c%128=c:=by omega
     rw[hm] at hno ⊢
     refine⟨c,c0,fun hi=>?_,by omega,rfl,by omega,by omega, ?_⟩
     ·have:¬ (0<i∧c=0):=fun hh=>hno (.inl hh)
      omega
     ·rw[aG hl,e2]
      have e1:p+i+1-(p+i)=1:=by omega
      rw[e1]
      simp[YR,show ¬ c≥128 by omega]
theorem Gm {b:List Int} (hb:AY b) {p n:Int} {q:Nat} (h:BN b p=some (n,q)) :
  0≤p∧p<q∧q≤b.length∧ -1000000000≤n∧n≤1000000000∧(b.drop p.toNat).take (q-p.toNat)=EM n:=by
 unfold BN at h
 split at h
 ·rename_i hp
  obtain⟨y,y0,_,y2,y3,y4,y5,y6⟩:=zJ hb p.toNat 4 0 0 n q (abA _) h
  simp only[Int.pow_zero,Int.mul_one,Int.zero_add] at y2 y3
  have:=ADA y0 y2
  refine⟨hp,by omega,y5,by omega,by omega, ?_⟩
  rw[EM,y3,AC_ y0]
  simpa using y6
 ·cases h
theorem Qh (b:List Int) {p q r:Nat} (h1:p≤q) (h2:q≤r):(b.drop p).take (r-p)=(b.drop p).take (q-p)++(b.drop q).take (r-q):=by
 have e1:r-p=(q-p)+(r-q):=by omega
 have e2:p+(q-p)=q:=by omega
 rw[e1,List.take_add,List.drop_drop,e2]
def o8 (s:ByteArray):List Int:=s.data.toList.map fun x=>(x.toNat:Int)
theorem ABg (s:ByteArray):(o8 s).length=s.size:=by simp only[o8,ae]; rfl
theorem ja {l:List Int} (h:AY l):o8 (strOfNums l)=l:=by
 unfold o8
 rw[strOfNums_data,List.map_map]
 conv=>rhs; rw[← List.map_id l]
 refine aaM fun c hc=>?_
 obtain⟨h1,h2⟩:=h c hc
 simp only[Function.comp,id_eq,UInt8.toNat_ofNat']
 omega
theorem Qi {b:List Int} (h:AY b) (p n:Nat):AY ((b.drop p).take n):=fun c hc=>h c (aaJ (yR hc))
def UB (v:DVal):List Int:=if v.ty=1 then EM v.n else(v.s.size:Int)::o8 v.s
noncomputable def Ec (b:List Int) (p ty:Int):Option (DVal×Nat):=
 if ty=1 then(BN b p).map fun x=>(⟨1,x.1,ByteArray.empty⟩,x.2) else
 if ty=2∧0≤p then match b[p.toNat]? with
  | none=>none
  | some k=>if p.toNat+1+k.toNat≤b.length then(if BD ⟨2,0,strOfNums ((b.drop (p.toNat+1)).take k.toNat)⟩=true then some (⟨2,0,strOfNums ((b.drop (p.toNat+1)).take k.toNat)⟩,p.toNat+1+k.toNat) else none) else none
 else none
theorem eQ (n:Int) (h : -1000000000≤n∧n≤1000000000):BD ⟨1,n,ByteArray.empty⟩=true:=by
 simp only[BD,bD,DX,Ac]
 simp[h.1,h.2]
theorem zK {b:List Int} (hb:AY b) {p ty:Int} {v:DVal} {q:Nat} (h:Ec b p ty=some (v,q)) :
  0≤p∧p<q∧q≤b.length∧v.ty=ty∧(ty=1∨ty=2)∧BD v=true∧(b.drop p.toNat).take (q-p.toNat)=UB v:=by
 unfold Ec at h
 split at h
 ·rename_i hty
  cases hn:BN b p with
  | none=>simp[hn] at h
  | some x =>
   obtain⟨n,q'⟩:=x
   simp only[hn,bP,ah,bJ] at h
   obtain⟨rfl,rfl⟩:=h
   obtain⟨h1,h2,h3,h4,h5,h6⟩:=Gm hb hn
   exact⟨h1,h2,h3,hty.symm,.inl hty,eQ n ⟨h4,h5⟩,by simpa [UB] using h6⟩
 ·split at h
  ·rename_i hp
   cases hk:b[p.toNat]? with
   | none=>simp[hk] at h
   | some k =>
    simp only[hk] at h
    obtain⟨k0,k1⟩:=Rz hb hk
    split at h
    ·rename_i hlen
     split at h
     ·rename_i hv
      simp only[ah,bJ] at h
      obtain⟨rfl,rfl⟩:=h
      have hl:=(az.1 hk).1
      have e2:b[p.toNat]=k:=(az.1 hk).2
      refine⟨hp.2,by omega,hlen,hp.1.symm,.inr hp.1,hv, ?_⟩
      rw[aG hl,e2]
      have e1:p.toNat+1+k.toNat-p.toNat=k.toNat+1:=by omega
      rw[e1,abt]
      simp only[UB,show ¬ (2:Int)=1 by omega,aT,ja (Qi hb _ _),strOfNums_size]
      congr 1
      simp only[bC,yT]
      omega
     ·cases h
    ·cases h
  ·cases h
noncomputable def Ba (b:List Int) (ty:Int):Nat→Nat→Option (List DVal×Nat)
 | 0,p=>some ([],p)
 | k+1,p=>match Ec b p ty with
  | none=>none
  | some (v,q)=>(Ba b ty k q).map fun x=>(v::x.1,x.2)
def I_ (l:List DVal):List Int:=(l.map UB).flatten
theorem IY {b:List Int} (hb:AY b) {ty:Int}:∀ (k p:Nat) (l:List DVal) (q:Nat),p≤b.length→Ba b ty k p=some (l,q) →
  p≤q∧q≤b.length∧l.length=k∧(∀ v∈l,BD v=true∧v.ty=ty∧(ty=1∨ty=2))∧(b.drop p).take (q-p)=I_ l
 | 0,p,l,q,hp,h=>by
  simp only[Ba,ah,bJ] at h
  obtain⟨rfl,rfl⟩:=h
  exact⟨aN _,hp,rfl,by simp,by simp[I_]⟩
 | k+1,p,l,q,hp,h=>by
  rw[Ba] at h
  cases hv:Ec b p ty with
  | none=>simp[hv] at h
  | some x =>
   obtain⟨v,m⟩:=x
   simp only[hv] at h
   cases hr:Ba b ty k m with
   | none=>simp[hr] at h
   | some y =>
    obtain⟨l',q'⟩:=y
    simp only[hr,bP,ah,bJ] at h
    obtain⟨rfl,rfl⟩:=h
    obtain⟨a1,a2,a3,a4,a5,a6,a7⟩:=zK hb hv
    obtain⟨c1,c2,c3,c4,c5⟩:=IY hb k m l' q' a3 hr
    refine⟨by omega,c2,by simp[c3],fun x hx=>?_, ?_⟩
    ·rcases cZ.1 hx with rfl | hx
     ·exact⟨a6,a4,a5⟩
     ·exact c4 x hx
    ·rw[Qh b (p:=p) (q:=m) (r:=q') (by omega) c1,c5]
     have:(b.drop p).take (m-p)=UB v:=by simpa using a7
     rw[this]; rfl
noncomputable def typeOf (l:List DVal):Int:=match l with
 | []=>0
 | v::r=>if l.length≤64∧∀ x∈l,BD x=true∧x.ty=v.ty then v.ty else 0
theorem Qj {l:List DVal} {ty:Int} (h1:1≤l.length) (h2:l.length≤64) (h:∀ v∈l,BD v=true∧v.ty=ty):typeOf l=ty:=by
 cases l with
 | nil=>simp at h1
 | cons v r =>
  have hv:=(h v (by simp)).2
  show (if(v::r).length≤64∧∀ x∈(v::r),BD x=true∧x.ty=v.ty then v.ty else 0)=ty
  rw[bz ⟨h2,fun x hx=>⟨(h x hx).1,by rw[(h x hx).2,hv]⟩⟩,hv]
noncomputable def Dw (l:List DVal):List Int:=if typeOf l=0 then [] else I_ l
noncomputable def FC (b:List Int) (ty:Int) (k:Int):Option (List DVal):=
 if 1≤k∧k≤64 then match Ba b ty k.toNat 0 with
  | none=>none
  | some (l,q)=>if q=b.length then some l else none
 else none
noncomputable def again (b:List Int) (k:Int) (l:List DVal) (e:List Int):Option (List DVal):=if 1≤k∧k≤64∧(l.length:Int)=k∧b=e then some l else none
noncomputable def Nk (b:List Int) (ty:Int) (k:Int):Option (List DVal):=
 if 1≤k∧k≤64 then again b k (((Ba b ty k.toNat 0).map Prod.fst).getD []) (Dw (((Ba b ty k.toNat 0).map Prod.fst).getD [])) else none
theorem V4 {b:List Int} (hb:AY b) (ty k:Int):Nk b ty k=FC b ty k:=by
 unfold Nk FC
 by_cases hk:1≤k∧k≤64
 ·rw[bz hk,bz hk]
  cases hv:Ba b ty k.toNat 0 with
  | none =>
   simp only[di,qy,again]
   rw[aV]
   simp only[X5]
   omega
  | some x =>
   obtain⟨l,q⟩:=x
   obtain⟨_,c2,c3,c4,c5⟩:=IY hb k.toNat 0 l q (ax _) hv
   have h0:0<l.length:=by omega
   obtain⟨v0,hv0⟩:∃ v,v∈l:=⟨l[0],aj h0⟩
   have hty:=(c4 v0 hv0).2.2
   have ht:typeOf l=ty:=Qj (by omega) (by omega) fun v hv=>⟨(c4 v hv).1,(c4 v hv).2.1⟩
   have he:Dw l=b.take q:=by
    unfold Dw
    rw[aV (by rw[ht]; omega),← c5]; simp
   simp only[bP,aJ,again,he]
   by_cases hq:q=b.length
   ·rw[bz hq,bz ⟨hk.1,hk.2,by omega,by rw[hq,bG]⟩]
   ·rw[aV hq,aV]
    rintro⟨_,_,_,h4⟩
    have:=congrArg List.length h4
    simp only[bC] at this
    omega
 ·rw[aV hk,aV hk]
theorem o9 {b:List Int} (hb:AY b) {ty k:Int} {l:List DVal} (h:FC b ty k=some l):1≤k∧k≤64∧(l.length:Int)=k:=by
 unfold FC at h
 split at h
 ·rename_i hk
  cases hv:Ba b ty k.toNat 0 with
  | none=>simp[hv] at h
  | some x =>
   obtain⟨l',q⟩:=x
   simp only[hv] at h
   split at h
   ·simp only[ah] at h
    subst h
    have:=(IY hb k.toNat 0 _ q (ax _) hv).2.2.1
    omega
   ·cases h
 ·cases h
end Go.Proofs.YtnfbaclikokapaaGreat
