/- A part. -/
import Derived.Test.YtnoldekcdlaahaaGreatZc
import Derived.Test.YtnoldekcdlaahaaGreatDa
import Derived.Test.YtnoldekcdlaahaaGreatAa
import Derived.Lib.SlicesCompact
import Derived.Sort.Statements
import Derived.Shelf.SlSortCmp.NoneTotal
set_option linter.unusedSimpArgs false
set_option linter.unusedVariables false
set_option maxHeartbeats 4000000
set_option maxRecDepth 100000
open Go.Proofs.Tryz
namespace Go.Proofs.YtnoldekcdlaahaaGreat
open Go.Vm
section
variable {p q r:Prop}
theorem ALt(h:p:=by
 clear hr
 go_enter func466,ntmps466
 go_wp2
 go_ret
 exact⟨rfl,0,_,by rw[alloc_eq_grow,alloc_eq_grow,grow_grow]; rfl⟩):p:=h
theorem AQE(h:p:=by kernel_rfl):p:=h
end
def ZX (t:DTask):List Cl:=[.v (.int .i64 t.op),.v (.int .i64 t.pc),.v (.int .i64 t.h),.sl (t.r.map DVal.c),.v (.int .i64 t.id),.v (.int .i64 t.q.kind),.v (.int .i64 t.q.p.kind),.v (.int .i64 t.q.p.col),.v (.int .i64 t.q.p.op),.v (.int .i64 t.q.p.v.ty),.v (.int .i64 t.q.p.v.n),.v (.string t.q.p.v.s),.sl (t.q.p.l.map DPred.c),.v (.int .i64 t.q.col),.sl (t.q.out.map intC),.v (.int .i64 t.ts),.v (.int .i64 t.ver),.sl (t.l.map DRef.c),.v (.int .i64 t.i),.v (.int .i64 t.j),.v (.int .i64 t.s),.v (.int .i64 t.at0),.v (.int .i64 t.own),.v (.bool t.won),.sl (t.got.map DRow.c)]
@[go_sem] theorem AIC (t:DTask):ZX t = [.v (.int .i64 t.op),.v (.int .i64 t.pc),.v (.int .i64 t.h),.sl (t.r.map DVal.c),.v (.int .i64 t.id),.v (.int .i64 t.q.kind),.v (.int .i64 t.q.p.kind),.v (.int .i64 t.q.p.col),.v (.int .i64 t.q.p.op),.v (.int .i64 t.q.p.v.ty),.v (.int .i64 t.q.p.v.n),.v (.string t.q.p.v.s),.sl (t.q.p.l.map DPred.c),.v (.int .i64 t.q.col),.sl (t.q.out.map intC),.v (.int .i64 t.ts),.v (.int .i64 t.ver),.sl (t.l.map DRef.c),.v (.int .i64 t.i),.v (.int .i64 t.j),.v (.int .i64 t.s),.v (.int .i64 t.at0),.v (.int .i64 t.own),.v (.bool t.won),.sl (t.got.map DRow.c)]:=rfl
def J7 (k op:Int):Bool:=if(op==0)=true then true else if(decide (k<3))=true then Aa op 1 3 else op==4
theorem jg (k op:Int):Ctr prog 307 [.c (.v (.int .i64 (k))),.c (.v (.int .i64 (op)))] [.val (.c (.v (.bool (J7 k op))))]:=by
 refine CM call307 func307 ntmps307 results307 fun hw=>?_
 rcases h1:op==0 with _ | _
 ·rcases h2:decide (k<3) with _ | _
  ·simp only[go_sem,h1,h2,J7,aC,aW]
  ·simp only[go_sem,h1,h2,J7,aC,aW,aX]
   refine AAT _ (AL op 1 3) fun _=>?_
   exact AIk
 ·simp only[go_sem,h1,J7,aX]
def numsL (t:DTask):List Int:=[t.h,t.id,t.ts,t.ver,t.i,t.j,t.s,t.at0,t.own]
def CE (n:Int):Bool:=!decide (n<0)
def GX (r:DRef):Bool:=Ed r && !decide (r.first<0)
def wX (t:DTask):Bool:=!((t.id != 0)&&((t.op != 1)&&(t.op != 2)))
def IJ (t:DTask) (k:Int):Bool:=Aa k 0 4&&(J7 k t.op&&(Aa t.pc 0 9&&(!decide ((t.l.length:Int)>8)&&((numsL t).all CE&&(t.l.all GX&&(wX t&&((t.op != 0)||C9 t)))))))
def ABP (t:DTask) (k:Int):Bool:=if(t.op==0)=true then C9 t else if(t.op==1)=true then decide (k<3) else if(t.op==2)=true then decide (k<3) else if(t.op==3)=true then decide (k<3)&&(t.id==0) else(t.op==4)&&(decide (k≥3)&&(t.id==0))
theorem AEj (t:DTask) (k:Int):ABP t k=(J7 k t.op&&(wX t&&((t.op != 0)||C9 t))):=by
 have hb:C9 t=true→(t.id==0)=true:=by
  intro h
  simp only[C9,ay] at h
  exact h.2.2.2.1
 unfold ABP J7 wX
 rcases h0:t.op==0 with _ | _
 ·rcases h1:t.op==1 with _ | _
  ·rcases h2:t.op==2 with _ | _
   ·rcases h3:t.op==3 with _ | _
    ·have hr:Aa t.op 1 3=false:=by
      simp at h0 h1 h2 h3
      simp[Aa]; omega
     by_cases hk:k<3
     ·have hk2:decide (k≥3)=false:=by simp; omega
      simp[h0,h1,h2,hk,hk2,hr,bne]
     ·have hk2:decide (k≥3)=true:=by simp; omega
      simp[h0,h1,h2,hk,hk2,bne]
    ·have e3:t.op=3:=by simpa using h3
     by_cases hk:k<3<;>simp[e3,hk,Aa,bne]
   ·have e2:t.op=2:=by simpa using h2
    by_cases hk:k<3<;>simp[e2,hk,Aa,bne]
  ·have e1:t.op=1:=by simpa using h1
   by_cases hk:k<3<;>simp[e1,hk,Aa,bne]
 ·have e0:t.op=0:=by simpa using h0
  rcases hbl:C9 t with _ | _
  ·simp[e0,bne]
  ·have:=hb hbl
   simp[e0,bne,this]
theorem WA (t:DTask) (k:Int) (hf:GG t):Ctr prog 227 [.agg t.c,.c (.v (.int .i64 (k)))] [.val (.c (.v (.bool (IJ t k))))]:=by
 rw[EC] at hf
 refine CM call227 func227 ntmps227 results227 fun hw=>?_
 have hl:=hf.2.2.1
 simp only[go_sem]
 refine AAT _ (AL k 0 4) fun _=>?_
 rcases h1:Aa k 0 4 with _ | _
 ·simp only[go_sem,h1,IJ,ai]
 simp only[go_sem,h1]
 refine AAT _ (jg k t.op) fun _=>?_
 rcases h2:J7 k t.op with _ | _
 ·simp only[go_sem,h1,h2,IJ,ai,aj]
 simp only[go_sem,h1,h2]
 refine AAT _ (AL t.pc 0 9) fun _=>?_
 rcases h3:Aa t.pc 0 9 with _ | _
 ·simp only[go_sem,h1,h2,h3,IJ,ai,aj]
 rcases h4:decide ((t.l.length:Int)>8) with _ | _
 rotate_left
 ·simp only[go_sem,h1,h2,h3,h4,IJ,aJ,ai,aj]
 have ht:IJ t k=((numsL t).all CE&&(t.l.all GX&&(wX t&&((t.op != 0)||C9 t)))):=by
  simp only[IJ,h1,h2,h3,h4,aK,aj]
 simp only[go_sem,h1,h2,h3,h4,aI]
 refine AB4 2 (A:=Nat) (fun x=>[(51,.c (.v (.int .i64 (x))))]) (fun _=>[⟨72,25,[ZX t],true,true⟩,⟨3,1,(numsL t).map intC,true,true⟩]) (Ea (numsL t) CE) (fun x=>(numsL t).length-x) 0 ⟨⟨rfl,rfl⟩,rfl,Ce⟩ ?_
 intro m hm
 refine AOb (fun h=>?_) fun h=>?_
 ·have hk':m<(numsL t).length:=by simp[numsL] at h ⊢; omega
  have hwm:IntKind.i64.wrap ((m:Int)+1)=((m+1:Nat):Int):=by have:m<9:=hk'; rw[wrap_i64 AOh AOh]; rfl
  simp only[go_sem,AA _ hk',hk']
  refine AA0 (fun hn=>?_) (fun hn=>?_)
  ·have hn2:CE (numsL t)[m]=false:=by unfold CE; rw[hn]; rfl
   simp only[go_sem,ht,BH (p:=CE) hk' hn2,ai]
  ·have hn2:CE (numsL t)[m]=true:=by unfold CE; rw[hn]; rfl
   simp only[go_sem,hwm]
   exact⟨m+1,⟨rfl,rfl⟩,rfl,Ah hk' hm hn2,by have:m<(numsL t).length:=hk'; omega⟩
 have hk':m=(numsL t).length:=by have:=hm.1; simp[numsL] at h this ⊢; omega
 subst hk'
 rw[ht,CV hm,aj]
 simp only[go_sem]
 refine AB4 2 (A:=Nat) (fun x=>[(61,.c (.v (.int .i64 (x))))]) (fun _=>[⟨72,25,[ZX t],true,true⟩,⟨3,1,(numsL t).map intC,true,true⟩]) (Ea t.l GX) (fun x=>t.l.length-x) 0 ⟨⟨rfl,rfl⟩,rfl,Ce⟩ ?_
 intro j hj
 refine AOb (fun h=>?_) fun h=>?_
 ·have hk':j<t.l.length:=by simpa using h
  simp only[go_sem,AA _ hk',hk']
  try refine AAm ?_
  try simp only[go_sem,AA _ hk',hk']
  first | refine CY (Rl t.l[j]) ?_ | refine CW (Rl t.l[j]) fun _=>?_
  rcases h5:Ed t.l[j] with _ | _
  ·simp only[go_sem,h5,BH (p:=GX) hk' (by simp only[GX,h5,ai]),ai]
  rcases h6:decide (t.l[j].first<0) with _ | _
  ·simp only[go_sem,h5,h6,wrap_i64 (n:=(j:Int)+1) AOh AOh]
   exact AOJ
  ·simp only[go_sem,h5,h6,BH (p:=GX) hk' (by simp only[GX,h5,h6]; rfl),ai]
 have hk':j=t.l.length:=AO9
 subst hk'
 rw[CV hj,aj]
 unfold wX
 have fin:∀ b,b=true→b=true:=fun _ h=>h
 rcases k0:t.op != 0 with _ | _
 ·have e0:t.op=0:=by simpa using k0
  have e1:(t.op != 1)=true:=by simp[e0]
  have e2:(t.op != 2)=true:=by simp[e0]
  rcases k3:t.id != 0 with _ | _
  ·simp only[go_sem,k0,k3,e1,e2,ai,aK,aj,bT]
   refine CW (xG t hf.2.1) fun _=>?_
   exact AIk
  ·simp only[go_sem,k0,k3,e1,e2,aj,aJ,ai]
 ·rcases k1:t.op != 1 with _ | _<;>rcases k2:t.op != 2 with _ | _<;>rcases k3:t.id != 0 with _ | _ <;>
   simp only[go_sem,k0,k1,k2,k3,ai,aH,aK,aJ,aj,cZ]
theorem AGB (t:DTask) (k:Int):IJ t k=(Aa k 0 4&&(Aa t.pc 0 9&&((numsL t).all CE&&(!decide ((t.l.length:Int)>8)&&(t.l.all GX&&ABP t k))))):=by
 rw[AEj]
 unfold IJ
 rcases Aa k 0 4<;>rcases J7 k t.op<;>rcases Aa t.pc 0 9<;>rcases decide ((t.l.length:Int)>8)<;>rcases(numsL t).all CE<;>rcases t.l.all GX<;>simp only[ai,aj,aH,aJ,aK]
theorem WB (t:DTask) (k:Int) (hf:GG t):Ctr prog 199 [.agg t.c,.c (.v (.int .i64 (k)))] [.val (.c (.v (.bool (IJ t k))))]:=by
 rw[EC] at hf
 rw[AGB]
 refine CM call199 func199 ntmps199 results199 fun hw=>?_
 have hl:=hf.2.2.1
 simp only[go_sem,bi,aU,aN]
 refine AAT _ (AP k 0 4) fun _=>?_
 rcases h1:Aa k 0 4 with _ | _
 ·simp only[go_sem,bi,aU,aN,h1,ai]
 simp only[go_sem,bi,aU,aN,h1]
 refine AAT _ (AP t.pc 0 9) fun _=>?_
 rcases h3:Aa t.pc 0 9 with _ | _
 ·simp only[go_sem,bi,aU,aN,h1,h3,ai,aj]
 rcases n0:decide (t.h<0) with _ | _
 rotate_left
 ·have e:(numsL t).all CE=false:=BH (k:=0) (show 0<9 from AOq) (show CE (t.h)=false by unfold CE; rw[n0]; rfl)
  simp only[go_sem,bi,aU,aN,h1,h3,n0,e,ai,aj]
 rcases n1:decide (t.id<0) with _ | _
 rotate_left
 ·have e:(numsL t).all CE=false:=BH (k:=1) (show 1<9 from AOq) (show CE (t.id)=false by unfold CE; rw[n1]; rfl)
  simp only[go_sem,bi,aU,aN,h1,h3,n0,n1,e,ai,aj]
 rcases n2:decide (t.ts<0) with _ | _
 rotate_left
 ·have e:(numsL t).all CE=false:=BH (k:=2) (show 2<9 from AOq) (show CE (t.ts)=false by unfold CE; rw[n2]; rfl)
  simp only[go_sem,bi,aU,aN,h1,h3,n0,n1,n2,e,ai,aj]
 rcases n3:decide (t.ver<0) with _ | _
 rotate_left
 ·have e:(numsL t).all CE=false:=BH (k:=3) (show 3<9 from AOq) (show CE (t.ver)=false by unfold CE; rw[n3]; rfl)
  simp only[go_sem,bi,aU,aN,h1,h3,n0,n1,n2,n3,e,ai,aj]
 rcases n4:decide (t.i<0) with _ | _
 rotate_left
 ·have e:(numsL t).all CE=false:=BH (k:=4) (show 4<9 from AOq) (show CE (t.i)=false by unfold CE; rw[n4]; rfl)
  simp only[go_sem,bi,aU,aN,h1,h3,n0,n1,n2,n3,n4,e,ai,aj]
 rcases n5:decide (t.j<0) with _ | _
 rotate_left
 ·have e:(numsL t).all CE=false:=BH (k:=5) (show 5<9 from AOq) (show CE (t.j)=false by unfold CE; rw[n5]; rfl)
  simp only[go_sem,bi,aU,aN,h1,h3,n0,n1,n2,n3,n4,n5,e,ai,aj]
 rcases n6:decide (t.s<0) with _ | _
 rotate_left
 ·have e:(numsL t).all CE=false:=BH (k:=6) (show 6<9 from AOq) (show CE (t.s)=false by unfold CE; rw[n6]; rfl)
  simp only[go_sem,bi,aU,aN,h1,h3,n0,n1,n2,n3,n4,n5,n6,e,ai,aj]
 rcases n7:decide (t.at0<0) with _ | _
 rotate_left
 ·have e:(numsL t).all CE=false:=BH (k:=7) (show 7<9 from AOq) (show CE (t.at0)=false by unfold CE; rw[n7]; rfl)
  simp only[go_sem,bi,aU,aN,h1,h3,n0,n1,n2,n3,n4,n5,n6,n7,e,ai,aj]
 rcases n8:decide (t.own<0) with _ | _
 rotate_left
 ·have e:(numsL t).all CE=false:=BH (k:=8) (show 8<9 from AOq) (show CE (t.own)=false by unfold CE; rw[n8]; rfl)
  simp only[go_sem,bi,aU,aN,h1,h3,n0,n1,n2,n3,n4,n5,n6,n7,n8,e,ai,aj]
 have e9:(numsL t).all CE=true:=by simp only[numsL,bC,bU,CE,n0,n1,n2,n3,n4,n5,n6,n7,n8,aK,aS]
 rcases h4:decide ((t.l.length:Int)>8) with _ | _
 rotate_left
 ·simp only[go_sem,bi,aU,aN,h1,h3,n0,n1,n2,n3,n4,n5,n6,n7,n8,h4,aJ,ai,aH]
 simp only[go_sem,bi,aU,aN,h1,h3,n0,n1,n2,n3,n4,n5,n6,n7,n8,h4,e9,aK,aj]
 refine AB4 1 (A:=Nat) (fun x=>[(5,.c (.v (.int .i64 (x))))]) (fun _=>[⟨72,25,[ZX t],true,true⟩]) (Ea t.l GX) (fun x=>t.l.length-x) 0 ⟨⟨rfl,rfl⟩,rfl,Ce⟩ ?_
 intro j hj
 refine AOb (fun h=>?_) fun h=>?_
 ·have hk':j<t.l.length:=by simpa using h
  simp only[go_sem,AA _ hk',hk']
  try refine AAm ?_
  try simp only[go_sem,AA _ hk',hk']
  first | refine CY (Rn t.l[j]) ?_ | refine CW (Rn t.l[j]) fun _=>?_
  rcases h5:Ed t.l[j] with _ | _
  ·simp only[go_sem,AA _ hk',hk',h5,BH (p:=GX) hk' (by simp only[GX,h5,ai]),ai]
  rcases h6:decide (t.l[j].first<0) with _ | _
  ·simp only[go_sem,AA _ hk',hk',h5,h6,wrap_i64 (n:=(j:Int)+1) AOh AOh]
   exact AOJ
  ·simp only[go_sem,AA _ hk',hk',h5,h6,BH (p:=GX) hk' (by simp only[GX,h5,h6]; rfl),ai]
 have hk':j=t.l.length:=AO9
 subst hk'
 rw[CV hj,aj]
 unfold ABP
 rcases k0:t.op==0 with _ | _
 rotate_left
 ·simp only[go_sem,k0,aX]
  refine CW (xH t hf.2.1) fun _=>?_
  exact AIk
 rcases k1:t.op==1 with _ | _
 rotate_left
 ·simp only[go_sem,k0,k1,aC,aW,aX]
 rcases k2:t.op==2 with _ | _
 rotate_left
 ·simp only[go_sem,k0,k1,k2,aC,aW,aX]
 rcases k3:t.op==3 with _ | _
 rotate_left
 ·rcases k4:decide (k<3) with _ | _<;>simp only[go_sem,k0,k1,k2,k3,k4,aC,aW,aX,ai,aj]
 rcases k5:t.op==4 with _ | _
 ·simp only[go_sem,k0,k1,k2,k3,k5,aC,aW,ai]
 rcases k6:decide (k≥3) with _ | _<;>simp only[go_sem,k0,k1,k2,k3,k5,k6,aC,aW,ai,aj]
def isByte (c:Int):Prop:=0≤c∧c<256
def Ad (b:List Int):Prop:=∀ c∈b,isByte c
theorem Ug {b:List Int} (h:Ad b) {k:Nat} {c:Int} (hk:b[k]?=some c):isByte c:=h c (bF hk)
def zig (n:Int):Int:=if n<0 then -2*n-1 else 2*n
def zag (x:Int):Int:=if x%2=1 then -((x+1)/2) else x/2
theorem AGC {x:Int} (h:0≤x):zig (zag x)=x:=by
 unfold zig zag
 omega
theorem AGD {x:Int} (h:0≤x) (h2:x≤2000000000) : -1000000000≤zag x∧zag x≤1000000000:=by
 unfold zag
 omega
def iE:Nat→Int→List Int
 | 0,x=>[x]
 | f+1,x=>if x≥128 then(x%128+128)::iE f (x/128) else [x]
def FH (n:Int):List Int:=iE 4 (zig n)
def J8 (b:List Int) (p:Nat):Nat→Int→Nat→Option (Int×Nat)
 | 0,_,_=>none
 | f+1,x,i=>match b[p+i]? with
  | none=>none
  | some c=>if c≥128 then J8 b p f (x+(c%128)*128 ^ i) (i+1) else
   if(0<i∧c=0)∨x+(c%128)*128 ^ i>2000000000 then none else some (zag (x+(c%128)*128 ^ i),p+i+1)
def BX (b:List Int) (p:Int):Option (Int×Nat):=if 0≤p then J8 b p.toNat 5 0 0 else none
theorem ACe {b:List Int} (hb:Ad b) (p:Nat):∀ (f:Nat) (x:Int) (i:Nat) (n:Int) (q:Nat),0≤x→J8 b p (f+1) x i=some (n,q) →
  ∃ y:Int,0≤y∧(0<i→0<y)∧x+y*128 ^ i≤2000000000∧n=zag (x+y*128 ^ i)∧p+i<q∧q≤b.length∧(b.drop (p+i)).take (q-(p+i))=iE f y:=by
 intro f
 induction f with
 | zero =>
  intro x i n q hx h
  simp only[J8] at h
  cases hc:b[p+i]? with
  | none=>grind
  | some c =>
   simp only[hc] at h
   obtain⟨c0,c1⟩:=Ug hb hc
   split at h
   ·cases h
   ·rename_i hlt
    split at h
    ·cases h
    ·rename_i hno
     simp only[ak,bK] at h
     obtain⟨rfl,rfl⟩:=h
     have hm:c%128=c:=AOh
     rw[hm] at hno ⊢
     have hl:=(aF.1 hc).1
     refine⟨c,c0,fun hi=>?_,AOh,rfl,AOh,AOh, ?_⟩
     ·omega
     ·rw[aG hl]
      have e1:p+i+1-(p+i)=1:=AOh
      have e2:b[p+i]=c:=(aF.1 hc).2
      rw[e1,e2]; simp[iE]
 | succ f ih =>
  intro x i n q hx h
  rw[J8] at h
  cases hc:b[p+i]? with
  | none=>grind
  | some c =>
   simp only[hc] at h
   obtain⟨c0,c1⟩:=Ug hb hc
   have hl:=(aF.1 hc).1
   have e2:b[p+i]=c:=(aF.1 hc).2
   have hp:(0:Int)≤128 ^ i:=aaU AOh
   split at h
   ·rename_i hge
    have hm0:0≤c%128*128 ^ i:=aaX AOh hp
    obtain⟨y,y0,y1,y2,y3,y4,y5,y6⟩:=ih _ (i+1) n q AOh h
    have y1:=y1 AOh
    have e3:x+c%128*128 ^ i+y*128 ^ (i+1)=x+(c%128+y*128)*128 ^ i:=by
     rw[aa9,Int.add_mul,Int.mul_assoc y 128,Int.mul_comm 128 (128 ^ i)]; omega
    rw[e3] at y2 y3
    refine⟨c%128+y*128,AOh,fun _=>AOh,y2,y3,AOh,y5, ?_⟩
    rw[aG hl,e2]
    have e4:q-(p+i)=(q-(p+(i+1)))+1:=AOh
    rw[e4,abg]
    have e5:p+i+1=p+(i+1):=AOh
    rw[e5,y6,iE,bu AOh]
    grind
   ·rename_i hlt
    split at h
    ·cases h
    ·rename_i hno
     simp only[ak,bK] at h
     obtain⟨rfl,rfl⟩:=h
     have hm:c%128=c:=AOh
     rw[hm] at hno ⊢
     refine⟨c,c0,fun hi=>?_,AOh,rfl,AOh,AOh, ?_⟩
     ·omega
     ·rw[aG hl,e2]
      have e1:p+i+1-(p+i)=1:=AOh
      rw[e1]
      simp[iE,show ¬ c≥128 from AOh]
theorem IA {b:List Int} (hb:Ad b) {p n:Int} {q:Nat} (h:BX b p=some (n,q)) :
  0≤p∧p<q∧q≤b.length∧ -1000000000≤n∧n≤1000000000∧(b.drop p.toNat).take (q-p.toNat)=FH n:=by
 unfold BX at h
 split at h
 ·rename_i hp
  obtain⟨y,y0,_,y2,y3,y4,y5,y6⟩:=ACe hb p.toNat 4 0 0 n q (xZ _) h
  simp only[Int.pow_zero,Int.mul_one,Int.zero_add] at y2 y3
  have:=AGD y0 y2
  refine⟨hp,AOh,y5,AOh,AOh, ?_⟩
  rw[FH,y3,AGC y0]
  omega
 ·cases h
theorem TJ (b:List Int) {p q r:Nat} (h1:p≤q) (h2:q≤r):(b.drop p).take (r-p)=(b.drop p).take (q-p)++(b.drop q).take (r-q):=by
 have e1:r-p=(q-p)+(r-q):=AOh
 grind [List.drop_drop]
def wY (s:ByteArray):List Int:=s.data.toList.map fun x=>(x.toNat:Int)
theorem AEk (s:ByteArray):(wY s).length=s.size:=by simp only[wY,ae]; rfl
theorem qR {l:List Int} (h:Ad l):wY (strOfNums l)=l:=by
 unfold wY
 rw[strOfNums_data,List.map_map]
 conv=>rhs; rw[← List.map_id l]
 refine aaM fun c hc=>?_
 obtain⟨h1,h2⟩:=h c hc
 simp_all<;>omega
theorem TK {b:List Int} (h:Ad b) (p n:Nat):Ad ((b.drop p).take n):=fun c hc=>h c (aaG (aar hc))
def WC (v:DVal):List Int:=if v.ty=1 then FH v.n else(v.s.size:Int)::wY v.s
noncomputable def Fe (b:List Int) (p ty:Int):Option (DVal×Nat):=
 if ty=1 then(BX b p).map fun x=>(⟨1,x.1,ByteArray.empty⟩,x.2) else
 if ty=2∧0≤p then match b[p.toNat]? with
  | none=>none
  | some k=>if p.toNat+1+k.toNat≤b.length then(if BK ⟨2,0,strOfNums ((b.drop (p.toNat+1)).take k.toNat)⟩=true then some (⟨2,0,strOfNums ((b.drop (p.toNat+1)).take k.toNat)⟩,p.toNat+1+k.toNat) else none) else none
 else none
theorem lW (n:Int) (h : -1000000000≤n∧n≤1000000000):BK ⟨1,n,ByteArray.empty⟩=true:=by
 simp only[BK,aX,EL,Aa]
 simp_all
theorem ACf {b:List Int} (hb:Ad b) {p ty:Int} {v:DVal} {q:Nat} (h:Fe b p ty=some (v,q)) :
  0≤p∧p<q∧q≤b.length∧v.ty=ty∧(ty=1∨ty=2)∧BK v=true∧(b.drop p.toNat).take (q-p.toNat)=WC v:=by
 unfold Fe at h
 split at h
 ·rename_i hty
  cases hn:BX b p with
  | none=>grind
  | some x =>
   obtain⟨n,q'⟩:=x
   simp only[hn,bW,ak,bK] at h
   obtain⟨rfl,rfl⟩:=h
   obtain⟨h1,h2,h3,h4,h5,h6⟩:=IA hb hn
   exact⟨h1,h2,h3,hty.symm,.inl hty,lW n ⟨h4,h5⟩,by simpa [WC] using h6⟩
 ·split at h
  ·rename_i hp
   cases hk:b[p.toNat]? with
   | none=>grind
   | some k =>
    simp only[hk] at h
    obtain⟨k0,k1⟩:=Ug hb hk
    split at h
    ·rename_i hlen
     split at h
     ·rename_i hv
      simp only[ak,bK] at h
      obtain⟨rfl,rfl⟩:=h
      have hl:=(aF.1 hk).1
      have e2:b[p.toNat]=k:=(aF.1 hk).2
      refine⟨hp.2,AOh,hlen,hp.1.symm,.inr hp.1,hv, ?_⟩
      rw[aG hl,e2]
      have e1:p.toNat+1+k.toNat-p.toNat=k.toNat+1:=AOh
      rw[e1,abg]
      simp only[WC,show ¬ (2:Int)=1 from AOh,aW,qR (TK hb _ _),strOfNums_size]
      grind
     ·cases h
    ·cases h
  ·cases h
noncomputable def Bz (b:List Int) (ty:Int):Nat→Nat→Option (List DVal×Nat)
 | 0,p=>some ([],p)
 | k+1,p=>match Fe b p ty with
  | none=>none
  | some (v,q)=>(Bz b ty k q).map fun x=>(v::x.1,x.2)
def J9 (l:List DVal):List Int:=(l.map WC).flatten
theorem JX {b:List Int} (hb:Ad b) {ty:Int}:∀ (k p:Nat) (l:List DVal) (q:Nat),p≤b.length→Bz b ty k p=some (l,q) →
  p≤q∧q≤b.length∧l.length=k∧(∀ v∈l,BK v=true∧v.ty=ty∧(ty=1∨ty=2))∧(b.drop p).take (q-p)=J9 l
 | 0,p,l,q,hp,h=>by
  simp only[Bz,ak,bK] at h
  obtain⟨rfl,rfl⟩:=h
  exact⟨aT _,hp,rfl,AOi,by simp[J9]⟩
 | k+1,p,l,q,hp,h=>by
  rw[Bz] at h
  cases hv:Fe b p ty with
  | none=>grind
  | some x =>
   obtain⟨v,m⟩:=x
   simp only[hv] at h
   cases hr:Bz b ty k m with
   | none=>grind
   | some y =>
    obtain⟨l',q'⟩:=y
    simp only[hr,bW,ak,bK] at h
    obtain⟨rfl,rfl⟩:=h
    obtain⟨a1,a2,a3,a4,a5,a6,a7⟩:=ACf hb hv
    obtain⟨c1,c2,c3,c4,c5⟩:=JX hb k m l' q' a3 hr
    refine⟨AOh,c2,by simp[c3],fun x hx=>?_, ?_⟩
    ·grind
    ·rw[TJ b (p:=p) (q:=m) (r:=q') AOh c1,c5]
     have:(b.drop p).take (m-p)=WC v:=by simpa using a7
     rw[this]; rfl
noncomputable def typeOf (l:List DVal):Int:=match l with
 | []=>0
 | v::r=>if l.length≤64∧∀ x∈l,BK x=true∧x.ty=v.ty then v.ty else 0
theorem TL {l:List DVal} {ty:Int} (h1:1≤l.length) (h2:l.length≤64) (h:∀ v∈l,BK v=true∧v.ty=ty):typeOf l=ty:=by
 cases l with
 | nil=>simp at h1
 | cons v r =>
  have hv:=(h v AOi).2
  show (if(v::r).length≤64∧∀ x∈(v::r),BK x=true∧x.ty=v.ty then v.ty else 0)=ty
  grind
noncomputable def Ef (l:List DVal):List Int:=if typeOf l=0 then [] else J9 l
noncomputable def GY (b:List Int) (ty:Int) (k:Int):Option (List DVal):=
 if 1≤k∧k≤64 then match Bz b ty k.toNat 0 with
  | none=>none
  | some (l,q)=>if q=b.length then some l else none
 else none
noncomputable def again (b:List Int) (k:Int) (l:List DVal) (e:List Int):Option (List DVal):=if 1≤k∧k≤64∧(l.length:Int)=k∧b=e then some l else none
noncomputable def PQ (b:List Int) (ty:Int) (k:Int):Option (List DVal):=
 if 1≤k∧k≤64 then again b k (((Bz b ty k.toNat 0).map Prod.fst).getD []) (Ef (((Bz b ty k.toNat 0).map Prod.fst).getD [])) else none
theorem Ye {b:List Int} (hb:Ad b) (ty k:Int):PQ b ty k=GY b ty k:=by
 unfold PQ GY
 by_cases hk:1≤k∧k≤64
 ·rw[bu hk,bu hk]
  cases hv:Bz b ty k.toNat 0 with
  | none =>
   simp only[WY,xY,again]
   grind
  | some x =>
   obtain⟨l,q⟩:=x
   obtain⟨_,c2,c3,c4,c5⟩:=JX hb k.toNat 0 l q (az _) hv
   have h0:0<l.length:=AOh
   obtain⟨v0,hv0⟩:∃ v,v∈l:=⟨l[0],ax h0⟩
   have hty:=(c4 v0 hv0).2.2
   have ht:typeOf l=ty:=TL AOh AOh fun v hv=>⟨(c4 v hv).1,(c4 v hv).2.1⟩
   have he:Ef l=b.take q:=by
    unfold Ef
    rw[aZ AOh,← c5]; simp
   simp only[bW,aI,again,he]
   grind
 grind
theorem wZ {b:List Int} (hb:Ad b) {ty k:Int} {l:List DVal} (h:GY b ty k=some l):1≤k∧k≤64∧(l.length:Int)=k:=by
 unfold GY at h
 split at h
 ·rename_i hk
  cases hv:Bz b ty k.toNat 0 with
  | none=>grind
  | some x =>
   obtain⟨l',q⟩:=x
   simp only[hv] at h
   split at h
   ·simp only[ak] at h
    subst h
    have:=(JX hb k.toNat 0 _ q (az _) hv).2.2.1
    omega
   ·cases h
 ·cases h
theorem ACg {b:List Int} {k:Int} {l l':List DVal} {e:List Int} (h:again b k l e=some l'):l'=l∧1≤k∧k≤64∧(l.length:Int)=k∧b=e:=by
 unfold again at h
 grind
theorem iF {v:DVal} (h:BK v=true):v.ty=1∨v.ty=2:=by
 unfold BK at h
 grind
theorem AEl (l:List DVal):typeOf l=0∨typeOf l=1∨typeOf l=2:=by
 cases l with
 | nil=>exact .inl rfl
 | cons v r =>
  show (if(v::r).length≤64∧∀ x∈(v::r),BK x=true∧x.ty=v.ty then v.ty else 0)=0∨(if(v::r).length≤64∧∀ x∈(v::r),BK x=true∧x.ty=v.ty then v.ty else 0)=1∨(if(v::r).length≤64∧∀ x∈(v::r),BK x=true∧x.ty=v.ty then v.ty else 0)=2
  grind [iF]
def runs:List DVal→List (DVal×Int)
 | []=>[]
 | v::l=>match runs l with
  | []=>[(v,1)]
  | (x,k)::r=>if NM v x=true then(x,k+1)::r else(v,1)::(x,k)::r
def IQ:List (DVal×Int)→Nat→Option (List DVal)
 | [],_=>some []
 | (v,k)::r,n=>if k<1∨k>64-n then none else(IQ r (n+k.toNat)).map fun l=>List.replicate k.toNat v++l
def spread (r:List (DVal×Int)):List DVal:=(IQ r 0).getD []
noncomputable def FU (l:List DVal):List Int:=if typeOf l=0 then [] else FH (runs l).length++((runs l).map fun r=>FH r.2++WC r.1).flatten
noncomputable def JR (b:List Int) (ty:Int):Nat→Nat→Option (List (DVal×Int))
 | 0,_=>some []
 | n+1,p=>match BX b p with
  | none=>none
  | some (m,q)=>match Fe b q ty with
   | none=>none
   | some (v,q')=>(JR b ty n q').map fun r=>(v,m)::r
noncomputable def EY (b:List Int) (ty k:Int):Option (List DVal):=match BX b 0 with
 | none=>none
 | some (n,p)=>if 1≤n∧n≤64 then match JR b ty n.toNat p with
   | none=>none
   | some r=>again b k (spread r) (FU (spread r))
  else none
def FM (b:List Int) (n:Int):Int:=if n<0 then 0 else match b[(n/8).toNat]? with
 | some c=>c/2 ^ (n%8).toNat%2
 | none=>0
def Ff (k w:Int):Int:=if(0≤k∧k≤64)∧0≤w∧w≤31 then(k*w+7)/8 else 0
def Ns (b:List Int) (o:Int):Nat→Int
 | 0=>0
 | j+1=>Ns b o j+FM b (o+j)*2 ^ j
noncomputable def unpack (b:List Int) (w k:Int):Option (List Int):=
 if((0≤w∧w≤31)∧(0≤k∧k≤64)∧(b.length:Int)=Ff k w)∧(∀ n∈List.range (8*b.length),k*w≤(n:Int)→FM b (n:Int)=0) then some ((List.range k.toNat).map fun(i:Nat)=>Ns b ((i:Int)*w) w.toNat) else none
theorem Nu {b:List Int} {w k:Int} {o:List Int} (h:unpack b w k=some o):(o.length:Int)=k:=by
 unfold unpack at h
 grind
def Gm:Nat→Int→Int
 | 0,_=>0
 | f+1,x=>if x>0 then Gm f (x/2)+1 else 0
def Aq (n:Int):Int:=if 0≤n∧n≤2147483647 then Gm 32 n else 0
def DL (l:List Int):Int:=l.foldl (fun w n=>max w (Aq n)) 0
def E8 (l:List Int) (w:Int) (n:Nat):Int:=match l[n/w.toNat]? with
 | some x=>x/2 ^ (n%w.toNat)%2
 | none=>0
def GZ (l:List Int) (w:Int) (m:Nat):Nat→Int
 | 0=>0
 | t+1=>GZ l w m t+E8 l w (8*m+t)*2 ^ t
noncomputable def Eg (l:List Int) (w:Int):List Int:=
 if(0≤w∧w≤31)∧∀ n∈l,(0≤n∧n≤2147483647)∧Aq n≤w then(List.range ((l.length*w.toNat+7)/8)).map fun m=>GZ l w m 8 else []
def ins (v:DVal):List DVal→List DVal
 | []=>[v]
 | x::r=>if FV x v=true then x::ins v r else if NM x v=true then x::r else v::x::r
def DN (l:List DVal):List DVal:=l.foldl (fun d v=>ins v d) []
theorem ABQ (v:DVal):∀ d:List DVal,(ins v d).length≤d.length+1
 | []=>aT _
 | x::r=>by
  simp only[ins]
  have:=ABQ v r
  grind
theorem PR (l:List DVal):(DN l).length≤l.length:=by
 have key:∀ (l d:List DVal),(l.foldl (fun d v=>ins v d) d).length≤d.length+l.length:=by
  intro l
  induction l with
  | nil=>intro d; simp
  | cons v l ih =>
   grind [ABQ,df]
 simpa [DN] using key l []
def placeOf (v:DVal):List DVal→Nat→Option Int
 | [],_=>none
 | x::r,i=>if NM x v=true then some (i:Int) else placeOf v r (i+1)
def places (d:List DVal):List DVal→Option (List Int)
 | []=>some []
 | v::l=>match placeOf v d 0,places d l with
  | some i,some r=>some (i::r)
  | _,_=>none
def picked (d:List DVal):List Int→Option (List DVal)
 | []=>some []
 | i::l=>if 0≤i then match d[i.toNat]?,picked d l with
   | some v,some r=>some (v::r)
   | _,_=>none
  else none
theorem Nv {d:List DVal}:∀ {o:List Int} {l:List DVal},picked d o=some l→l.length=o.length
 | [],l,h=>by simp only[picked,ak] at h; subst h; rfl
 | i::o,l,h=>by
  simp only[picked] at h
  split at h
  ·split at h
   ·rename_i v r h1 h2
    simp only[ak] at h
    subst h
    simp[Nv h2]
   ·cases h
  ·cases h
noncomputable def EZ (l:List DVal):List Int:=if typeOf l=0 then [] else FH (DN l).length++(J9 (DN l)++Eg ((places (DN l) l).getD []) (Aq ((DN l).length-1)))
theorem AEm:∀ (f g:Nat) (x y:Int) (r s:List Int),0≤x→x<128 ^ (f+1)→0≤y→y<128 ^ (g+1)→iE f x++r=iE g y++s→x=y:=by
 have hd:∀ (g:Nat) (y:Int),0≤y→y<128 ^ (g+1)→∃ c t,iE g y=c::t∧(y<128→c=y∧t = [])∧(y≥128→∃ g',g=g'+1∧c=y%128+128∧t=iE g' (y/128)):=by
  intro g y h0 h1
  cases g with
  | zero=>exact⟨y,[],rfl,fun _=>⟨rfl,rfl⟩,fun h=>AOh⟩
  | succ g =>
   by_cases h:y≥128
   ·exact⟨_,_,by rw[iE,bu h],fun h2=>AOh,fun _=>⟨g,rfl,rfl,rfl⟩⟩
   ·exact⟨y,[],by rw[iE,aZ h],fun _=>⟨rfl,rfl⟩,fun h2=>AOh⟩
 intro f
 induction f with
 | zero =>
  intro g x y r s hx hx2 hy hy2 h
  obtain⟨c,t,e1,e2,e3⟩:=hd g y hy hy2
  simp only[aa9,Int.pow_zero,Int.one_mul,uX] at hx2
  rw[e1] at h
  simp only[iE,aU,aN,List.cons.injEq] at h
  grind
 | succ f ih =>
  grind
theorem Xg {n:Int} (h : -1000000000≤n) (h2:n≤1000000000):0≤zig n∧zig n<128 ^ 5:=by
 unfold zig
 omega
theorem AGE {n m:Int} (h:zig n=zig m):n=m:=by
 unfold zig at h
 omega
theorem ACh {n m:Int} {r s:List Int} (hn : -1000000000≤n∧n≤1000000000) (hm : -1000000000≤m∧m≤1000000000) (h:FH n++r=FH m++s):n=m:=
 AGE (AEm 4 4 _ _ r s (Xg hn.1 hn.2).1 (Xg hn.1 hn.2).2 (Xg hm.1 hm.2).1 (Xg hm.1 hm.2).2 h)
noncomputable def Fq (b:List Int) (ty k:Int):Option (List DVal):=match BX b 0 with
 | none=>none
 | some (n,p)=>if(1≤k∧k≤64)∧1≤n∧n≤k then match Bz b ty n.toNat p with
   | none=>none
   | some (d,q)=>match unpack (b.drop q) (Aq (n-1)) k with
    | none=>none
    | some o=>match picked d o with
     | none=>none
     | some l=>if EZ l=b then some l else none
  else none
noncomputable def J_ (b:List Int) (ty k:Int):Option (List DVal):=match BX b 0 with
 | none=>none
 | some (n,p)=>if 1≤n∧n≤64 then match Bz b ty n.toNat p with
   | none=>none
   | some (d,q)=>match unpack (b.drop q) (Aq (n-1)) k with
    | none=>none
    | some o=>again b k ((picked d o).getD []) (EZ ((picked d o).getD []))
  else none
theorem WE {b:List Int} (hb:Ad b) {n:Int} {p:Nat} (h:BX b 0=some (n,p)):(-1000000000≤n∧n≤1000000000)∧b=FH n++b.drop p∧b≠ []:=by
 obtain⟨_,h2,h3,h4,h5,h6⟩:=IA hb h
 refine⟨⟨h4,h5⟩, ?_, ?_⟩
 ·have e:b.take p=FH n:=by simpa using h6
  rw[← e]; simp
 grind
theorem iG {b:List Int} (hb:Ad b) (ty k:Int):J_ b ty k=Fq b ty k:=by
 unfold J_ Fq
 cases hn:BX b 0 with
 | none=>rfl
 | some x =>
  obtain⟨n,p⟩:=x
  obtain⟨hnr,hbn,hne⟩:=WE hb hn
  dsimp only
  by_cases h1:1≤n∧n≤64
  ·rw[bu h1]
   cases hd:Bz b ty n.toNat p with
   | none=>simp
   | some y =>
    obtain⟨d,q⟩:=y
    dsimp only
    cases hu:unpack (b.drop q) (Aq (n-1)) k with
    | none=>simp
    | some o =>
     have hol:=Nu hu
     dsimp only
     by_cases h2:(1≤k∧k≤64)∧1≤n∧n≤k
     ·rw[bu h2]
      cases hp:picked d o with
      | none =>
       simp only[xY,again]
       grind
      | some l =>
       have:=Nv hp
       simp only[aI,again]
       grind
     ·rw[aZ h2]
      unfold again
      rw[aZ]
      rintro⟨k1,k2,k3,k4⟩
      have hnk:k<n:=AOh
      generalize hl:(picked d o).getD []=l at k3 k4
      unfold EZ at k4
      split at k4
      ·exact hne k4
      ·have:=PR l
       have e:=ACh hnr ⟨AOh,AOh⟩ (hbn.symm.trans k4)
       omega
  grind
def Cm:List DVal→Int
 | []=>0
 | v::l=>l.foldl (fun n x=>min n x.n) v.n
noncomputable def offsets (l:List DVal):List Int:=if typeOf l≠1 then [] else l.map fun v=>v.n-Cm l
noncomputable def Dh (l:List DVal):List Int:=if typeOf l≠1 then [] else FH (Cm l)++(DL (offsets l)::Eg (offsets l) (DL (offsets l)))
def raised (base:Int) (l:List Int):Option (List DVal):=
 if(-1000000000≤base∧base≤1000000000)∧∀ x∈l,(0≤x∧x≤2000000000)∧base+x≤1000000000 then some (l.map fun x=>⟨1,base+x,ByteArray.empty⟩) else none
theorem QN {base:Int} {o:List Int} {l:List DVal} (h:raised base o=some l):l.length=o.length:=by
 unfold raised at h
 grind
noncomputable def Eh (b:List Int) (k:Int):Option (List DVal):=match BX b 0 with
 | none=>none
 | some (base,p)=>match b[p]? with
  | none=>none
  | some w=>if 1≤k∧k≤64 then match unpack (b.drop (p+1)) w k with
    | none=>none
    | some o=>match raised base o with
     | none=>none
     | some l=>if Dh l=b then some l else none
   else none
noncomputable def I4 (b:List Int) (k:Int):Option (List DVal):=match BX b 0 with
 | none=>none
 | some (base,p)=>match b[p]? with
  | none=>none
  | some w=>match unpack (b.drop (p+1)) w k with
    | none=>none
    | some o=>again b k ((raised base o).getD []) (Dh ((raised base o).getD []))
theorem Yf (b:List Int) (k:Int):I4 b k=Eh b k:=by
 unfold I4 Eh
 cases hn:BX b 0 with
 | none=>rfl
 | some x =>
  obtain⟨base,p⟩:=x
  dsimp only
  cases hw:b[p]? with
  | none=>rfl
  | some w =>
   dsimp only
   cases hu:unpack (b.drop (p+1)) w k with
   | none=>simp
   | some o =>
    have hol:=Nu hu
    dsimp only
    by_cases h2:1≤k∧k≤64
    ·rw[bu h2]
     cases hp:raised base o with
     | none =>
      simp only[xY,again]
      grind
     | some l =>
      have:=QN hp
      simp only[aI,again]
      grind
    ·rw[aZ h2]
     unfold again
     grind
theorem AEn:∀ l:List UInt8,Op.bytesLess l l=false
 | []=>rfl
 | x::l=>by simp[Op.bytesLess,AEn l]
theorem wo:∀ {a b c:List UInt8},Op.bytesLess a b=true→Op.bytesLess b c=true→Op.bytesLess a c=true
 | [],[],_,h,_=>AOh
 | [],_::_,[],_,h=>by simp[Op.bytesLess] at h
 | [],_::_,_::_,_,_=>by simp[Op.bytesLess]
 | _::_,[],_,h,_=>by simp[Op.bytesLess] at h
 | _::_,_::_,[],_,h=>by simp[Op.bytesLess] at h
 | x::a,y::b,z::c,h1,h2=>by
  simp only[Op.bytesLess,qw,ay,bf,ZE] at h1 h2 ⊢
  rcases h1 with h1 | ⟨rfl,h1⟩
  ·grind
  ·rcases h2 with h2 | ⟨rfl,h2⟩
   ·exact .inl h2
   ·exact .inr ⟨rfl,wo h1 h2⟩
theorem AEo:∀ (a b:List UInt8),Op.bytesLess a b=true∨a=b∨Op.bytesLess b a=true
 | [],[]=>.inr (.inl rfl)
 | [],_::_=>.inl (by simp[Op.bytesLess])
 | _::_,[]=>.inr (.inr (by simp[Op.bytesLess]))
 | x::a,y::b=>by
  simp only[Op.bytesLess,qw,ay,bf,ZE,List.cons.injEq]
  have ht:x<y∨x=y∨y<x:=by
   rcases Nat.lt_trichotomy x.toNat y.toNat with h | h | h
   ·grind
   ·grind
   ·grind
  rcases ht with h | rfl | h
  ·grind
  ·rcases AEo a b with h | rfl | h
   ·grind
   ·grind
   grind
  grind
theorem AAE {s t:ByteArray} (h:s.toList=t.toList):s=t:=by
 rw[ByteArray.toList_eq,ByteArray.toList_eq] at h
 obtain⟨⟨x⟩⟩:=s
 simp_all
theorem TM (a b:DVal):FV a b=true↔a.ty<b.ty∨(a.ty=b.ty∧(a.n<b.n∨(a.n=b.n∧Op.bytesLess a.s.toList b.s.toList=true))):=by
 unfold FV
 grind
theorem LK (a b:DVal):NM a b=true↔a=b:=by
 unfold NM
 simp only[ay,ZE]
 constructor
 ·rintro⟨h1,h2,h3⟩
  cases a; cases b
  grind [AAE]
 grind
theorem Xh (a:DVal):FV a a=false:=by
 grind [TM,AEn]
theorem OX {a b c:DVal} (h1:FV a b=true) (h2:FV b c=true):FV a c=true:=by
 grind [TM,wo]
theorem TN (a b:DVal):FV a b=true∨a=b∨FV b a=true:=by
 rw[← LK,TM,TM]
 unfold NM
 grind [Int.lt_trichotomy,AEo]
def KA (l:List DVal):Prop:=l.Pairwise fun a b=>FV a b=true
theorem qU (v x:DVal):∀ d:List DVal,x∈ins v d↔x=v∨x∈d
 | []=>by simp[ins]
 | y::r=>by
  simp only[ins]
  split
  ·simp only[dh,qU v x r]
   grind
  grind [LK]
theorem iH (v:DVal):∀ d:List DVal,KA d→KA (ins v d)
 | [],_=>by simp[ins,KA]
 | y::r,h=>by
  obtain⟨h1,h2⟩:=abA.1 h
  simp only[ins]
  split
  ·rename_i hl
   refine abA.2 ⟨fun z hz=>?_,iH v r h2⟩
   grind [qU]
  ·rename_i hl
   split
   ·exact h
   ·rename_i he
    have hv:FV v y=true:=by
     rcases TN v y with g | g | g
     ·exact g
     ·grind [LK]
     ·grind
    refine abA.2 ⟨fun z hz=>?_,h⟩
    grind [OX]
theorem wu (l:List DVal):KA (DN l):=by
 have key:∀ (l d:List DVal),KA d→KA (l.foldl (fun d v=>ins v d) d):=by
  intro l
  induction l with
  | nil=>grind
  | cons v l ih=>grind [iH]
 exact key l [] List.Pairwise.nil
theorem Lr (l:List DVal) (x:DVal):x∈DN l↔x∈l:=by
 have key:∀ (l d:List DVal),x∈l.foldl (fun d v=>ins v d) d↔x∈l∨x∈d:=by
  intro l
  induction l with
  | nil=>intro d; simp
  | cons v l ih =>
   grind [qU]
 simpa [DN] using key l []
theorem lX:∀ {a b:List DVal},KA a→KA b→(∀ x,x∈a↔x∈b)→a=b
 | [],[],_,_,_=>rfl
 | [],y::b,_,_,h=>by have:=(h y).2 AOi; simp at this
 | x::a,[],_,_,h=>by have:=(h x).1 AOi; simp at this
 | x::a,y::b,ha,hb,h=>by
  obtain⟨a1,a2⟩:=abA.1 ha
  obtain⟨b1,b2⟩:=abA.1 hb
  have hxy:x=y:=by
   rcases dh.1 ((h x).1 AOi) with g | g
   ·exact g
   ·rcases dh.1 ((h y).2 AOi) with k | k
    ·exact k.symm
    grind [OX,Xh]
  subst hxy
  have:a=b:=lX a2 b2 fun z=>by
   grind [Xh]
  rw[this]
open Go.Lib
def EJ (v:DVal):List Value:=[.int .i64 v.ty,.int .i64 v.n,.string v.s]
instance:Inhabited DVal:=⟨⟨0,0,ByteArray.empty⟩⟩
instance:DecidableEq DVal:=fun a b=>decidable_of_iff (NM a b=true) (LK a b)
theorem AAF (d:Array DVal) (x:DVal):∀ m,x∈compactUpTo d m↔∃ j,j<m∧d[j]! = x
 | 0=>by simp[compactUpTo]
 | m+1=>by
  rw[compactUpTo_succ,aaY,AAF d x m]
  constructor
  ·grind
  ·rintro⟨j,hj,h⟩
   by_cases e:j=m
   ·subst e
    rcases hk:keeps d j with _ | _
    ·left
     have h0:¬ (j=0∨d[j]!≠d[j-1]!):=by simpa [keeps] using hk
     grind
    grind
   grind
theorem lY (d:Array DVal) (hs:∀ i j,i<j→j<d.size→FV d[j]! d[i]! = false):∀ m,m≤d.size→KA (compactUpTo d m)
 | 0,_=>by simp[compactUpTo,KA]
 | m+1,hm=>by
  rw[compactUpTo_succ]
  have ih:=lY d hs m AOh
  rcases hk:keeps d m with _ | _
  ·grind
  ·unfold KA
   simp only[aX]
   rw[List.pairwise_append]
   refine⟨ih,AOi,fun x hx y hy=>?_⟩
   rw[abj.1 hy]
   obtain⟨j,hj,rfl⟩:=(AAF d x m).1 hx
   have h1:=hs j m hj AOh
   rcases TN d[j]! d[m]! with h | h | h
   ·exact h
   ·exfalso
    have h0:m=0∨d[m]!≠d[m-1]!:=by simpa [keeps] using hk
    rcases h0 with h0 | h0
    ·omega
    ·apply h0
     rcases bQ j (m-1) with h4 | h4
     ·grind [TN]
     grind
   grind
theorem AGF {l:List DVal} {d:Array DVal} (hp:Go.Sort.PermIn 0 l.length l.toArray d) (hs:∀ i j,i<j→j<d.size→FV d[j]! d[i]! = false):compactUpTo d d.size=DN l:=by
 refine lX (lY d hs _ (aT _)) (wu l) fun x=>?_
 rw[Lr,AAF]
 obtain⟨h1,_,h3⟩:=hp
 grind [abo]
theorem AID (op:BinOp) (a b:Operand) (x y:DVal) (w:World):Sem.run prog (eqGuard op 64 a b (.agg (EJ x).toArray) (.agg (EJ y).toArray)) w = .ok () w:=by
 have hg:prog.eqGuardType prog.depth 64=false:=AQE
 simp[eqGuard,run_program,hg]
theorem eqB (x y:DVal) (w:World):Sem.run prog (binOp .eql 64 (.agg (EJ x).toArray) (.agg (EJ y).toArray)) w = .ok (.bool (NM x y)) w∧Sem.run prog (binOp .neq 64 (.agg (EJ x).toArray) (.agg (EJ y).toArray)) w = .ok (.bool (!NM x y)) w:=by
 have h:=uZ (P:=prog) (w:=w) (T:=64) (ks:=[.int .i64,.int .i64,.str]) (cs:=x.c) (ds:=y.c) (r:=NM x y) (us:=EJ x) (vs:=EJ y) AQE (by simp[DVal.c_eq,EP,IG,NM]) (fun k c hk=>by
  match k with
  | 0 | 1 | 2=>cases hk; rfl
  | k+3=>simp[DVal.c_eq] at hk) (fun k c hk=>by
  match k with
  | 0 | 1 | 2=>cases hk; rfl
  | k+3=>simp[DVal.c_eq] at hk) (x:=.tmp 0) (y:=.tmp 0)
 grind [Sem.run_bind,AID,Result.andThen_ok]
theorem ABR (x y:DVal):decide (x=y)=NM x y:=by
 grind [aaL,LK]
theorem ALT (x y:DVal) (w:World):Sem.run prog (binOp .eql 64 (.agg (EJ x).toArray) (.agg (EJ y).toArray)) w = .ok (.bool (decide (x=y))) w:=by rw[ABR]; exact(eqB x y w).1
theorem ALU (x y:DVal) (w:World):Sem.run prog (binOp .neq 64 (.agg (EJ x).toArray) (.agg (EJ y).toArray)) w = .ok (.bool (!decide (x=y))) w:=by rw[ABR]; exact(eqB x y w).2
open Go.Proofs Go.Shelf Go.RowKit Go.Sort
theorem ABS (x y:DVal) (W:World):Calls prog 466 #[.agg #[.int .i64 x.ty,.int .i64 x.n,.string x.s],.agg #[.int .i64 y.ty,.int .i64 y.n,.string y.s]] W fun e w'=>e = .returned (.bool (FV x y))∧∃ q os',w'=grow (W.drewN q) os':=by
 obtain⟨xt,xn,xs⟩:=x
 obtain⟨yt,yn,ys⟩:=y
 have hr:FV ⟨xt,xn,xs⟩ ⟨yt,yn,ys⟩=if xt=yt then(if xn=yn then Op.bytesLess xs.toList ys.toList else decide (xn<yn)) else decide (xt<yt):=by
  simp only[FV]
  by_cases h1:xt=yt<;>by_cases h2:xn=yn<;>simp[h1,h2]
 by_cases h1:xt=yt
 ·subst h1
  by_cases h2:xn=yn
  ·subst h2
   rw[hr,bu rfl,bu rfl]
   exact ALt
  ·rw[hr,bu rfl,aZ h2]
   exact ALt
 ·rw[hr,aZ h1]
  exact ALt
theorem iI (w:World) (os:Array Obj):∀ n,(grow w os).drewN n=grow (w.drewN n) os
 | 0=>rfl
 | n+1=>by
  show ((grow w os).drewN n).drew=_
  rw[iI w os n]; rfl
theorem Y5 (w:World) (os os':Array Obj) (n:Nat):grow ((grow w os).drewN n) os'=grow (w.drewN n) (os++os'):=by rw[iI,grow_grow]
theorem Dy {W w':World} {A B:Array Value} {T:TypeId} (hw:∃ q os',w'=grow (((W.alloc (.cells A T)).alloc (.cells B T)).drewN q) os') (j:Nat) (v:Value) :
  (A[j]?=some v→w'.cell? ⟨W.heap.size,j,none⟩=some v)∧(B[j]?=some v→w'.cell? ⟨W.heap.size+1,j,none⟩=some v):=by
 obtain⟨q,os',rfl⟩:=hw
 have s1:(W.alloc (.cells A T)).heap.size=W.heap.size+1:=by show (W.heap.push _).size=_; simp
 have s2:((W.alloc (.cells A T)).alloc (.cells B T)).heap.size=W.heap.size+2:=by show ((W.heap.push _).push _).size=_; simp
 constructor
 ·intro h
  rw[Go.Sort.cell?_grow _ _ _ (by rw[World.heap_drewN,s2]; simp),World.cell?_drewN,alloc_eq_grow (W.alloc _),Go.Sort.cell?_grow _ _ _ (by rw[s1]; simp)]
  show (match (W.heap.push (Obj.cells A T))[W.heap.size]? with | some (.cells cs _ _)=>cs[j]? | _=>none)=some v
  simp[h]
 ·intro h
  rw[Go.Sort.cell?_grow _ _ _ (by rw[World.heap_drewN,s2]; simp),World.cell?_drewN,← s1]
  generalize W.alloc (.cells A T)=W1
  show (match (W1.heap.push (Obj.cells B T))[W1.heap.size]? with | some (.cells cs _ _)=>cs[j]? | _=>none)=some v
  simp[h]
theorem Ls {w0 w1 w2:World} (h1:∃ q os,w1=Go.Sort.grow (w0.drewN q) os) (h2:∃ q os,w2=Go.Sort.grow (w1.drewN q) os):∃ q os,w2=Go.Sort.grow (w0.drewN q) os:=by
 obtain⟨q1,o1,rfl⟩:=h1
 obtain⟨q2,o2,rfl⟩:=h2
 exact⟨q1+q2,o1++o2,by rw[Y5,World.drewN_drewN]⟩
theorem Xi (W:World) (A B:Obj):∃ q os,(W.alloc A).alloc B=Go.Sort.grow (W.drewN q) os:=⟨0,#[A] ++ #[B],by rw[alloc_eq_grow,alloc_eq_grow,grow_grow]; rfl⟩
def AAG (x y:DVal):Int:=if FV x y=true then -1 else if FV y x=true then 1 else 0
theorem AIE (x y:DVal) (W:World):Calls prog 459 #[.agg #[.int .i64 x.ty,.int .i64 x.n,.string x.s],.agg #[.int .i64 y.ty,.int .i64 y.n,.string y.s]] W fun e w'=>e = .returned (.int .i64 (AAG x y))∧∃ q os',w'=grow (W.drewN q) os':=by
 have h1:=ABS x y
 have h2:=ABS y x
 unfold AAG
 generalize FV x y=a at h1 ⊢
 generalize FV y x=b at h2 ⊢
 obtain⟨xt,xn,xs⟩:=x
 obtain⟨yt,yn,ys⟩:=y
 cases a with
 | true =>
  simp only[aX]
  go_enter func459,ntmps459
  go_wp2_with (go_at_call 466; first | (have hm:=HW.out; clear hm; refine(h2 _).mono ?_; rintro e w' ⟨rfl,hw2⟩) | (refine(h1 _).mono ?_; rintro e w' ⟨rfl,hw⟩; have c0:=(Dy hw 0 (.int .i64 xt)).1 rfl; have c1:=(Dy hw 1 (.int .i64 xn)).1 rfl; have c2:=(Dy hw 2 (.string xs)).1 rfl; have d0:=(Dy hw 0 (.int .i64 yt)).2 rfl; have d1:=(Dy hw 1 (.int .i64 yn)).2 rfl; have d2:=(Dy hw 2 (.string ys)).2 rfl; have HW:Aside _:=hw; clear hw))
  go_ret
  exact⟨rfl,Ls (Xi _ _ _) HW⟩
 | false =>
  cases b with
  | true =>
   simp only[aX,aW,aC]
   go_enter func459,ntmps459
   go_wp2_with (go_at_call 466; first | (have hm:=HW.out; clear hm; refine(h2 _).mono ?_; rintro e w' ⟨rfl,hw2⟩) | (refine(h1 _).mono ?_; rintro e w' ⟨rfl,hw⟩; have c0:=(Dy hw 0 (.int .i64 xt)).1 rfl; have c1:=(Dy hw 1 (.int .i64 xn)).1 rfl; have c2:=(Dy hw 2 (.string xs)).1 rfl; have d0:=(Dy hw 0 (.int .i64 yt)).2 rfl; have d1:=(Dy hw 1 (.int .i64 yn)).2 rfl; have d2:=(Dy hw 2 (.string ys)).2 rfl; have HW:Aside _:=hw; clear hw))
   go_ret
   exact⟨rfl,Ls (Ls (Xi _ _ _) HW) hw2⟩
  | false =>
   simp only[aW,aC]
   go_enter func459,ntmps459
   go_wp2_with (go_at_call 466; first | (have hm:=HW.out; clear hm; refine(h2 _).mono ?_; rintro e w' ⟨rfl,hw2⟩) | (refine(h1 _).mono ?_; rintro e w' ⟨rfl,hw⟩; have c0:=(Dy hw 0 (.int .i64 xt)).1 rfl; have c1:=(Dy hw 1 (.int .i64 xn)).1 rfl; have c2:=(Dy hw 2 (.string xs)).1 rfl; have d0:=(Dy hw 0 (.int .i64 yt)).2 rfl; have d1:=(Dy hw 1 (.int .i64 yn)).2 rfl; have d2:=(Dy hw 2 (.string ys)).2 rfl; have HW:Aside _:=hw; clear hw))
   go_ret
   exact⟨rfl,Ls (Ls (Xi _ _ _) HW) hw2⟩
theorem WF (x y:DVal):ltOf AAG x y=FV x y:=by
 unfold ltOf AAG
 by_cases h1:FV x y=true
 ·simp[h1]
 ·by_cases h2:FV y x=true<;>simp[h1,h2]
theorem ALV:SWO (ltOf AAG) where
 irrefl x:=by rw[WF]; exact Xh x
 trans x y z h1 h2:=by rw[WF] at *; exact OX h1 h2
 ntrans x y z h1 h2:=by
  rw[WF] at *
  rw[abr] at *
  intro h3
  rcases TN x y with h | h | h
  ·exact h1 h
  ·subst h; exact h2 h3
  ·exact h2 (OX h h3)
theorem AGG (blk off size:Nat) (w:World):CmpLays prog 459 #[] EJ 3 AAG blk off size w:=fun _ _ _ _ x y=>AIE x y _
def ww:Go.Shelf.Ren:=⟨fun | 6=>458 | 15=>454 | 14=>471 | 28=>469 | 29=>470 | 20=>479 | 21=>480 | 22=>481 | 23=>482 | 24=>483 | 25=>484 | 26=>485 | 27=>486 | 46=>487 | 47=>488 | 48=>489 | 49=>490 | 50=>491 | 57=>492 | n=>n,fun | 22=>62 | 24=>64 | 25=>339 | 3=>3 | 39=>336 | 0=>0 | 53=>343 | 55=>345 | 4=>4 | 46=>351 | 45=>350 | 50=>212 | 5=>5 | 9=>9 | 66=>356 | 70=>360 | 76=>362 | 77=>178 | n=>n,fun n=>n⟩
theorem ABT:SlLaysF0.n6 prog ww where
 mixed:=AQE
 f6:=⟨f458.name,bZ AQE,func458.trans (congrArg some AQE)⟩
 f14:=⟨f471.name,bZ AQE,func471.trans (congrArg some AQE)⟩
 f15:=func454.trans (congrArg some AQE)
 f20:=⟨f479.name,bZ AQE,func479.trans (congrArg some AQE)⟩
 f21:=⟨f480.name,bZ AQE,func480.trans (congrArg some AQE)⟩
 f22:=⟨f481.name,bZ AQE,func481.trans (congrArg some AQE)⟩
 f23:=⟨f482.name,bZ AQE,func482.trans (congrArg some AQE)⟩
 f24:=⟨f483.name,bZ AQE,func483.trans (congrArg some AQE)⟩
 f25:=⟨f484.name,bZ AQE,func484.trans (congrArg some AQE)⟩
 f26:=⟨f485.name,bZ AQE,func485.trans (congrArg some AQE)⟩
 f27:=⟨f486.name,bZ AQE,func486.trans (congrArg some AQE)⟩
 f28:=func469.trans (congrArg some AQE)
 f29:=func470.trans (congrArg some AQE)
 f46:=⟨f487.name,bZ AQE,func487.trans (congrArg some AQE)⟩
 f47:=func488.trans (congrArg some AQE)
 f48:=func489.trans (congrArg some AQE)
 f49:=⟨f490.name,bZ AQE,func490.trans (congrArg some AQE)⟩
 f50:=⟨f491.name,bZ AQE,func491.trans (congrArg some AQE)⟩
 f57:=⟨f492.name,bZ AQE,func492.trans (congrArg some AQE)⟩
 t0:=underlying0
 a0:=isAgg0
 z0:=sizeOf0
 v0:=zeroValue0
 t3:=underlying3
 a3:=isAgg3
 z3:=sizeOf3
 v3:=zeroValue3
 t4:=underlying4
 a4:=isAgg4
 z4:=sizeOf4
 v4:=zeroValue4
 t5:=underlying5
 a5:=isAgg5
 z5:=sizeOf5
 v5:=zeroValue5
 t9:=underlying9
 a9:=isAgg9
 z9:=sizeOf9
 v9:=zeroValue9
 t22:=underlying62
 a22:=isAgg62
 z22:=sizeOf62
 v22:=zeroValue62
 t25:=underlying339
 a25:=isAgg339
 z25:=sizeOf339
 v25:=zeroValue339
 t39:=underlying336
 a39:=isAgg336
 z39:=sizeOf336
 v39:=zeroValue336
 t45:=underlying350
 a45:=isAgg350
 z45:=sizeOf350
 v45:=zeroValue350
 t46:=underlying351
 a46:=isAgg351
 z46:=sizeOf351
 v46:=zeroValue351
 t50:=underlying212
 a50:=isAgg212
 z50:=sizeOf212
 v50:=zeroValue212
 t53:=underlying343
 a53:=isAgg343
 z53:=sizeOf343
 v53:=zeroValue343
 t55:=underlying345
 a55:=isAgg345
 z55:=sizeOf345
 v55:=zeroValue345
 t66:=underlying356
 a66:=isAgg356
 z66:=sizeOf356
 v66:=zeroValue356
 t70:=underlying360
 a70:=isAgg360
 z70:=sizeOf360
 v70:=zeroValue360
 t76:=underlying362
 a76:=isAgg362
 z76:=sizeOf362
 v76:=zeroValue362
 t77:=underlying178
 a77:=isAgg178
 z77:=sizeOf178
 v77:=zeroValue178
end Go.Proofs.YtnoldekcdlaahaaGreat
