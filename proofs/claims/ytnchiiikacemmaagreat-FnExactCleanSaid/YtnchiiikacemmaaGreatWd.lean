/- A part. -/
import Derived.Test.YtnchiiikacemmaaGreatYa
import Derived.Test.YtnchiiikacemmaaGreatYt
import Derived.Test.YtnchiiikacemmaaGreatWb
set_option linter.unusedSimpArgs false
set_option linter.unusedVariables false
set_option maxHeartbeats 2000000
set_option maxRecDepth 10000
open Go.Proofs.Tryz
namespace Go.Proofs.YtnchiiikacemmaaGreat
open Go.Vm
theorem fC:∀ f:Nat,FV f 0=0
 | 0=>rfl
 | f+1=>by rw[FV,aV (by omega)]
theorem IK (n:Int):Ctr prog 280 [.c (.v (.int .i64 (n)))] [.val (.c (.v (.int .i64 (Ai n))))]:=by
 refine CM call280 func280 ntmps280 results280 fun hw=>?_
 simp only[go_sem]
 refine CallK.mk _ (AL _ _ _) fun _=>?_
 rcases h:Ac n 0 2147483647 with _ | _
 ·have:¬ (0≤n∧n≤2147483647):=by simp[Ac] at h; omega
  simp only[go_sem,Ai,aV this]
 have hn:0≤n∧n≤2147483647:=by simp[Ac] at h; omega
 simp only[go_sem,Ai,aX hn]
 refine LoopU.mk 0 (A:=Nat×Int×Int) (fun x=>[(4,.c (.v (.int .i64 (x.2.1)))),(3,.c (.v (.int .i64 (x.2.2))))]) (fun _=>[]) (fun x=>0≤x.2.1∧x.2.1<2 ^ x.1∧x.1≤32∧0≤x.2.2∧x.2.2+x.1≤32∧x.2.2+FV x.1 x.2.1=FV 32 n) (fun x=>x.1) (32,n,0) ⟨⟨rfl,rfl⟩,rfl,by simp only; omega,by simp only; omega,by simp only; omega,by simp only; omega,by simp only; omega,by simp⟩ ?_
 rintro⟨f,x,c⟩ ⟨hx0,hx1,hf,hc0,hc1,hb⟩
 dsimp only at hx0 hx1 hf hc0 hc1 hb
 simp only[go_sem]
 refine cndC.mk (fun h=>?_) (fun h=>?_)
 ·have h':x>0:=by simpa using h
  cases f with
  | zero=>simp at hx1; omega
  | succ f =>
  have hxx:x<4294967296:=by
   have:(2:Int) ^ (f+1)≤2 ^ 32:=by exact_mod_cast aaB (by omega) (by omega)
   omega
  rw[FV,aX h'] at hb
  have e1:IntKind.i64.wrap (x.tdiv 2)=x/2:=by rw[cu (by omega),wrap_i64 (by omega) (by omega)]
  simp only[go_sem,e1,wrap_i64 (n:=c+1) (by omega) (by omega)]
  exact⟨(f,x/2,c+1),⟨rfl,rfl⟩,rfl,⟨by simp only; omega,by simp only; rw[ww] at hx1; omega,by simp only; omega,by simp only; omega,by simp only; omega,by simp only; omega⟩,by simp only; omega⟩
 ·have h':x=0:=by simp at h; omega
  subst h'
  rw[fC] at hb
  simp only[go_sem]
  rw[← hb]; simp
theorem PY:∀ (f:Nat) (x:Int),0≤FV f x
 | 0,_=>abD _
 | f+1,x=>by
  have:=PY f (x/2)
  rw[FV]
  split<;>omega
theorem QS:∀ (f g:Nat) (x:Int),x<2 ^ f→FV (f+g) x=FV f x
 | 0,g,x,h=>by
  have h':¬ x>0:=by simp at h; omega
  cases g with
  | zero=>rfl
  | succ g=>rw[oJ]; show FV (g+1) x=0; rw[FV,aV h']
 | f+1,g,x,h=>by
  rw[show f+1+g=(f+g)+1 by omega,FV,FV]
  split
  ·rw[QS f g (x/2) (by rw[ww] at h; omega)]
  ·rfl
theorem XW (f:Nat):∀ (s:Nat) (x:Int),x≥2 ^ s→FV (f+s) x=FV f (x/2 ^ s)+s
 | 0,x,h=>by simp
 | s+1,x,h=>by
  have hp:(0:Int)<2 ^ s:=Int.pow_pos (by omega)
  rw[ww] at h
  rw[show f+(s+1)=(f+s)+1 by omega,FV,aX (by omega),XW f s (x/2) (by omega),Int.ediv_ediv_of_nonneg (by omega),ww,Int.mul_comm 2]
  omega
theorem jr (T:ByteArray) (hs:T.size=256) (h:(List.range 256).all (fun y=>(T.data.toList.getD y 0).toNat==(FV 8 (y:Int)).toNat)=true) (y:Nat) (hy:y<256):∃ c:UInt8,T[y]?=some c∧(c.toNat:Int)=FV 8 y:=by
 have h1:=aG.1 h y (aa2.2 hy)
 have hlt:y<T.size:=by omega
 refine⟨T[y],getElem?_pos T y hlt, ?_⟩
 have h2:T.data.toList.getD y 0=T[y]:=by
  rw[List.getD_eq_getElem?_getD,abn,getElem?_pos T.data y hlt]; rfl
 rw[h2] at h1
 simp only[Zi] at h1
 have:=PY 8 (y:Int)
 omega
@[go_sem] theorem AIW:((8:Int)<0)=False:=by simp
@[go_sem] theorem AIM:((16:Int)<0)=False:=by simp
@[go_sem] theorem AIN:Int.toNat 8=8:=rfl
@[go_sem] theorem AH1:Int.toNat 16=16:=rfl
@[go_sem] theorem m8:min 8 64=8:=rfl
@[go_sem] theorem m16:min 16 64=16:=rfl
theorem wrap_u64 {n:Int} (h:0≤n) (h2:n<18446744073709551616):IntKind.u64.wrap n=n:=JS (by
 simp only[Lit.wf,ax,aY]
 simp[IntKind.min,IntKind.max,IntKind.bits,IntKind.signed]
 omega)
theorem uk (x:Nat) (h0:1≤x) (h:x<2147483648):Ctr prog 329 [.c (.v (.int .u64 (x:Int)))] [.val (.c (.v (.int .i64 (FV 32 (x:Int)))))]:=by
 refine CM call329 func329 ntmps329 results329 fun hw=>?_
 have h1:decide ((x:Int)≥4294967296)=false:=by simp; omega
 have s8:IntKind.u64.wrap ((x:Int).fdiv (2 ^ 8))=((x/256:Nat):Int):=by rw[aaL _ (by omega),wrap_u64 (by omega) (by omega)]; omega
 have s16:IntKind.u64.wrap ((x:Int).fdiv (2 ^ 16))=((x/65536:Nat):Int):=by rw[aaL _ (by omega),wrap_u64 (by omega) (by omega)]; omega
 have s24:IntKind.u64.wrap ((((x/65536:Nat):Int)).fdiv (2 ^ 8))=((x/16777216:Nat):Int):=by rw[aaL _ (by omega),wrap_u64 (by omega) (by omega)]; omega
 have w8 (y:Nat) (hy:y<256):IntKind.u8.wrap (y:Int)=y:=wrap_u8 (by omega) (by omega)
 have hwl (y:Nat) (hy:y<256):0≤FV 8 (y:Int)∧FV 8 (y:Int)≤8:=by
  refine⟨PY _ _, ?_⟩
  have key:∀ (f:Nat) (x:Int),FV f x≤f:=by
   intro f
   induction f with
   | zero=>intro x; exact abD _
   | succ f ih=>intro x; have:=ih (x/2); rw[FV]; split<;>omega
  exact key 8 _
 rcases h2:decide ((x:Int)≥65536) with _ | _
 ·rcases h3:decide ((x:Int)≥256) with _ | _
  ·have hx:x<256:=by simp at h3; omega
   simp only[go_sem,h1,h2,h3,w8 x hx]
   generalize hT:(ByteArray.mk _)=T
   obtain⟨c,hc,hcn⟩:=jr T (by rw[← hT]; rfl) (by rw[← hT]; kernel_rfl) x hx
   have:=hwl x hx
   simp only[go_sem,hc,hcn]
   have e:FV 32 (x:Int)=FV 8 x:=QS 8 24 _ (by omega)
   simp only[Int.zero_add]
   rw[wrap_i64 (n:=FV 8 (x:Int)) (by omega) (by omega),wrap_i64 (by omega) (by omega),e]
  ·have hx:x/256<256:=by simp at h2; omega
   simp only[go_sem,h1,h2,h3,s8,w8 _ hx]
   generalize hT:(ByteArray.mk _)=T
   obtain⟨c,hc,hcn⟩:=jr T (by rw[← hT]; rfl) (by rw[← hT]; kernel_rfl) _ hx
   have:=hwl _ hx
   simp only[go_sem,hc,hcn]
   have e:FV 32 (x:Int)=FV 8 ((x/256:Nat):Int)+8:=by
    rw[show (32:Nat)=24+8 from rfl,XW 24 8 _ (by simp at h3; omega),show (x:Int)/2 ^ 8=((x/256:Nat):Int) by omega,show (24:Nat)=8+16 from rfl,QS 8 16 _ (by omega)]; rfl
   simp only[Int.zero_add]
   rw[wrap_i64 (n:=FV 8 _) (by omega) (by omega),wrap_i64 (n:=8) (by omega) (by omega),wrap_i64 (by omega) (by omega),e,Int.add_comm]
 ·rcases h3:decide (((x/65536:Nat):Int)≥256) with _ | _
  ·have hx:x/65536<256:=by simp at h3; omega
   simp only[go_sem,h1,h2,h3,s16,w8 _ hx]
   generalize hT:(ByteArray.mk _)=T
   obtain⟨c,hc,hcn⟩:=jr T (by rw[← hT]; rfl) (by rw[← hT]; kernel_rfl) _ hx
   have:=hwl _ hx
   simp only[go_sem,hc,hcn]
   have e:FV 32 (x:Int)=FV 8 ((x/65536:Nat):Int)+16:=by
    rw[show (32:Nat)=16+16 from rfl,XW 16 16 _ (by simp at h2; omega),show (x:Int)/2 ^ 16=((x/65536:Nat):Int) by omega,show (16:Nat)=8+8 from rfl,QS 8 8 _ (by omega)]; rfl
   simp only[Int.zero_add]
   rw[wrap_i64 (n:=FV 8 _) (by omega) (by omega),wrap_i64 (n:=16) (by omega) (by omega),wrap_i64 (by omega) (by omega),e,Int.add_comm]
  ·have hx:x/16777216<256:=by omega
   simp only[go_sem,h1,h2,h3,s16,s24,w8 _ hx]
   generalize hT:(ByteArray.mk _)=T
   obtain⟨c,hc,hcn⟩:=jr T (by rw[← hT]; rfl) (by rw[← hT]; kernel_rfl) _ hx
   have:=hwl _ hx
   simp only[go_sem,hc,hcn]
   have e:FV 32 (x:Int)=FV 8 ((x/16777216:Nat):Int)+24:=by
    rw[show (32:Nat)=8+24 from rfl,XW 8 24 _ (by simp at h3; omega),show (x:Int)/2 ^ 24=((x/16777216:Nat):Int) by omega]; rfl
   simp only[Int.zero_add]
   rw[wrap_i64 (n:=FV 8 _) (by omega) (by omega),wrap_i64 (n:=16) (by omega) (by omega),wrap_i64 (n:=16+8) (by omega) (by omega),wrap_i64 (by omega) (by omega),e,show (16:Int)+8=24 from rfl,Int.add_comm]
theorem ABv (x:Nat) (h0:1≤x) (h:x<2147483648):Ctr prog 317 [.c (.v (.int .u64 (x:Int)))] [.val (.c (.v (.int .i64 (FV 32 (x:Int)))))]:=by
 refine CM call317 func317 ntmps317 results317 fun hw=>?_
 simp only[go_sem]
 have e1:IntKind.u64.wrap (x:Int)=x:=JS (by simp only[Lit.wf,ax,aY]; simp[IntKind.min,IntKind.max,IntKind.bits,IntKind.signed]; omega)
 try simp only[e1]
 refine CallK.mk _ (uk x h0 h) fun _=>?_
 simp only[go_sem]
theorem Jd (n:Int):Ctr prog 293 [.c (.v (.int .i64 (n)))] [.val (.c (.v (.int .i64 (Ai n))))]:=by
 refine CM call293 func293 ntmps293 results293 fun hw=>?_
 simp only[go_sem]
 refine CallK.mk _ (AC _ _ _) fun _=>?_
 rcases h:Ac n 1 2147483647 with _ | _
 ·have:Ai n=0:=by
   unfold Ai
   split
   ·have:n=0:=by simp[Ac] at h; omega
    subst this
    exact fC _
   ·rfl
  simp only[go_sem,this]
 have hn:1≤n∧n≤2147483647:=by simp[Ac] at h; omega
 obtain⟨m,rfl⟩:=aP (show 0≤n by omega)
 have e1:IntKind.u64.wrap (m:Int)=m:=JS (by simp only[Lit.wf,ax,aY]; simp[IntKind.min,IntKind.max,IntKind.bits,IntKind.signed]; omega)
 simp only[go_sem,e1]
 refine CallK.mk _ (ABv m (by omega) (by omega)) fun _=>?_
 simp only[go_sem,Ai]
 rw[aX (by omega)]
theorem Yb (k w:Int):Ctr prog 315 [.c (.v (.int .i64 (k))),.c (.v (.int .i64 (w)))] [.val (.c (.v (.int .i64 (Ej k w))))]:=by
 refine CM call315 func315 ntmps315 results315 fun hw=>?_
 simp only[go_sem]
 refine CallK.mk _ (AC _ _ _) fun _=>?_
 rcases h:Ac k 0 64 with _ | _
 ·have:¬ ((0≤k∧k≤64)∧0≤w∧w≤31):=by simp[Ac] at h; omega
  simp only[go_sem,Ej,aV this]
 simp only[go_sem]
 refine CallK.mk _ (AC _ _ _) fun _=>?_
 rcases h2:Ac w 0 31 with _ | _
 ·have:¬ ((0≤k∧k≤64)∧0≤w∧w≤31):=by simp[Ac] at h2; omega
  simp only[go_sem,Ej,aV this]
 have hk:0≤k∧k≤64:=by simp[Ac] at h; omega
 have hw:0≤w∧w≤31:=by simp[Ac] at h2; omega
 have hm:0≤k*w:=aaZ hk.1 hw.1
 have hm2:k*w≤64*31:=Int.le_trans (aae hk.2 hw.1) (abb hw.2 (by omega))
 have e1:IntKind.i64.wrap (k*w)=k*w:=wrap_i64 (by omega) (by omega)
 have e2:IntKind.i64.wrap (k*w+7)=k*w+7:=wrap_i64 (by omega) (by omega)
 have e3:IntKind.i64.wrap ((k*w+7).tdiv 8)=(k*w+7)/8:=by rw[cu (by omega),wrap_i64 (by omega) (by omega)]
 simp only[go_sem,Ej,hk,hw,e1,e2,e3,and_self,aW]
theorem Yc (k w:Int):Ctr prog 304 [.c (.v (.int .i64 (k))),.c (.v (.int .i64 (w)))] [.val (.c (.v (.int .i64 (Ej k w))))]:=by
 refine CM call304 func304 ntmps304 results304 fun hw=>?_
 simp only[go_sem]
 refine CallK.mk _ (AL _ _ _) fun _=>?_
 rcases h:Ac k 0 64 with _ | _
 ·have:¬ ((0≤k∧k≤64)∧0≤w∧w≤31):=by simp[Ac] at h; omega
  simp only[go_sem,Ej,aV this]
 simp only[go_sem]
 refine CallK.mk _ (AL _ _ _) fun _=>?_
 rcases h2:Ac w 0 31 with _ | _
 ·have:¬ ((0≤k∧k≤64)∧0≤w∧w≤31):=by simp[Ac] at h2; omega
  simp only[go_sem,Ej,aV this]
 have hk:0≤k∧k≤64:=by simp[Ac] at h; omega
 have hw:0≤w∧w≤31:=by simp[Ac] at h2; omega
 have hm:0≤k*w:=aaZ hk.1 hw.1
 have hm2:k*w≤64*31:=Int.le_trans (aae hk.2 hw.1) (abb hw.2 (by omega))
 have e1:IntKind.i64.wrap (k*w)=k*w:=wrap_i64 (by omega) (by omega)
 have e2:IntKind.i64.wrap (k*w+7)=k*w+7:=wrap_i64 (by omega) (by omega)
 have e3:IntKind.i64.wrap ((k*w+7).tdiv 8)=(k*w+7)/8:=by rw[cu (by omega),wrap_i64 (by omega) (by omega)]
 simp only[go_sem,Ej,hk,hw,e1,e2,e3,and_self,aW]
theorem WG (b:List Int) (n:Int) (hb:AQ b) (hl:b.length≤1048576) (hn:n≤1000000000):Ctr prog 316 [.c (.sl (b.map byteC)),.c (.v (.int .i64 (n)))] [.val (.c (.v (.int .i64 (ET b n))))]:=by
 refine CM call316 func316 ntmps316 results316 fun hw=>?_
 rcases h0:decide (n<0) with _ | _
 rotate_left
 ·have:n<0:=by simpa using h0
  simp only[go_sem,h0,ET,aX this]
 have hn0:0≤n:=by simpa using h0
 obtain⟨m,rfl⟩:=aP hn0
 have e1:IntKind.i64.wrap ((m:Int).tdiv 8)=((m/8:Nat):Int):=by rw[cu (by omega),wrap_i64 (by omega) (by omega)]; omega
 have e2:IntKind.i64.wrap ((m:Int).tmod 8)=((m%8:Nat):Int):=by rw[aav (by omega),wrap_i64 (by omega) (by omega)]; omega
 have hba:ET b (m:Int)=match b[m/8]? with | some c=>c/2 ^ (m%8)%2 | none=>0:=by
  unfold ET
  rw[aV (by omega)]
  have q1:((m:Int)/8).toNat=m/8:=by omega
  have q2:((m:Int)%8).toNat=m%8:=by omega
  rw[q1,q2]
  rfl
 rw[hba]
 rcases h1:decide (((m/8:Nat):Int)≥(b.length:Int)) with _ | _
 rotate_left
 ·have:b.length≤m/8:=by simp at h1; omega
  simp only[go_sem,h1,e1,ae,bF this]
 have hlt:m/8<b.length:=by simp at h1; omega
 obtain⟨c0,c1⟩:=hb _ (aj hlt)
 rw[aA hlt]
 generalize hc:b[m/8]=c at c0 c1
 simp only[go_sem,h1,e1,e2,ae,AA _ hlt,hc]
 have hP:0≤c/2 ^ (m%8):=Int.ediv_nonneg (by omega) (zJ (by omega))
 have hP2:c/2 ^ (m%8)≤c:=Int.ediv_le_self _ (by omega)
 rw[aaL _ (zJ (by omega))]
 rw[show min (m%8) 8=m%8 by omega,wrap_u8 hP (by omega),AFI hP (by omega),wrap_u8 (by omega) (by omega),wrap_i64 (by omega) (by omega)]
theorem WH (b:List Int) (n:Int) (hb:AQ b) (hl:b.length≤1048576) (hn:n≤1000000000):Ctr prog 305 [.c (.sl (b.map byteC)),.c (.v (.int .i64 (n)))] [.val (.c (.v (.int .i64 (ET b n))))]:=by
 refine CM call305 func305 ntmps305 results305 fun hw=>?_
 rcases h0:decide (n<0) with _ | _
 rotate_left
 ·have:n<0:=by simpa using h0
  simp only[go_sem,h0,ET,aX this]
 have hn0:0≤n:=by simpa using h0
 obtain⟨m,rfl⟩:=aP hn0
 have e1:IntKind.i64.wrap ((m:Int).tdiv 8)=((m/8:Nat):Int):=by rw[cu (by omega),wrap_i64 (by omega) (by omega)]; omega
 have e2:IntKind.i64.wrap ((m:Int).tmod 8)=((m%8:Nat):Int):=by rw[aav (by omega),wrap_i64 (by omega) (by omega)]; omega
 have hba:ET b (m:Int)=match b[m/8]? with | some c=>c/2 ^ (m%8)%2 | none=>0:=by
  unfold ET
  rw[aV (by omega)]
  have q1:((m:Int)/8).toNat=m/8:=by omega
  have q2:((m:Int)%8).toNat=m%8:=by omega
  rw[q1,q2]
  rfl
 rw[hba]
 rcases h1:decide (((m/8:Nat):Int)≥(b.length:Int)) with _ | _
 rotate_left
 ·have:b.length≤m/8:=by simp at h1; omega
  simp only[go_sem,h1,e1,ae,bF this]
 have hlt:m/8<b.length:=by simp at h1; omega
 obtain⟨c0,c1⟩:=hb _ (aj hlt)
 rw[aA hlt]
 generalize hc:b[m/8]=c at c0 c1
 simp only[go_sem,h1,e1,e2,ae,AA _ hlt,hc]
 rw[wrap_i64 (n:=c) (by omega) (by omega)]
 have hP:0≤c/2 ^ (m%8):=Int.ediv_nonneg (by omega) (zJ (by omega))
 have hP2:c/2 ^ (m%8)≤c:=Int.ediv_le_self _ (by omega)
 rw[aaL _ (zJ (by omega))]
 rw[show min (m%8) 64=m%8 by omega,wrap_i64 (n:=c/2 ^ (m%8)) (by omega) (by omega),AEI hP (by omega),wrap_i64 (by omega) (by omega)]
theorem Yd (l:List Int) (hl:l.length≤1048576):Ctr prog 322 [.c (.sl (l.map intC))] [.val (.c (.v (.int .i64 (CJ l))))]:=by
 refine CM call322 func322 ntmps322 results322 fun hw=>?_
 simp only[go_sem,ae]
 refine LoopU.mk 0 (A:=Nat×Int) (fun x=>[(8,.c (.v (.int .i64 (x.1)))),(3,.c (.v (.int .i64 (x.2))))]) (fun _=>[]) (fun x=>x.1≤l.length∧(l.drop x.1).foldl (fun w n=>max w (Ai n)) x.2=CJ l) (fun x=>l.length-x.1) (0,0) ⟨⟨rfl,rfl⟩,rfl,ak _,rfl⟩ ?_
 rintro⟨i,w⟩ ⟨hi,hb⟩
 dsimp only at hi hb
 simp only[go_sem]
 refine cndC.mk (fun h=>?_) (fun h=>?_)
 ·have hi':i<l.length:=by simpa using h
  rw[aC hi',abj] at hb
  simp only[go_sem,AA _ hi']
  refine CallK.mk _ (Jd _) fun _=>?_
  simp only[go_sem,wrap_i64 (n:=(i:Int)+1) (by omega) (by omega)]
  have hm:(if w<Ai l[i] then Ai l[i] else w)=max w (Ai l[i]):=by split<;>omega
  exact⟨(i+1,if w<Ai l[i] then Ai l[i] else w),⟨rfl,rfl⟩,rfl,⟨hi',by simp only; rw[hm]; exact hb⟩,by simp only; omega⟩
 ·have hi':i=l.length:=by simp at h; omega
  subst hi'
  rw[aO] at hb
  simp only[go_sem]
  rw[← hb]; rfl
theorem Ye (l:List Int) (hl:l.length≤1048576):Ctr prog 310 [.c (.sl (l.map intC))] [.val (.c (.v (.int .i64 (CJ l))))]:=by
 refine CM call310 func310 ntmps310 results310 fun hw=>?_
 simp only[go_sem]
 refine LoopU.mk 0 (A:=Nat×Int) (fun x=>[(4,.c (.v (.int .i64 (x.1)))),(3,.c (.v (.int .i64 (x.2))))]) (fun _=>[]) (fun x=>x.1≤l.length∧(l.drop x.1).foldl (fun w n=>max w (Ai n)) x.2=CJ l) (fun x=>l.length-x.1) (0,0) ⟨⟨rfl,rfl⟩,rfl,ak _,rfl⟩ ?_
 rintro⟨i,w⟩ ⟨hi,hb⟩
 dsimp only at hi hb
 simp only[go_sem,ae]
 refine cndC.mk (fun h=>?_) (fun h=>?_)
 ·have hi':i<l.length:=by simpa using h
  rw[aC hi',abj] at hb
  simp only[go_sem,AA _ hi']
  refine CallK.mk _ (IK _) fun _=>?_
  rcases h2:decide (Ai l[i]>w) with _ | _
  ·have h2':Ai l[i]≤w:=by simpa using h2
   simp only[go_sem,h2,wrap_i64 (n:=(i:Int)+1) (by omega) (by omega)]
   exact⟨(i+1,w),⟨rfl,rfl⟩,rfl,⟨hi',by simp only; rw[← hb,Int.max_eq_left h2']⟩,by simp only; omega⟩
  ·have h2':w≤Ai l[i]:=by simp at h2; omega
   simp only[go_sem,h2,AA _ hi']
   refine CallK.mk _ (IK _) fun _=>?_
   simp only[go_sem,wrap_i64 (n:=(i:Int)+1) (by omega) (by omega)]
   exact⟨(i+1,Ai l[i]),⟨rfl,rfl⟩,rfl,⟨hi',by simp only; rw[← hb,Int.max_eq_right h2']⟩,by simp only; omega⟩
 ·have hi':i=l.length:=by simp at h; omega
  subst hi'
  rw[aO] at hb
  simp only[go_sem]
  rw[← hb]; rfl
noncomputable def Dq (kind:Int) (l:List DVal):List Int:=if kind=0 then Dy l else if kind=1 then EZ l else if kind=2 then Df l else if kind=3 then CV l else []
noncomputable def bk1 (l:List DVal):Int:=if(Dq 1 l).length<(Dq 0 l).length then 1 else 0
noncomputable def bk2 (l:List DVal):Int:=if(Dq 2 l).length<(Dq (bk1 l) l).length then 2 else bk1 l
noncomputable def bk3 (l:List DVal):Int:=if typeOf l=1∧(Dq 3 l).length<(Dq (bk2 l) l).length then 3 else bk2 l
noncomputable def Ar (l:List DVal):Int:=if typeOf l=0 then -1 else bk3 l
noncomputable def Am (l:List DVal):List Int:=if Ar l<0 then [] else Ar l::Dq (Ar l) l
noncomputable def VC (b:List Int) (ty k:Int):Option (List DVal):=match b with
 | []=>none
 | c::r=>if c=0 then FD r ty k else if c=1 then Dt r ty k else if c=2 then Em r ty k else if c=3 then D5 r k else none
noncomputable def pz (b:List Int) (ty k:Int):Option (List DVal):=match b with
 | []=>none
 | c::r=>if c=0 then NJ r ty k else if c=1 then Dt r ty k else if c=2 then I9 r ty k else if c=3 then H5 r k else none
noncomputable def IA (b:List Int) (ty k:Int):Option (List DVal):=if 1≤ty∧ty≤2 then match VC b ty k with
  | none=>none
  | some l=>if typeOf l=ty∧Am l=b then some l else none
 else none
noncomputable def XX (b:List Int) (ty k:Int):Option (List DVal):=if b = [] then none else
 if typeOf ((pz b ty k).getD [])=ty then again b k ((pz b ty k).getD []) (Am ((pz b ty k).getD [])) else none
theorem xh {b:List Int} (hb:AQ b) (ty k:Int):pz b ty k=VC b ty k:=by
 cases b with
 | nil=>rfl
 | cons c r =>
  have hr:AQ r:=fun x hx=>hb x (by simp[hx])
  simp only[pz,VC,WF hr,Y_ hr,WR]
theorem ul {b:List Int} (hb:AQ b) {ty k:Int} {l:List DVal} (h:Dt b ty k=some l):(1≤k∧k≤64∧(l.length:Int)=k)∧typeOf l≠0:=by
 unfold Dt at h
 cases hn:BK b 0 with
 | none=>simp[hn] at h
 | some x =>
  obtain⟨n,p⟩:=x
  obtain⟨_,_,hne⟩:=UW hb hn
  simp only[hn] at h
  split at h
  ·split at h
   ·cases h
   ·obtain⟨h1,h2,h3,h4,h5⟩:=AAF h
    rw[h1]
    refine⟨⟨h2,h3,h4⟩,fun h0=>hne ?_⟩
    rw[h5,EZ,aX h0]
  ·cases h
theorem um {b:List Int} (hb:AQ b) {ty k:Int} {l:List DVal} (h:Em b ty k=some l):(1≤k∧k≤64∧(l.length:Int)=k)∧typeOf l≠0:=by
 unfold Em at h
 cases hn:BK b 0 with
 | none=>simp[hn] at h
 | some x =>
  obtain⟨n,p⟩:=x
  obtain⟨_,_,hne⟩:=UW hb hn
  simp only[hn] at h
  split at h
  ·rename_i hk
   split at h
   ·cases h
   ·split at h
    ·cases h
    ·rename_i o hu
     split at h
     ·cases h
     ·rename_i l' hp
      split at h
      ·rename_i he
       simp only[ah] at h
       subst h
       have h1:=LP hu
       have h2:=LQ hp
       refine⟨⟨hk.1.1,hk.1.2,by omega⟩,fun h0=>hne ?_⟩
       rw[← he,Df,aX h0]
      ·cases h
  ·cases h
theorem p_ {b:List Int} (hb:AQ b) {k:Int} {l:List DVal} (h:D5 b k=some l):(1≤k∧k≤64∧(l.length:Int)=k)∧typeOf l≠0:=by
 unfold D5 at h
 cases hn:BK b 0 with
 | none=>simp[hn] at h
 | some x =>
  obtain⟨n,p⟩:=x
  obtain⟨_,_,hne⟩:=UW hb hn
  simp only[hn] at h
  split at h
  ·cases h
  ·split at h
   ·rename_i hk
    split at h
    ·cases h
    ·rename_i o hu
     split at h
     ·cases h
     ·rename_i l' hp
      split at h
      ·rename_i he
       simp only[ah] at h
       subst h
       have h1:=LP hu
       have h2:=OT hp
       refine⟨⟨hk.1,hk.2,by omega⟩,fun h0=>hne ?_⟩
       rw[← he,CV,aX (by omega)]
      ·cases h
   ·cases h
theorem qA {b:List Int} (hb:AQ b) {ty k:Int} {l:List DVal} (h:FD b ty k=some l):typeOf l≠0:=by
 unfold FD at h
 split at h
 ·rename_i hk
  cases hv:Ba b ty k.toNat 0 with
  | none=>simp[hv] at h
  | some x =>
   obtain⟨l',q⟩:=x
   simp only[hv] at h
   split at h
   ·simp only[ah] at h
    subst h
    obtain⟨_,_,c3,c4,_⟩:=IZ hb k.toNat 0 _ q (ak _) hv
    have h0:0<l'.length:=by omega
    have hty:=(c4 _ (aj h0)).2.2
    rw[QR (ty:=ty) (by omega) (by omega) fun v hv=>⟨(c4 v hv).1,(c4 v hv).2.1⟩]
    omega
   ·cases h
 ·cases h
theorem Je {b:List Int} (hb:AQ b) {ty k:Int} {l:List DVal} (h:VC b ty k=some l):(1≤k∧k≤64∧(l.length:Int)=k)∧typeOf l≠0:=by
 cases b with
 | nil=>cases h
 | cons c r =>
  have hr:AQ r:=fun x hx=>hb x (by simp[hx])
  simp only[VC] at h
  split at h
  ·exact⟨pq hr h,qA hr h⟩
  ·split at h
   ·exact ul hr h
   ·split at h
    ·exact um hr h
    ·split at h
     ·exact p_ hr h
     ·cases h
theorem zx {b:List Int} (hb:AQ b) (ty k:Int):XX b ty k=IA b ty k:=by
 unfold XX IA
 rw[xh hb]
 by_cases h0:b = []
 ·rw[aX h0,h0]
  simp[VC]
 ·rw[aV h0]
  cases hd:VC b ty k with
  | none =>
   simp only[rV]
   have ht:typeOf []=0:=rfl
   rw[ht]
   unfold again
   by_cases h1:(0:Int)=ty
   ·rw[aX h1,aV (by simp only[oI]; omega)]
    split<;>rfl
   ·rw[aV h1]
    split<;>rfl
  | some l =>
   obtain⟨⟨k1,k2,k3⟩,k4⟩:=Je hb hd
   simp only[aS]
   by_cases h1:typeOf l=ty
   ·rw[aX h1,aX (by have:=AB6 l; omega)]
    unfold again
    by_cases h2:Am l=b
    ·rw[aX ⟨k1,k2,k3,h2.symm⟩,aX ⟨h1,h2⟩]
    ·rw[aV fun h3=>h2 h3.2.2.2.symm,aV fun h3=>h2 h3.2]
   ·rw[aV h1]
    split
    ·rw[aV fun h3=>h1 h3.1]
    ·rfl
theorem VD {b:List Int} (hb:AQ b) {ty k:Int} {l:List DVal} (h:IA b ty k=some l):(l.length:Int)=k∧typeOf l=ty∧Am l=b:=by
 unfold IA at h
 split at h
 ·cases hd:VC b ty k with
  | none=>simp[hd] at h
  | some l' =>
   simp only[hd] at h
   split at h
   ·rename_i he
    simp only[ah] at h
    subst h
    exact⟨(Je hb hd).1.2.2,he⟩
   ·cases h
 ·cases h
def G7 (b:List Int):Nat→Nat→Option (List Int×Nat)
 | 0,p=>some ([],p)
 | k+1,p=>match BK b p with
  | none=>none
  | some (n,q)=>(G7 b k q).map fun x=>(n::x.1,x.2)
def EY (b:List Int) (p:Int):Option (List Int×Nat):=match BK b p with
 | none=>none
 | some (k,q)=>if 0≤k∧k≤64 then G7 b k.toNat q else none
def Oh (l:List Int):List Int:=EO l.length++(l.map EO).flatten
theorem Yf {b:List Int} (hb:AQ b):∀ (k p:Nat) (l:List Int) (q:Nat),p≤b.length→G7 b k p=some (l,q) →
  p≤q∧q≤b.length∧l.length=k∧(b.drop p).take (q-p)=(l.map EO).flatten
 | 0,p,l,q,hp,h=>by
  simp only[G7,ah,bQ] at h
  obtain⟨rfl,rfl⟩:=h
  exact⟨aK _,hp,rfl,by simp⟩
 | k+1,p,l,q,hp,h=>by
  rw[G7] at h
  cases hv:BK b p with
  | none=>simp[hv] at h
  | some x =>
   obtain⟨v,m⟩:=x
   simp only[hv] at h
   cases hr:G7 b k m with
   | none=>simp[hr] at h
   | some y =>
    obtain⟨l',q'⟩:=y
    simp only[hr,bU,ah,bQ] at h
    obtain⟨rfl,rfl⟩:=h
    obtain⟨_,a2,a3,_,_,a6⟩:=Gq hb hv
    obtain⟨c1,c2,c3,c5⟩:=Yf hb k m l' q' a3 hr
    refine⟨by omega,c2,by simp[c3], ?_⟩
    rw[QP b (p:=p) (q:=m) (r:=q') (by omega) c1,c5]
    have:(b.drop p).take (m-p)=EO v:=by simpa using a6
    rw[this]; rfl
theorem Rq {b:List Int} (hb:AQ b) {l:List Int} {q:Nat} (h:EY b 0=some (l,q)):q≤b.length∧l.length≤64∧b.take q=Oh l:=by
 unfold EY at h
 cases hn:BK b 0 with
 | none=>simp[hn] at h
 | some x =>
  obtain⟨k,p⟩:=x
  simp only[hn] at h
  split at h
  ·rename_i hk
   obtain⟨_,a2,a3,_,_,a6⟩:=Gq hb hn
   obtain⟨c1,c2,c3,c5⟩:=Yf hb k.toNat p l q a3 h
   refine⟨c2,by omega, ?_⟩
   have e1:=QP b (p:=0) (q:=p) (r:=q) (ak _) c1
   simp only[aa7,aba] at e1
   have e2:b.take p=EO k:=by simpa using a6
   rw[e1,c5,e2,Oh,c3]
   congr 2
   omega
  ·cases h
noncomputable def Zz (l:List DVal):List Int:=EO (Am l).length++Am l
noncomputable def FX (b:List Int) (n:Nat):List Int→Nat→Option (List (List DVal)×Nat)
 | [],p=>some ([],p)
 | ty::r,p=>match BK b p with
  | none=>none
  | some (m,q)=>if 0≤m∧m≤(b.length:Int)-q then match IA ((b.drop q).take m.toNat) ty n with
    | none=>none
    | some l=>(FX b n r (q+m.toNat)).map fun x=>(l::x.1,x.2)
   else none
theorem Yg {b:List Int} (hb:AQ b) (n:Nat):∀ (cols:List Int) (p:Nat) (cs:List (List DVal)) (q:Nat),p≤b.length→FX b n cols p=some (cs,q) →
  p≤q∧q≤b.length∧cs.length=cols.length∧(∀ c∈cs,c.length=n)∧(b.drop p).take (q-p)=(cs.map Zz).flatten
 | [],p,cs,q,hp,h=>by
  simp only[FX,ah,bQ] at h
  obtain⟨rfl,rfl⟩:=h
  exact⟨aK _,hp,rfl,by simp,by simp⟩
 | ty::r,p,cs,q,hp,h=>by
  rw[FX] at h
  cases hv:BK b p with
  | none=>simp[hv] at h
  | some x =>
   obtain⟨m,q1⟩:=x
   simp only[hv] at h
   split at h
   ·rename_i hm
    cases hd:IA ((b.drop q1).take m.toNat) ty n with
    | none=>simp[hd] at h
    | some l =>
     simp only[hd] at h
     cases hr:FX b n r (q1+m.toNat) with
     | none=>simp[hr] at h
     | some y =>
      obtain⟨cs',q'⟩:=y
      simp only[hr,bU,ah,bQ] at h
      obtain⟨rfl,rfl⟩:=h
      obtain⟨_,a2,a3,_,_,a6⟩:=Gq hb hv
      obtain⟨d1,_,d3⟩:=VD (QQ hb _ _) hd
      obtain⟨c1,c2,c3,c4,c5⟩:=Yg hb n r (q1+m.toNat) cs' q' (by omega) hr
      refine⟨by omega,c2,by simp[c3],fun c hc=>?_, ?_⟩
      ·rcases bW.1 hc with rfl | hc
       ·omega
       ·exact c4 c hc
      ·rw[QP b (p:=p) (q:=q1) (r:=q') (by omega) (by omega),QP b (p:=q1) (q:=q1+m.toNat) (r:=q') (by omega) c1,c5]
       have e1:(b.drop p).take (q1-p)=EO m:=by simpa using a6
       have e2:q1+m.toNat-q1=m.toNat:=by omega
       have e3:(Am l).length=m.toNat:=by rw[d3]; simp; omega
       rw[e1,e2,← d3]
       simp only[V3,bM,Zz,e3,bJ]
       congr 2
       omega
   ·cases h
def rowsOf (ids:List Int) (cs:List (List DVal)):List DRow:=(List.range ids.length).map fun i=>⟨(ids[i]?).getD 0,cs.map fun c=>(c[i]?).getD zeroW⟩
where zeroW:DVal:=⟨0,0,ByteArray.empty⟩
theorem uo (ids:List Int) (cs:List (List DVal)):(rowsOf ids cs).map DRow.id=ids:=by
 unfold rowsOf
 rw[List.map_map]
 apply List.ext_getElem
 ·simp
 ·intro i h1 h2
  simp at h1 h2 ⊢
  simp[h2]
theorem DD (ids:List Int) (cs:List (List DVal)):(rowsOf ids cs).length=ids.length:=by simp[rowsOf]
theorem filterMap_map {α β:Type} {f:α→Option β} {g:α→β}:∀ (l:List α),(∀ x∈l,f x=some (g x))→l.filterMap f=l.map g
 | [],_=>rfl
 | x::l,h=>by
  rw[List.filterMap_cons,h x (by simp),V3,filterMap_map l fun y hy=>h y (by simp[hy])]
theorem zy (l:List DVal) (z:DVal):(List.range l.length).map (fun i=>(l[i]?).getD z)=l:=by
 apply List.ext_getElem
 ·simp
 ·intro i h1 h2
  simp at h1 h2 ⊢
  simp[h2]
theorem uq {ids:List Int} {cs:List (List DVal)} (h:∀ c∈cs,c.length=ids.length) {k:Nat} (hk:k<cs.length):J7 (rowsOf ids cs) k=cs[k]:=by
 have hl:=h _ (aj hk)
 unfold J7 rowsOf
 rw[List.filterMap_map,filterMap_map (g:=fun i=>((cs[k])[i]?).getD rowsOf.zeroW),← hl]
 ·exact zy _ _
 ·intro i hi
  have hi':i<(cs[k]).length:=by rw[hl]; simpa using hi
  simp[hk,hi']
noncomputable def C9 (cols:List Int) (l:List DRow):Bool:=(EX cols&&decide (l.length≤12))&&(Rn cols l&&decide (∀ r∈l,r.id≤1000000000))
noncomputable def Ce (cols:List Int) (l:List DRow):List Int:=
 if C9 cols l=true then Oh (l.map DRow.id)++(if l = [] then [] else((List.range cols.length).map fun(k:Nat)=>Zz (J7 l (k:Int))).flatten) else []
noncomputable def Ey (b:List Int) (cols ids:List Int) (p:Nat):Option (List (List DVal)×Nat):=if ids = [] then some ([],p) else FX b ids.length cols p
noncomputable def CU (cols b:List Int):Option (List DRow):=match EY b 0 with
 | none=>none
 | some (ids,p)=>if EX cols=true∧ids.length≤12 then match Ey b cols ids p with
   | none=>none
   | some (cs,q)=>if q=b.length∧C9 cols (rowsOf ids cs)=true then some (rowsOf ids cs) else none
  else none
noncomputable def Ik (cols b:List Int):Option (List DRow):=match EY b 0 with
 | none=>none
 | some (ids,p)=>if EX cols=true then match Ey b cols ids p with
   | none=>none
   | some (cs,_)=>if C9 cols (rowsOf ids cs)=true∧Ce cols (rowsOf ids cs)=b then some (rowsOf ids cs) else none
  else none
theorem uu {b:List Int} {q:Nat} (h:q≤b.length):b.take q=b↔q=b.length:=by
 constructor
 ·intro e
  have:=congrArg List.length e
  simp only[bn] at this
  omega
 ·rintro rfl
  exact bP
theorem qB {b:List Int} (hb:AQ b) (cols:List Int):Ik cols b=CU cols b:=by
 unfold Ik CU
 cases hn:EY b 0 with
 | none=>rfl
 | some x =>
  obtain⟨ids,p⟩:=x
  obtain⟨n1,n2,n3⟩:=Rq hb hn
  dsimp only
  by_cases hc:EX cols=true
  ·rw[aX hc]
   cases hg:Ey b cols ids p with
   | none=>dsimp only; split<;>rfl
   | some y =>
    obtain⟨cs,q⟩:=y
    dsimp only
    by_cases h12:ids.length≤12
    ·have key:C9 cols (rowsOf ids cs)=true→(Ce cols (rowsOf ids cs)=b↔q=b.length):=by
      intro hok
      have hput:Ce cols (rowsOf ids cs)=b.take q∧q≤b.length:=by
       unfold Ce
       rw[aX hok,uo,← n3]
       unfold Ey at hg
       by_cases hi:ids = []
       ·rw[aX hi] at hg
        simp only[ah,bQ] at hg
        obtain⟨rfl,rfl⟩:=hg
        rw[aX (by apply dh; rw[DD,hi]; rfl)]
        exact⟨by simp,n1⟩
       ·rw[aV hi] at hg
        obtain⟨c1,c2,c3,c4,c5⟩:=Yg hb ids.length cols p cs q n1 hg
        rw[aV (by intro h0; have:=DD ids cs; rw[h0] at this; exact hi (dh this.symm))]
        have e1:=QP b (p:=0) (q:=p) (r:=q) (ak _) c1
        simp only[aa7,aba] at e1
        refine⟨?_,c2⟩
        rw[e1,c5]
        congr 2
        apply List.ext_getElem
        ·simp[c3]
        ·intro k h1 h2
         have hk:k<cs.length:=by simpa using h2
         simp only[List.getElem_map,List.getElem_range]
         rw[uq c4 hk]
      rw[hput.1]
      exact uu hput.2
     by_cases hok:C9 cols (rowsOf ids cs)=true
     ·simp only[hok,key hok,hc,h12,true_and,zK,and_self,aW]
     ·simp only[hok,hc,h12,false_and,and_false,and_self,aW,aI,az]
    ·have hok:¬ C9 cols (rowsOf ids cs)=true:=by
      intro h
      simp only[C9,ax,aY,DD] at h
      exact h12 h.1.2
     simp only[hok,h12,false_and,and_false,aI,az]
  ·rw[aV hc,aV fun h=>hc h.1]
end Go.Proofs.YtnchiiikacemmaaGreat
