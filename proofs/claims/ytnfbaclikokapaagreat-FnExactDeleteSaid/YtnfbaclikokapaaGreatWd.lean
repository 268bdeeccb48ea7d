/- A part. -/
import Derived.Test.YtnfbaclikokapaaGreatYa
import Derived.Test.YtnfbaclikokapaaGreatYt
import Derived.Test.YtnfbaclikokapaaGreatDk
set_option linter.unusedSimpArgs false
set_option linter.unusedVariables false
set_option maxHeartbeats 2000000
set_option maxRecDepth 10000
open Go.Proofs.Tryz
namespace Go.Proofs.YtnfbaclikokapaaGreat
open Go.Vm
theorem eU:∀ f:Nat,FW f 0=0
 | 0=>rfl
 | f+1=>by rw[FW,aV (by omega)]
theorem IK (n:Int):Ctr prog 285 [.c (.v (.int .i64 (n)))] [.val (.c (.v (.int .i64 (Aj n))))]:=by
 refine CM call285 func285 ntmps285 results285 fun hw=>?_
 simp only[go_sem]
 refine CallK.mk _ (AL _ _ _) fun _=>?_
 rcases h:Ac n 0 2147483647 with _ | _
 ·have:¬ (0≤n∧n≤2147483647):=by simp[Ac] at h; omega
  simp only[go_sem,h,Aj,aV this]
 have hn:0≤n∧n≤2147483647:=by simp[Ac] at h; omega
 simp only[go_sem,h,Aj,bz hn]
 refine LoopU.mk 0 (A:=Nat×Int×Int) (fun x=>[(4,.c (.v (.int .i64 (x.2.1)))),(3,.c (.v (.int .i64 (x.2.2))))]) (fun _=>[]) (fun x=>0≤x.2.1∧x.2.1<2 ^ x.1∧x.1≤32∧0≤x.2.2∧x.2.2+x.1≤32∧x.2.2+FW x.1 x.2.1=FW 32 n) (fun x=>x.1) (32,n,0) ⟨⟨rfl,rfl⟩,rfl,by simp only; omega,by simp only; omega,by simp only; omega,by simp only; omega,by simp only; omega,by simp⟩ ?_
 rintro⟨f,x,c⟩ ⟨hx0,hx1,hf,hc0,hc1,hb⟩
 dsimp only at hx0 hx1 hf hc0 hc1 hb
 simp only[go_sem]
 refine cndC.mk (fun h=>?_) (fun h=>?_)
 ·have h':x>0:=by simpa using h
  cases f with
  | zero=>simp at hx1; omega
  | succ f =>
  have hxx:x<4294967296:=by
   have:(2:Int) ^ (f+1)≤2 ^ 32:=by exact_mod_cast z_ (by omega) (by omega)
   omega
  rw[FW,bz h'] at hb
  have e1:IntKind.i64.wrap (x.tdiv 2)=x/2:=by rw[df (by omega),wrap_i64 (by omega) (by omega)]
  simp only[go_sem,e1,wrap_i64 (n:=c+1) (by omega) (by omega)]
  exact⟨(f,x/2,c+1),⟨rfl,rfl⟩,rfl,⟨by simp only; omega,by simp only; rw[wB] at hx1; omega,by simp only; omega,by simp only; omega,by simp only; omega,by simp only; omega⟩,by simp only; omega⟩
 ·have h':x=0:=by simp at h; omega
  subst h'
  rw[eU] at hb
  simp only[go_sem]
  rw[← hb]; simp
theorem P5:∀ (f:Nat) (x:Int),0≤FW f x
 | 0,_=>abA _
 | f+1,x=>by
  have:=P5 f (x/2)
  rw[FW]
  split<;>omega
theorem Qk:∀ (f g:Nat) (x:Int),x<2 ^ f→FW (f+g) x=FW f x
 | 0,g,x,h=>by
  have h':¬ x>0:=by simp at h; omega
  cases g with
  | zero=>rfl
  | succ g=>rw[Zj]; show FW (g+1) x=0; rw[FW,aV h']
 | f+1,g,x,h=>by
  rw[show f+1+g=(f+g)+1 by omega,FW,FW]
  split
  ·rw[Qk f g (x/2) (by rw[wB] at h; omega)]
  ·rfl
theorem XL (f:Nat):∀ (s:Nat) (x:Int),x≥2 ^ s→FW (f+s) x=FW f (x/2 ^ s)+s
 | 0,x,h=>by simp
 | s+1,x,h=>by
  have hp:(0:Int)<2 ^ s:=Int.pow_pos (by omega)
  rw[wB] at h
  rw[show f+(s+1)=(f+s)+1 by omega,FW,bz (by omega),XL f s (x/2) (by omega),Int.ediv_ediv_of_nonneg (by omega),wB,Int.mul_comm 2]
  omega
theorem jc (T:ByteArray) (hs:T.size=256) (h:(List.range 256).all (fun y=>(T.data.toList.getD y 0).toNat==(FW 8 (y:Int)).toNat)=true) (y:Nat) (hy:y<256):∃ c:UInt8,T[y]?=some c∧(c.toNat:Int)=FW 8 y:=by
 have h1:=aF.1 h y (abC.2 hy)
 have hlt:y<T.size:=by omega
 refine⟨T[y],getElem?_pos T y hlt, ?_⟩
 have h2:T.data.toList.getD y 0=T[y]:=by
  rw[List.getD_eq_getElem?_getD,Array.getElem?_toList,getElem?_pos T.data y hlt]; rfl
 rw[h2] at h1
 simp only[ZZ] at h1
 have:=P5 8 (y:Int)
 omega
@[go_sem] theorem AIJ:((8:Int)<0)=False:=by simp
@[go_sem] theorem AIB:((16:Int)<0)=False:=by simp
@[go_sem] theorem AIC:Int.toNat 8=8:=rfl
@[go_sem] theorem AHl:Int.toNat 16=16:=rfl
@[go_sem] theorem m8:min 8 64=8:=rfl
@[go_sem] theorem m16:min 16 64=16:=rfl
theorem wrap_u64 {n:Int} (h:0≤n) (h2:n<18446744073709551616):IntKind.u64.wrap n=n:=JW (by
 simp only[Lit.wf,ak,bf]
 simp[IntKind.min,IntKind.max,IntKind.bits,IntKind.signed]
 omega)
theorem uH (x:Nat) (h0:1≤x) (h:x<2147483648):Ctr prog 334 [.c (.v (.int .u64 (x:Int)))] [.val (.c (.v (.int .i64 (FW 32 (x:Int)))))]:=by
 refine CM call334 func334 ntmps334 results334 fun hw=>?_
 have h1:decide ((x:Int)≥4294967296)=false:=by simp; omega
 have s8:IntKind.u64.wrap ((x:Int).fdiv (2 ^ 8))=((x/256:Nat):Int):=by rw[aaL _ (by omega),wrap_u64 (by omega) (by omega)]; omega
 have s16:IntKind.u64.wrap ((x:Int).fdiv (2 ^ 16))=((x/65536:Nat):Int):=by rw[aaL _ (by omega),wrap_u64 (by omega) (by omega)]; omega
 have s24:IntKind.u64.wrap ((((x/65536:Nat):Int)).fdiv (2 ^ 8))=((x/16777216:Nat):Int):=by rw[aaL _ (by omega),wrap_u64 (by omega) (by omega)]; omega
 have w8 (y:Nat) (hy:y<256):IntKind.u8.wrap (y:Int)=y:=wrap_u8 (by omega) (by omega)
 have hwl (y:Nat) (hy:y<256):0≤FW 8 (y:Int)∧FW 8 (y:Int)≤8:=by
  refine⟨P5 _ _, ?_⟩
  have key:∀ (f:Nat) (x:Int),FW f x≤f:=by
   intro f
   induction f with
   | zero=>intro x; exact abA _
   | succ f ih=>intro x; have:=ih (x/2); rw[FW]; split<;>omega
  exact key 8 _
 rcases h2:decide ((x:Int)≥65536) with _ | _
 ·rcases h3:decide ((x:Int)≥256) with _ | _
  ·have hx:x<256:=by simp at h3; omega
   simp only[go_sem,h1,h2,h3,w8 x hx]
   generalize hT:(ByteArray.mk _)=T
   obtain⟨c,hc,hcn⟩:=jc T (by rw[← hT]; rfl) (by rw[← hT]; kernel_rfl) x hx
   have:=hwl x hx
   simp only[go_sem,TT,hc,hcn]
   have e:FW 32 (x:Int)=FW 8 x:=Qk 8 24 _ (by omega)
   simp only[Int.zero_add]
   rw[wrap_i64 (n:=FW 8 (x:Int)) (by omega) (by omega),wrap_i64 (by omega) (by omega),e]
  ·have hx:x/256<256:=by simp at h2; omega
   simp only[go_sem,h1,h2,h3,s8,w8 _ hx]
   generalize hT:(ByteArray.mk _)=T
   obtain⟨c,hc,hcn⟩:=jc T (by rw[← hT]; rfl) (by rw[← hT]; kernel_rfl) _ hx
   have:=hwl _ hx
   simp only[go_sem,TT,hc,hcn]
   have e:FW 32 (x:Int)=FW 8 ((x/256:Nat):Int)+8:=by
    rw[show (32:Nat)=24+8 from rfl,XL 24 8 _ (by simp at h3; omega),show (x:Int)/2 ^ 8=((x/256:Nat):Int) by omega,show (24:Nat)=8+16 from rfl,Qk 8 16 _ (by omega)]; rfl
   simp only[Int.zero_add]
   rw[wrap_i64 (n:=FW 8 _) (by omega) (by omega),wrap_i64 (n:=8) (by omega) (by omega),wrap_i64 (by omega) (by omega),e,Int.add_comm]
 ·rcases h3:decide (((x/65536:Nat):Int)≥256) with _ | _
  ·have hx:x/65536<256:=by simp at h3; omega
   simp only[go_sem,h1,h2,h3,s16,w8 _ hx]
   generalize hT:(ByteArray.mk _)=T
   obtain⟨c,hc,hcn⟩:=jc T (by rw[← hT]; rfl) (by rw[← hT]; kernel_rfl) _ hx
   have:=hwl _ hx
   simp only[go_sem,TT,hc,hcn]
   have e:FW 32 (x:Int)=FW 8 ((x/65536:Nat):Int)+16:=by
    rw[show (32:Nat)=16+16 from rfl,XL 16 16 _ (by simp at h2; omega),show (x:Int)/2 ^ 16=((x/65536:Nat):Int) by omega,show (16:Nat)=8+8 from rfl,Qk 8 8 _ (by omega)]; rfl
   simp only[Int.zero_add]
   rw[wrap_i64 (n:=FW 8 _) (by omega) (by omega),wrap_i64 (n:=16) (by omega) (by omega),wrap_i64 (by omega) (by omega),e,Int.add_comm]
  ·have hx:x/16777216<256:=by omega
   simp only[go_sem,h1,h2,h3,s16,s24,w8 _ hx]
   generalize hT:(ByteArray.mk _)=T
   obtain⟨c,hc,hcn⟩:=jc T (by rw[← hT]; rfl) (by rw[← hT]; kernel_rfl) _ hx
   have:=hwl _ hx
   simp only[go_sem,TT,hc,hcn]
   have e:FW 32 (x:Int)=FW 8 ((x/16777216:Nat):Int)+24:=by
    rw[show (32:Nat)=8+24 from rfl,XL 8 24 _ (by simp at h3; omega),show (x:Int)/2 ^ 24=((x/16777216:Nat):Int) by omega]; rfl
   simp only[Int.zero_add]
   rw[wrap_i64 (n:=FW 8 _) (by omega) (by omega),wrap_i64 (n:=16) (by omega) (by omega),wrap_i64 (n:=16+8) (by omega) (by omega),wrap_i64 (by omega) (by omega),e,show (16:Int)+8=24 from rfl,Int.add_comm]
theorem ABh (x:Nat) (h0:1≤x) (h:x<2147483648):Ctr prog 322 [.c (.v (.int .u64 (x:Int)))] [.val (.c (.v (.int .i64 (FW 32 (x:Int)))))]:=by
 refine CM call322 func322 ntmps322 results322 fun hw=>?_
 simp only[go_sem]
 have e1:IntKind.u64.wrap (x:Int)=x:=JW (by simp only[Lit.wf,ak,bf]; simp[IntKind.min,IntKind.max,IntKind.bits,IntKind.signed]; omega)
 try simp only[e1]
 refine CallK.mk _ (uH x h0 h) fun _=>?_
 simp only[go_sem]
theorem Jk (n:Int):Ctr prog 298 [.c (.v (.int .i64 (n)))] [.val (.c (.v (.int .i64 (Aj n))))]:=by
 refine CM call298 func298 ntmps298 results298 fun hw=>?_
 simp only[go_sem]
 refine CallK.mk _ (AC _ _ _) fun _=>?_
 rcases h:Ac n 1 2147483647 with _ | _
 ·have:Aj n=0:=by
   unfold Aj
   split
   ·have:n=0:=by simp[Ac] at h; omega
    subst this
    exact eU _
   ·rfl
  simp only[go_sem,h,this]
 have hn:1≤n∧n≤2147483647:=by simp[Ac] at h; omega
 obtain⟨m,rfl⟩:=aP (show 0≤n by omega)
 have e1:IntKind.u64.wrap (m:Int)=m:=JW (by simp only[Lit.wf,ak,bf]; simp[IntKind.min,IntKind.max,IntKind.bits,IntKind.signed]; omega)
 simp only[go_sem,h,e1]
 refine CallK.mk _ (ABh m (by omega) (by omega)) fun _=>?_
 simp only[go_sem,Aj]
 rw[bz (by omega)]
theorem YS (k w:Int):Ctr prog 320 [.c (.v (.int .i64 (k))),.c (.v (.int .i64 (w)))] [.val (.c (.v (.int .i64 (Ed k w))))]:=by
 refine CM call320 func320 ntmps320 results320 fun hw=>?_
 simp only[go_sem]
 refine CallK.mk _ (AC _ _ _) fun _=>?_
 rcases h:Ac k 0 64 with _ | _
 ·have:¬ ((0≤k∧k≤64)∧0≤w∧w≤31):=by simp[Ac] at h; omega
  simp only[go_sem,h,Ed,aV this]
 simp only[go_sem,h]
 refine CallK.mk _ (AC _ _ _) fun _=>?_
 rcases h2:Ac w 0 31 with _ | _
 ·have:¬ ((0≤k∧k≤64)∧0≤w∧w≤31):=by simp[Ac] at h2; omega
  simp only[go_sem,h,h2,Ed,aV this]
 have hk:0≤k∧k≤64:=by simp[Ac] at h; omega
 have hw:0≤w∧w≤31:=by simp[Ac] at h2; omega
 have hm:0≤k*w:=aaY hk.1 hw.1
 have hm2:k*w≤64*31:=Int.le_trans (zt hk.2 hw.1) (abe hw.2 (by omega))
 have e1:IntKind.i64.wrap (k*w)=k*w:=wrap_i64 (by omega) (by omega)
 have e2:IntKind.i64.wrap (k*w+7)=k*w+7:=wrap_i64 (by omega) (by omega)
 have e3:IntKind.i64.wrap ((k*w+7).tdiv 8)=(k*w+7)/8:=by rw[df (by omega),wrap_i64 (by omega) (by omega)]
 simp only[go_sem,h,h2,Ed,hk,hw,e1,e2,e3,and_self,bD]
theorem YT (k w:Int):Ctr prog 309 [.c (.v (.int .i64 (k))),.c (.v (.int .i64 (w)))] [.val (.c (.v (.int .i64 (Ed k w))))]:=by
 refine CM call309 func309 ntmps309 results309 fun hw=>?_
 simp only[go_sem]
 refine CallK.mk _ (AL _ _ _) fun _=>?_
 rcases h:Ac k 0 64 with _ | _
 ·have:¬ ((0≤k∧k≤64)∧0≤w∧w≤31):=by simp[Ac] at h; omega
  simp only[go_sem,h,Ed,aV this]
 simp only[go_sem,h]
 refine CallK.mk _ (AL _ _ _) fun _=>?_
 rcases h2:Ac w 0 31 with _ | _
 ·have:¬ ((0≤k∧k≤64)∧0≤w∧w≤31):=by simp[Ac] at h2; omega
  simp only[go_sem,h,h2,Ed,aV this]
 have hk:0≤k∧k≤64:=by simp[Ac] at h; omega
 have hw:0≤w∧w≤31:=by simp[Ac] at h2; omega
 have hm:0≤k*w:=aaY hk.1 hw.1
 have hm2:k*w≤64*31:=Int.le_trans (zt hk.2 hw.1) (abe hw.2 (by omega))
 have e1:IntKind.i64.wrap (k*w)=k*w:=wrap_i64 (by omega) (by omega)
 have e2:IntKind.i64.wrap (k*w+7)=k*w+7:=wrap_i64 (by omega) (by omega)
 have e3:IntKind.i64.wrap ((k*w+7).tdiv 8)=(k*w+7)/8:=by rw[df (by omega),wrap_i64 (by omega) (by omega)]
 simp only[go_sem,h,h2,Ed,hk,hw,e1,e2,e3,and_self,bD]
theorem V5 (b:List Int) (n:Int) (hb:AY b) (hl:b.length≤1048576) (hn:n≤1000000000):Ctr prog 321 [.c (.sl (b.map byteC)),.c (.v (.int .i64 (n)))] [.val (.c (.v (.int .i64 (EP b n))))]:=by
 refine CM call321 func321 ntmps321 results321 fun hw=>?_
 rcases h0:decide (n<0) with _ | _
 rotate_left
 ·have:n<0:=by simpa using h0
  simp only[go_sem,h0,EP,bz this]
 have hn0:0≤n:=by simpa using h0
 obtain⟨m,rfl⟩:=aP hn0
 have e1:IntKind.i64.wrap ((m:Int).tdiv 8)=((m/8:Nat):Int):=by rw[df (by omega),wrap_i64 (by omega) (by omega)]; omega
 have e2:IntKind.i64.wrap ((m:Int).tmod 8)=((m%8:Nat):Int):=by rw[aat (by omega),wrap_i64 (by omega) (by omega)]; omega
 have hba:EP b (m:Int)=match b[m/8]? with | some c=>c/2 ^ (m%8)%2 | none=>0:=by
  unfold EP
  rw[aV (by omega)]
  have q1:((m:Int)/8).toNat=m/8:=by omega
  have q2:((m:Int)%8).toNat=m%8:=by omega
  rw[q1,q2]
  rfl
 rw[hba]
 rcases h1:decide (((m/8:Nat):Int)≥(b.length:Int)) with _ | _
 rotate_left
 ·have:b.length≤m/8:=by simp at h1; omega
  simp only[go_sem,h0,h1,e1,ae,nR this]
 have hlt:m/8<b.length:=by simp at h1; omega
 obtain⟨c0,c1⟩:=hb _ (aj hlt)
 rw[aA hlt]
 generalize hc:b[m/8]=c at c0 c1
 simp only[go_sem,h0,h1,e1,e2,ae,AA _ hlt,hc]
 have hP:0≤c/2 ^ (m%8):=Int.ediv_nonneg (by omega) (yX (by omega))
 have hP2:c/2 ^ (m%8)≤c:=Int.ediv_le_self _ (by omega)
 rw[aaL _ (yX (by omega))]
 rw[show min (m%8) 8=m%8 by omega,wrap_u8 hP (by omega),AE0 hP (by omega),wrap_u8 (by omega) (by omega),wrap_i64 (by omega) (by omega)]
theorem V6 (b:List Int) (n:Int) (hb:AY b) (hl:b.length≤1048576) (hn:n≤1000000000):Ctr prog 310 [.c (.sl (b.map byteC)),.c (.v (.int .i64 (n)))] [.val (.c (.v (.int .i64 (EP b n))))]:=by
 refine CM call310 func310 ntmps310 results310 fun hw=>?_
 rcases h0:decide (n<0) with _ | _
 rotate_left
 ·have:n<0:=by simpa using h0
  simp only[go_sem,h0,EP,bz this]
 have hn0:0≤n:=by simpa using h0
 obtain⟨m,rfl⟩:=aP hn0
 have e1:IntKind.i64.wrap ((m:Int).tdiv 8)=((m/8:Nat):Int):=by rw[df (by omega),wrap_i64 (by omega) (by omega)]; omega
 have e2:IntKind.i64.wrap ((m:Int).tmod 8)=((m%8:Nat):Int):=by rw[aat (by omega),wrap_i64 (by omega) (by omega)]; omega
 have hba:EP b (m:Int)=match b[m/8]? with | some c=>c/2 ^ (m%8)%2 | none=>0:=by
  unfold EP
  rw[aV (by omega)]
  have q1:((m:Int)/8).toNat=m/8:=by omega
  have q2:((m:Int)%8).toNat=m%8:=by omega
  rw[q1,q2]
  rfl
 rw[hba]
 rcases h1:decide (((m/8:Nat):Int)≥(b.length:Int)) with _ | _
 rotate_left
 ·have:b.length≤m/8:=by simp at h1; omega
  simp only[go_sem,h0,h1,e1,ae,nR this]
 have hlt:m/8<b.length:=by simp at h1; omega
 obtain⟨c0,c1⟩:=hb _ (aj hlt)
 rw[aA hlt]
 generalize hc:b[m/8]=c at c0 c1
 simp only[go_sem,h0,h1,e1,e2,ae,AA _ hlt,hc]
 rw[wrap_i64 (n:=c) (by omega) (by omega)]
 have hP:0≤c/2 ^ (m%8):=Int.ediv_nonneg (by omega) (yX (by omega))
 have hP2:c/2 ^ (m%8)≤c:=Int.ediv_le_self _ (by omega)
 rw[aaL _ (yX (by omega))]
 rw[show min (m%8) 64=m%8 by omega,wrap_i64 (n:=c/2 ^ (m%8)) (by omega) (by omega),AD3 hP (by omega),wrap_i64 (by omega) (by omega)]
theorem YU (l:List Int) (hl:l.length≤1048576):Ctr prog 327 [.c (.sl (l.map intC))] [.val (.c (.v (.int .i64 (CE l))))]:=by
 refine CM call327 func327 ntmps327 results327 fun hw=>?_
 simp only[go_sem,ae]
 refine LoopU.mk 0 (A:=Nat×Int) (fun x=>[(8,.c (.v (.int .i64 (x.1)))),(3,.c (.v (.int .i64 (x.2))))]) (fun _=>[]) (fun x=>x.1≤l.length∧(l.drop x.1).foldl (fun w n=>max w (Aj n)) x.2=CE l) (fun x=>l.length-x.1) (0,0) ⟨⟨rfl,rfl⟩,rfl,ax _,rfl⟩ ?_
 rintro⟨i,w⟩ ⟨hi,hb⟩
 dsimp only at hi hb
 simp only[go_sem,ae]
 refine cndC.mk (fun h=>?_) (fun h=>?_)
 ·have hi':i<l.length:=by simpa using h
  rw[aG hi',abn] at hb
  simp only[go_sem,ae,AA _ hi']
  refine CallK.mk _ (Jk _) fun _=>?_
  simp only[go_sem,ae,wrap_i64 (n:=(i:Int)+1) (by omega) (by omega)]
  have hm:(if w<Aj l[i] then Aj l[i] else w)=max w (Aj l[i]):=by split<;>omega
  exact⟨(i+1,if w<Aj l[i] then Aj l[i] else w),⟨rfl,rfl⟩,rfl,⟨hi',by simp only; rw[hm]; exact hb⟩,by simp only; omega⟩
 ·have hi':i=l.length:=by simp at h; omega
  subst hi'
  rw[aU] at hb
  simp only[go_sem]
  rw[← hb]; rfl
theorem YV (l:List Int) (hl:l.length≤1048576):Ctr prog 315 [.c (.sl (l.map intC))] [.val (.c (.v (.int .i64 (CE l))))]:=by
 refine CM call315 func315 ntmps315 results315 fun hw=>?_
 simp only[go_sem,ae]
 refine LoopU.mk 0 (A:=Nat×Int) (fun x=>[(4,.c (.v (.int .i64 (x.1)))),(3,.c (.v (.int .i64 (x.2))))]) (fun _=>[]) (fun x=>x.1≤l.length∧(l.drop x.1).foldl (fun w n=>max w (Aj n)) x.2=CE l) (fun x=>l.length-x.1) (0,0) ⟨⟨rfl,rfl⟩,rfl,ax _,rfl⟩ ?_
 rintro⟨i,w⟩ ⟨hi,hb⟩
 dsimp only at hi hb
 simp only[go_sem,ae]
 refine cndC.mk (fun h=>?_) (fun h=>?_)
 ·have hi':i<l.length:=by simpa using h
  rw[aG hi',abn] at hb
  simp only[go_sem,ae,AA _ hi']
  refine CallK.mk _ (IK _) fun _=>?_
  rcases h2:decide (Aj l[i]>w) with _ | _
  ·have h2':Aj l[i]≤w:=by simpa using h2
   simp only[go_sem,h2,ae,wrap_i64 (n:=(i:Int)+1) (by omega) (by omega)]
   exact⟨(i+1,w),⟨rfl,rfl⟩,rfl,⟨hi',by simp only; rw[← hb,Int.max_eq_left h2']⟩,by simp only; omega⟩
  ·have h2':w≤Aj l[i]:=by simp at h2; omega
   simp only[go_sem,h2,ae,AA _ hi']
   refine CallK.mk _ (IK _) fun _=>?_
   simp only[go_sem,h2,ae,wrap_i64 (n:=(i:Int)+1) (by omega) (by omega)]
   exact⟨(i+1,Aj l[i]),⟨rfl,rfl⟩,rfl,⟨hi',by simp only; rw[← hb,Int.max_eq_right h2']⟩,by simp only; omega⟩
 ·have hi':i=l.length:=by simp at h; omega
  subst hi'
  rw[aU] at hb
  simp only[go_sem]
  rw[← hb]; rfl
noncomputable def Dl (kind:Int) (l:List DVal):List Int:=if kind=0 then Dw l else if kind=1 then ET l else if kind=2 then DV l else if kind=3 then CU l else []
noncomputable def bk1 (l:List DVal):Int:=if(Dl 1 l).length<(Dl 0 l).length then 1 else 0
noncomputable def bk2 (l:List DVal):Int:=if(Dl 2 l).length<(Dl (bk1 l) l).length then 2 else bk1 l
noncomputable def bk3 (l:List DVal):Int:=if typeOf l=1∧(Dl 3 l).length<(Dl (bk2 l) l).length then 3 else bk2 l
noncomputable def Au (l:List DVal):Int:=if typeOf l=0 then -1 else bk3 l
noncomputable def Ak (l:List DVal):List Int:=if Au l<0 then [] else Au l::Dl (Au l) l
noncomputable def VC (b:List Int) (ty k:Int):Option (List DVal):=match b with
 | []=>none
 | c::r=>if c=0 then FC r ty k else if c=1 then Dn r ty k else if c=2 then Eg r ty k else if c=3 then Dy r k else none
noncomputable def o_ (b:List Int) (ty k:Int):Option (List DVal):=match b with
 | []=>none
 | c::r=>if c=0 then Nk r ty k else if c=1 then Dn r ty k else if c=2 then JC r ty k else if c=3 then H5 r k else none
noncomputable def H9 (b:List Int) (ty k:Int):Option (List DVal):=if 1≤ty∧ty≤2 then match VC b ty k with
  | none=>none
  | some l=>if typeOf l=ty∧Ak l=b then some l else none
 else none
noncomputable def XM (b:List Int) (ty k:Int):Option (List DVal):=if b = [] then none else
 if typeOf ((o_ b ty k).getD [])=ty then again b k ((o_ b ty k).getD []) (Ak ((o_ b ty k).getD [])) else none
theorem ww {b:List Int} (hb:AY b) (ty k:Int):o_ b ty k=VC b ty k:=by
 cases b with
 | nil=>rfl
 | cons c r =>
  have hr:AY r:=fun x hx=>hb x (by simp[hx])
  simp only[o_,VC,V4 hr,Y1 hr,WF]
theorem uI {b:List Int} (hb:AY b) {ty k:Int} {l:List DVal} (h:Dn b ty k=some l):(1≤k∧k≤64∧(l.length:Int)=k)∧typeOf l≠0:=by
 unfold Dn at h
 cases hn:BN b 0 with
 | none=>simp[hn] at h
 | some x =>
  obtain⟨n,p⟩:=x
  obtain⟨_,_,hne⟩:=UQ hb hn
  simp only[hn] at h
  split at h
  ·split at h
   ·cases h
   ·obtain⟨h1,h2,h3,h4,h5⟩:=zV h
    rw[h1]
    refine⟨⟨h2,h3,h4⟩,fun h0=>hne ?_⟩
    rw[h5,ET,bz h0]
  ·cases h
theorem uJ {b:List Int} (hb:AY b) {ty k:Int} {l:List DVal} (h:Eg b ty k=some l):(1≤k∧k≤64∧(l.length:Int)=k)∧typeOf l≠0:=by
 unfold Eg at h
 cases hn:BN b 0 with
 | none=>simp[hn] at h
 | some x =>
  obtain⟨n,p⟩:=x
  obtain⟨_,_,hne⟩:=UQ hb hn
  simp only[hn] at h
  split at h
  ·rename_i hk
   split at h
   ·cases h
   ·split at h
    ·cases h
    ·rename_i o hu
     split at h
     ·cases h
     ·rename_i l' hp
      split at h
      ·rename_i he
       simp only[ah] at h
       subst h
       have h1:=Lr hu
       have h2:=Ls hp
       refine⟨⟨hk.1.1,hk.1.2,by omega⟩,fun h0=>hne ?_⟩
       rw[← he,DV,bz h0]
      ·cases h
  ·cases h
theorem pF {b:List Int} (hb:AY b) {k:Int} {l:List DVal} (h:Dy b k=some l):(1≤k∧k≤64∧(l.length:Int)=k)∧typeOf l≠0:=by
 unfold Dy at h
 cases hn:BN b 0 with
 | none=>simp[hn] at h
 | some x =>
  obtain⟨n,p⟩:=x
  obtain⟨_,_,hne⟩:=UQ hb hn
  simp only[hn] at h
  split at h
  ·cases h
  ·split at h
   ·rename_i hk
    split at h
    ·cases h
    ·rename_i o hu
     split at h
     ·cases h
     ·rename_i l' hp
      split at h
      ·rename_i he
       simp only[ah] at h
       subst h
       have h1:=Lr hu
       have h2:=Oh hp
       refine⟨⟨hk.1,hk.2,by omega⟩,fun h0=>hne ?_⟩
       rw[← he,CU,bz (by omega)]
      ·cases h
   ·cases h
theorem pG {b:List Int} (hb:AY b) {ty k:Int} {l:List DVal} (h:FC b ty k=some l):typeOf l≠0:=by
 unfold FC at h
 split at h
 ·rename_i hk
  cases hv:Ba b ty k.toNat 0 with
  | none=>simp[hv] at h
  | some x =>
   obtain⟨l',q⟩:=x
   simp only[hv] at h
   split at h
   ·simp only[ah] at h
    subst h
    obtain⟨_,_,c3,c4,_⟩:=IY hb k.toNat 0 _ q (ax _) hv
    have h0:0<l'.length:=by omega
    have hty:=(c4 _ (aj h0)).2.2
    rw[Qj (ty:=ty) (by omega) (by omega) fun v hv=>⟨(c4 v hv).1,(c4 v hv).2.1⟩]
    omega
   ·cases h
 ·cases h
theorem Jl {b:List Int} (hb:AY b) {ty k:Int} {l:List DVal} (h:VC b ty k=some l):(1≤k∧k≤64∧(l.length:Int)=k)∧typeOf l≠0:=by
 cases b with
 | nil=>cases h
 | cons c r =>
  have hr:AY r:=fun x hx=>hb x (by simp[hx])
  simp only[VC] at h
  split at h
  ·exact⟨o9 hr h,pG hr h⟩
  ·split at h
   ·exact uI hr h
   ·split at h
    ·exact uJ hr h
    ·split at h
     ·exact pF hr h
     ·cases h
theorem zL {b:List Int} (hb:AY b) (ty k:Int):XM b ty k=H9 b ty k:=by
 unfold XM H9
 rw[ww hb]
 by_cases h0:b = []
 ·rw[bz h0,h0]
  simp[VC]
 ·rw[aV h0]
  cases hd:VC b ty k with
  | none =>
   simp only[qy]
   have ht:typeOf []=0:=rfl
   rw[ht]
   unfold again
   by_cases h1:(0:Int)=ty
   ·rw[bz h1,aV (by simp only[X5]; omega)]
    split<;>rfl
   ·rw[aV h1]
    split<;>rfl
  | some l =>
   obtain⟨⟨k1,k2,k3⟩,k4⟩:=Jl hb hd
   simp only[aJ]
   by_cases h1:typeOf l=ty
   ·rw[bz h1,bz (by have:=ABs l; omega)]
    unfold again
    by_cases h2:Ak l=b
    ·rw[bz ⟨k1,k2,k3,h2.symm⟩,bz ⟨h1,h2⟩]
    ·rw[aV fun h3=>h2 h3.2.2.2.symm,aV fun h3=>h2 h3.2]
   ·rw[aV h1]
    split
    ·rw[aV fun h3=>h1 h3.1]
    ·rfl
theorem VD {b:List Int} (hb:AY b) {ty k:Int} {l:List DVal} (h:H9 b ty k=some l):(l.length:Int)=k∧typeOf l=ty∧Ak l=b:=by
 unfold H9 at h
 split at h
 ·cases hd:VC b ty k with
  | none=>simp[hd] at h
  | some l' =>
   simp only[hd] at h
   split at h
   ·rename_i he
    simp only[ah] at h
    subst h
    exact⟨(Jl hb hd).1.2.2,he⟩
   ·cases h
 ·cases h
def Gx (b:List Int):Nat→Nat→Option (List Int×Nat)
 | 0,p=>some ([],p)
 | k+1,p=>match BN b p with
  | none=>none
  | some (n,q)=>(Gx b k q).map fun x=>(n::x.1,x.2)
def ES (b:List Int) (p:Int):Option (List Int×Nat):=match BN b p with
 | none=>none
 | some (k,q)=>if 0≤k∧k≤64 then Gx b k.toNat q else none
def O0 (l:List Int):List Int:=EM l.length++(l.map EM).flatten
theorem YW {b:List Int} (hb:AY b):∀ (k p:Nat) (l:List Int) (q:Nat),p≤b.length→Gx b k p=some (l,q) →
  p≤q∧q≤b.length∧l.length=k∧(b.drop p).take (q-p)=(l.map EM).flatten
 | 0,p,l,q,hp,h=>by
  simp only[Gx,ah,bJ] at h
  obtain⟨rfl,rfl⟩:=h
  exact⟨aN _,hp,rfl,by simp⟩
 | k+1,p,l,q,hp,h=>by
  rw[Gx] at h
  cases hv:BN b p with
  | none=>simp[hv] at h
  | some x =>
   obtain⟨v,m⟩:=x
   simp only[hv] at h
   cases hr:Gx b k m with
   | none=>simp[hr] at h
   | some y =>
    obtain⟨l',q'⟩:=y
    simp only[hr,bP,ah,bJ] at h
    obtain⟨rfl,rfl⟩:=h
    obtain⟨_,a2,a3,_,_,a6⟩:=Gm hb hv
    obtain⟨c1,c2,c3,c5⟩:=YW hb k m l' q' a3 hr
    refine⟨by omega,c2,by simp[c3], ?_⟩
    rw[Qh b (p:=p) (q:=m) (r:=q') (by omega) c1,c5]
    have:(b.drop p).take (m-p)=EM v:=by simpa using a6
    rw[this]; rfl
theorem R_ {b:List Int} (hb:AY b) {l:List Int} {q:Nat} (h:ES b 0=some (l,q)):q≤b.length∧l.length≤64∧b.take q=O0 l:=by
 unfold ES at h
 cases hn:BN b 0 with
 | none=>simp[hn] at h
 | some x =>
  obtain⟨k,p⟩:=x
  simp only[hn] at h
  split at h
  ·rename_i hk
   obtain⟨_,a2,a3,_,_,a6⟩:=Gm hb hn
   obtain⟨c1,c2,c3,c5⟩:=YW hb k.toNat p l q a3 h
   refine⟨c2,by omega, ?_⟩
   have e1:=Qh b (p:=0) (q:=p) (r:=q) (ax _) c1
   simp only[aa4,aa9] at e1
   have e2:b.take p=EM k:=by simpa using a6
   rw[e1,c5,e2,O0,c3]
   congr 2
   omega
  ·cases h
noncomputable def Zo (l:List DVal):List Int:=EM (Ak l).length++Ak l
noncomputable def Fa (b:List Int) (n:Nat):List Int→Nat→Option (List (List DVal)×Nat)
 | [],p=>some ([],p)
 | ty::r,p=>match BN b p with
  | none=>none
  | some (m,q)=>if 0≤m∧m≤(b.length:Int)-q then match H9 ((b.drop q).take m.toNat) ty n with
    | none=>none
    | some l=>(Fa b n r (q+m.toNat)).map fun x=>(l::x.1,x.2)
   else none
theorem YX {b:List Int} (hb:AY b) (n:Nat):∀ (cols:List Int) (p:Nat) (cs:List (List DVal)) (q:Nat),p≤b.length→Fa b n cols p=some (cs,q) →
  p≤q∧q≤b.length∧cs.length=cols.length∧(∀ c∈cs,c.length=n)∧(b.drop p).take (q-p)=(cs.map Zo).flatten
 | [],p,cs,q,hp,h=>by
  simp only[Fa,ah,bJ] at h
  obtain⟨rfl,rfl⟩:=h
  exact⟨aN _,hp,rfl,by simp,by simp⟩
 | ty::r,p,cs,q,hp,h=>by
  rw[Fa] at h
  cases hv:BN b p with
  | none=>simp[hv] at h
  | some x =>
   obtain⟨m,q1⟩:=x
   simp only[hv] at h
   split at h
   ·rename_i hm
    cases hd:H9 ((b.drop q1).take m.toNat) ty n with
    | none=>simp[hd] at h
    | some l =>
     simp only[hd] at h
     cases hr:Fa b n r (q1+m.toNat) with
     | none=>simp[hr] at h
     | some y =>
      obtain⟨cs',q'⟩:=y
      simp only[hr,bP,ah,bJ] at h
      obtain⟨rfl,rfl⟩:=h
      obtain⟨_,a2,a3,_,_,a6⟩:=Gm hb hv
      obtain⟨d1,_,d3⟩:=VD (Qi hb _ _) hd
      obtain⟨c1,c2,c3,c4,c5⟩:=YX hb n r (q1+m.toNat) cs' q' (by omega) hr
      refine⟨by omega,c2,by simp[c3],fun c hc=>?_, ?_⟩
      ·rcases cZ.1 hc with rfl | hc
       ·omega
       ·exact c4 c hc
      ·rw[Qh b (p:=p) (q:=q1) (r:=q') (by omega) (by omega),Qh b (p:=q1) (q:=q1+m.toNat) (r:=q') (by omega) c1,c5]
       have e1:(b.drop p).take (q1-p)=EM m:=by simpa using a6
       have e2:q1+m.toNat-q1=m.toNat:=by omega
       have e3:(Ak l).length=m.toNat:=by rw[d3]; simp; omega
       rw[e1,e2,← d3]
       simp only[XA,bT,Zo,e3,bM]
       congr 2
       omega
   ·cases h
def rowsOf (ids:List Int) (cs:List (List DVal)):List DRow:=(List.range ids.length).map fun i=>⟨(ids[i]?).getD 0,cs.map fun c=>(c[i]?).getD zeroW⟩
where zeroW:DVal:=⟨0,0,ByteArray.empty⟩
theorem uK (ids:List Int) (cs:List (List DVal)):(rowsOf ids cs).map DRow.id=ids:=by
 unfold rowsOf
 rw[List.map_map]
 apply List.ext_getElem
 ·simp
 ·intro i h1 h2
  simp at h1 h2 ⊢
  simp[h2]
theorem Cm (ids:List Int) (cs:List (List DVal)):(rowsOf ids cs).length=ids.length:=by simp[rowsOf]
theorem filterMap_map {α β:Type} {f:α→Option β} {g:α→β}:∀ (l:List α),(∀ x∈l,f x=some (g x))→l.filterMap f=l.map g
 | [],_=>rfl
 | x::l,h=>by
  rw[List.filterMap_cons,h x (by simp),XA,filterMap_map l fun y hy=>h y (by simp[hy])]
theorem zM (l:List DVal) (z:DVal):(List.range l.length).map (fun i=>(l[i]?).getD z)=l:=by
 apply List.ext_getElem
 ·simp
 ·intro i h1 h2
  simp at h1 h2 ⊢
  simp[h2]
theorem uM {ids:List Int} {cs:List (List DVal)} (h:∀ c∈cs,c.length=ids.length) {k:Nat} (hk:k<cs.length):KC (rowsOf ids cs) k=cs[k]:=by
 have hl:=h _ (aj hk)
 unfold KC rowsOf
 rw[List.filterMap_map,filterMap_map (g:=fun i=>((cs[k])[i]?).getD rowsOf.zeroW),← hl]
 ·exact zM _ _
 ·intro i hi
  have hi':i<(cs[k]).length:=by rw[hl]; simpa using hi
  simp[hk,hi']
noncomputable def Ci (cols:List Int) (l:List DRow):Bool:=(EQ cols&&decide (l.length≤12))&&(Rk cols l&&decide (∀ r∈l,r.id≤1000000000))
noncomputable def Cb (cols:List Int) (l:List DRow):List Int:=
 if Ci cols l=true then O0 (l.map DRow.id)++(if l = [] then [] else((List.range cols.length).map fun(k:Nat)=>Zo (KC l (k:Int))).flatten) else []
noncomputable def Ep (b:List Int) (cols ids:List Int) (p:Nat):Option (List (List DVal)×Nat):=if ids = [] then some ([],p) else Fa b ids.length cols p
noncomputable def CS (cols b:List Int):Option (List DRow):=match ES b 0 with
 | none=>none
 | some (ids,p)=>if EQ cols=true∧ids.length≤12 then match Ep b cols ids p with
   | none=>none
   | some (cs,q)=>if q=b.length∧Ci cols (rowsOf ids cs)=true then some (rowsOf ids cs) else none
  else none
noncomputable def Ig (cols b:List Int):Option (List DRow):=match ES b 0 with
 | none=>none
 | some (ids,p)=>if EQ cols=true then match Ep b cols ids p with
   | none=>none
   | some (cs,_)=>if Ci cols (rowsOf ids cs)=true∧Cb cols (rowsOf ids cs)=b then some (rowsOf ids cs) else none
  else none
theorem uN {b:List Int} {q:Nat} (h:q≤b.length):b.take q=b↔q=b.length:=by
 constructor
 ·intro e
  have:=congrArg List.length e
  simp only[bC] at this
  omega
 ·rintro rfl
  exact bG
theorem pI {b:List Int} (hb:AY b) (cols:List Int):Ig cols b=CS cols b:=by
 unfold Ig CS
 cases hn:ES b 0 with
 | none=>rfl
 | some x =>
  obtain⟨ids,p⟩:=x
  obtain⟨n1,n2,n3⟩:=R_ hb hn
  dsimp only
  by_cases hc:EQ cols=true
  ·rw[bz hc]
   cases hg:Ep b cols ids p with
   | none=>dsimp only; split<;>rfl
   | some y =>
    obtain⟨cs,q⟩:=y
    dsimp only
    by_cases h12:ids.length≤12
    ·have key:Ci cols (rowsOf ids cs)=true→(Cb cols (rowsOf ids cs)=b↔q=b.length):=by
      intro hok
      have hput:Cb cols (rowsOf ids cs)=b.take q∧q≤b.length:=by
       unfold Cb
       rw[bz hok,uK,← n3]
       unfold Ep at hg
       by_cases hi:ids = []
       ·rw[bz hi] at hg
        simp only[ah,bJ] at hg
        obtain⟨rfl,rfl⟩:=hg
        rw[bz (by apply zu; rw[Cm,hi]; rfl)]
        exact⟨by simp,n1⟩
       ·rw[aV hi] at hg
        obtain⟨c1,c2,c3,c4,c5⟩:=YX hb ids.length cols p cs q n1 hg
        rw[aV (by intro h0; have:=Cm ids cs; rw[h0] at this; exact hi (zu this.symm))]
        have e1:=Qh b (p:=0) (q:=p) (r:=q) (ax _) c1
        simp only[aa4,aa9] at e1
        refine⟨?_,c2⟩
        rw[e1,c5]
        congr 2
        apply List.ext_getElem
        ·simp[c3]
        ·intro k h1 h2
         have hk:k<cs.length:=by simpa using h2
         simp only[List.getElem_map,List.getElem_range]
         rw[uM c4 hk]
      rw[hput.1]
      exact uN hput.2
     by_cases hok:Ci cols (rowsOf ids cs)=true
     ·simp only[hok,key hok,hc,h12,true_and,yY,and_self,bD]
     ·simp only[hok,hc,h12,false_and,and_false,and_self,bD,aT,aC]
    ·have hok:¬ Ci cols (rowsOf ids cs)=true:=by
      intro h
      simp only[Ci,ak,bf,Cm] at h
      exact h12 h.1.2
     simp only[hok,h12,false_and,and_false,aT,aC]
  ·rw[aV hc,aV fun h=>hc h.1]
end Go.Proofs.YtnfbaclikokapaaGreat
