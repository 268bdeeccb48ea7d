/- Walks: widths, and bits of numbers. -/
import Derived.Test.YthoeeoddgkjkkaaGreatYb
namespace Go.Proofs.YthoeeoddgkjkkaaGreat
set_option linter.unusedSimpArgs false
set_option linter.unusedVariables false
open Go.Vm
set_option maxHeartbeats 2000000
set_option maxRecDepth 10000
theorem Vw:∀ f:Nat,EX f 0=0
 | 0=>rfl
 | f+1=>by rw[EX,if_neg (by omega)]
theorem GL (n:Int):Ctr Tryz.prog 206 [.c (.v (.int .i64 (n)))] [.val (.c (.v (.int .i64 (Af n))))]:=by
 refine Ctr.mk Tryz.call206 Tryz.func206 rfl mixed Tryz.ntmps206 Tryz.results206 (by kernel_rfl) rfl fun hw=>?_
 simp only[go_sem]
 refine CallK.mk _ (Am _ _ _) fun _=>?_
 rcases h:BQ n 0 2147483647 with _ | _
 ·have:¬ (0≤n∧n≤2147483647):=by simp[BQ] at h; omega
  simp only[go_sem,h,Af,if_neg this]
 have hn:0≤n∧n≤2147483647:=by simp[BQ] at h; omega
 simp only[go_sem,h,Af,if_pos hn]
 refine LoopU.mk 0 (A:=Nat×Int×Int) (fun x=>[(4,.c (.v (.int .i64 (x.2.1)))),(3,.c (.v (.int .i64 (x.2.2))))]) (fun _=>[]) (fun x=>0≤x.2.1∧x.2.1<2 ^ x.1∧x.1≤32∧0≤x.2.2∧x.2.2+x.1≤32∧x.2.2+EX x.1 x.2.1=EX 32 n) (fun x=>x.1) (32,n,0) ⟨⟨rfl,rfl⟩,rfl,by simp only; omega,by simp only; omega,by simp only; omega,by simp only; omega,by simp only; omega,by simp⟩ ?_
 rintro⟨f,x,c⟩ ⟨hx0,hx1,hf,hc0,hc1,hb⟩
 dsimp only at hx0 hx1 hf hc0 hc1 hb
 simp only[go_sem]
 refine cndC.mk (fun h=>?_) (fun h=>?_)
 ·have h':x>0:=by simpa using h
  cases f with
  | zero=>simp at hx1; omega
  | succ f =>
  have hxx:x<4294967296:=by
   have:(2:Int) ^ (f+1)≤2 ^ 32:=by exact_mod_cast Nat.pow_le_pow_right (by omega) (by omega)
   omega
  rw[EX,if_pos h'] at hb
  have e1:IntKind.i64.wrap (x.tdiv 2)=x/2:=by rw[Int.tdiv_eq_ediv_of_nonneg (by omega),wrap_i64 (by omega) (by omega)]
  simp only[go_sem,e1,wrap_i64 (n:=c+1) (by omega) (by omega)]
  exact⟨(f,x/2,c+1),⟨rfl,rfl⟩,rfl,⟨by simp only; omega,by simp only; rw[Int.pow_succ] at hx1; omega,by simp only; omega,by simp only; omega,by simp only; omega,by simp only; omega⟩,by simp only; omega⟩
 ·have h':x=0:=by simp at h; omega
  subst h'
  rw[Vw] at hb
  simp only[go_sem]
  rw[← hb]; simp
theorem L_:∀ (f:Nat) (x:Int),0≤EX f x
 | 0,_=>Int.le_refl _
 | f+1,x=>by
  have:=L_ f (x/2)
  rw[EX]
  split<;>omega
theorem NF:∀ (f g:Nat) (x:Int),x<2 ^ f→EX (f+g) x=EX f x
 | 0,g,x,h=>by
  have h':¬ x>0:=by simp at h; omega
  cases g with
  | zero=>rfl
  | succ g=>rw[Nat.zero_add]; show EX (g+1) x=0; rw[EX,if_neg h']
 | f+1,g,x,h=>by
  rw[show f+1+g=(f+g)+1 by omega,EX,EX]
  split
  ·rw[NF f g (x/2) (by rw[Int.pow_succ] at h; omega)]
  ·rfl
theorem Sr (f:Nat):∀ (s:Nat) (x:Int),x≥2 ^ s→EX (f+s) x=EX f (x/2 ^ s)+s
 | 0,x,h=>by simp
 | s+1,x,h=>by
  have hp:(0:Int)<2 ^ s:=Int.pow_pos (by omega)
  rw[Int.pow_succ] at h
  rw[show f+(s+1)=(f+s)+1 by omega,EX,if_pos (by omega),Sr f s (x/2) (by omega),Int.ediv_ediv_of_nonneg (by omega),Int.pow_succ,Int.mul_comm 2]
  omega
theorem Xq (T:ByteArray) (hs:T.size=256) (h:(List.range 256).all (fun y=>(T.data.toList.getD y 0).toNat==(EX 8 (y:Int)).toNat)=true) (y:Nat) (hy:y<256):∃ c:UInt8,T[y]?=some c∧(c.toNat:Int)=EX 8 y:=by
 have h1:=List.all_eq_true.1 h y (List.mem_range.2 hy)
 have hlt:y<T.size:=by omega
 refine⟨T[y],getElem?_pos T y hlt, ?_⟩
 have h2:T.data.toList.getD y 0=T[y]:=by
  rw[List.getD_eq_getElem?_getD,Array.getElem?_toList,getElem?_pos T.data y hlt]; rfl
 rw[h2] at h1
 simp only[beq_iff_eq] at h1
 have:=L_ 8 (y:Int)
 omega
@[go_sem] theorem AGe:((8:Int)<0)=False:=by simp
@[go_sem] theorem AGU:((16:Int)<0)=False:=by simp
@[go_sem] theorem AGV:Int.toNat 8=8:=rfl
@[go_sem] theorem AFb:Int.toNat 16=16:=rfl
@[go_sem] theorem m8:min 8 64=8:=rfl
@[go_sem] theorem m16:min 16 64=16:=rfl
theorem wrap_u64 {n:Int} (h:0≤n) (h2:n<18446744073709551616):IntKind.u64.wrap n=n:=G9 (by
 simp only[Lit.wf,Bool.and_eq_true,decide_eq_true_eq]
 simp[IntKind.min,IntKind.max,IntKind.bits,IntKind.signed]
 omega)
theorem dU (x:Nat) (h0:1≤x) (h:x<2147483648):Ctr Tryz.prog 263 [.c (.v (.int .u64 (x:Int)))] [.val (.c (.v (.int .i64 (EX 32 (x:Int)))))]:=by
 refine Ctr.mk Tryz.call263 Tryz.func263 rfl mixed Tryz.ntmps263 Tryz.results263 (by kernel_rfl) rfl fun hw=>?_
 have h1:decide ((x:Int)≥4294967296)=false:=by simp; omega
 have s8:IntKind.u64.wrap ((x:Int).fdiv (2 ^ 8))=((x/256:Nat):Int):=by rw[Int.fdiv_eq_ediv_of_nonneg _ (by omega),wrap_u64 (by omega) (by omega)]; omega
 have s16:IntKind.u64.wrap ((x:Int).fdiv (2 ^ 16))=((x/65536:Nat):Int):=by rw[Int.fdiv_eq_ediv_of_nonneg _ (by omega),wrap_u64 (by omega) (by omega)]; omega
 have s24:IntKind.u64.wrap ((((x/65536:Nat):Int)).fdiv (2 ^ 8))=((x/16777216:Nat):Int):=by rw[Int.fdiv_eq_ediv_of_nonneg _ (by omega),wrap_u64 (by omega) (by omega)]; omega
 have w8 (y:Nat) (hy:y<256):IntKind.u8.wrap (y:Int)=y:=wrap_u8 (by omega) (by omega)
 have hwl (y:Nat) (hy:y<256):0≤EX 8 (y:Int)∧EX 8 (y:Int)≤8:=by
  refine⟨L_ _ _, ?_⟩
  have key:∀ (f:Nat) (x:Int),EX f x≤f:=by
   intro f
   induction f with
   | zero=>intro x; exact Int.le_refl _
   | succ f ih=>intro x; have:=ih (x/2); rw[EX]; split<;>omega
  exact key 8 _
 rcases h2:decide ((x:Int)≥65536) with _ | _
 ·rcases h3:decide ((x:Int)≥256) with _ | _
  ·have hx:x<256:=by simp at h3; omega
   simp only[go_sem,h1,h2,h3,w8 x hx]
   generalize hT:(ByteArray.mk _)=T
   obtain⟨c,hc,hcn⟩:=Xq T (by rw[← hT]; rfl) (by rw[← hT]; kernel_rfl) x hx
   have:=hwl x hx
   simp only[go_sem,NM,hc,hcn]
   have e:EX 32 (x:Int)=EX 8 x:=NF 8 24 _ (by omega)
   simp only[Int.zero_add]
   rw[wrap_i64 (n:=EX 8 (x:Int)) (by omega) (by omega),wrap_i64 (by omega) (by omega),e]
  ·have hx:x/256<256:=by simp at h2; omega
   simp only[go_sem,h1,h2,h3,s8,w8 _ hx]
   generalize hT:(ByteArray.mk _)=T
   obtain⟨c,hc,hcn⟩:=Xq T (by rw[← hT]; rfl) (by rw[← hT]; kernel_rfl) _ hx
   have:=hwl _ hx
   simp only[go_sem,NM,hc,hcn]
   have e:EX 32 (x:Int)=EX 8 ((x/256:Nat):Int)+8:=by
    rw[show (32:Nat)=24+8 from rfl,Sr 24 8 _ (by simp at h3; omega),show (x:Int)/2 ^ 8=((x/256:Nat):Int) by omega,show (24:Nat)=8+16 from rfl,NF 8 16 _ (by omega)]; rfl
   simp only[Int.zero_add]
   rw[wrap_i64 (n:=EX 8 _) (by omega) (by omega),wrap_i64 (n:=8) (by omega) (by omega),wrap_i64 (by omega) (by omega),e,Int.add_comm]
 ·rcases h3:decide (((x/65536:Nat):Int)≥256) with _ | _
  ·have hx:x/65536<256:=by simp at h3; omega
   simp only[go_sem,h1,h2,h3,s16,w8 _ hx]
   generalize hT:(ByteArray.mk _)=T
   obtain⟨c,hc,hcn⟩:=Xq T (by rw[← hT]; rfl) (by rw[← hT]; kernel_rfl) _ hx
   have:=hwl _ hx
   simp only[go_sem,NM,hc,hcn]
   have e:EX 32 (x:Int)=EX 8 ((x/65536:Nat):Int)+16:=by
    rw[show (32:Nat)=16+16 from rfl,Sr 16 16 _ (by simp at h2; omega),show (x:Int)/2 ^ 16=((x/65536:Nat):Int) by omega,show (16:Nat)=8+8 from rfl,NF 8 8 _ (by omega)]; rfl
   simp only[Int.zero_add]
   rw[wrap_i64 (n:=EX 8 _) (by omega) (by omega),wrap_i64 (n:=16) (by omega) (by omega),wrap_i64 (by omega) (by omega),e,Int.add_comm]
  ·have hx:x/16777216<256:=by omega
   simp only[go_sem,h1,h2,h3,s16,s24,w8 _ hx]
   generalize hT:(ByteArray.mk _)=T
   obtain⟨c,hc,hcn⟩:=Xq T (by rw[← hT]; rfl) (by rw[← hT]; kernel_rfl) _ hx
   have:=hwl _ hx
   simp only[go_sem,NM,hc,hcn]
   have e:EX 32 (x:Int)=EX 8 ((x/16777216:Nat):Int)+24:=by
    rw[show (32:Nat)=8+24 from rfl,Sr 8 24 _ (by simp at h3; omega),show (x:Int)/2 ^ 24=((x/16777216:Nat):Int) by omega]; rfl
   simp only[Int.zero_add]
   rw[wrap_i64 (n:=EX 8 _) (by omega) (by omega),wrap_i64 (n:=16) (by omega) (by omega),wrap_i64 (n:=16+8) (by omega) (by omega),wrap_i64 (by omega) (by omega),e,show (16:Int)+8=24 from rfl,Int.add_comm]
theorem nC (x:Nat) (h0:1≤x) (h:x<2147483648):Ctr Tryz.prog 252 [.c (.v (.int .u64 (x:Int)))] [.val (.c (.v (.int .i64 (EX 32 (x:Int)))))]:=by
 refine Ctr.mk Tryz.call252 Tryz.func252 rfl mixed Tryz.ntmps252 Tryz.results252 (by kernel_rfl) rfl fun hw=>?_
 simp only[go_sem]
 have e1:IntKind.u64.wrap (x:Int)=x:=G9 (by simp only[Lit.wf,Bool.and_eq_true,decide_eq_true_eq]; simp[IntKind.min,IntKind.max,IntKind.bits,IntKind.signed]; omega)
 try simp only[e1]
 refine CallK.mk _ (dU x h0 h) fun _=>?_
 simp only[go_sem]
theorem Ht (n:Int):Ctr Tryz.prog 222 [.c (.v (.int .i64 (n)))] [.val (.c (.v (.int .i64 (Af n))))]:=by
 refine Ctr.mk Tryz.call222 Tryz.func222 rfl mixed Tryz.ntmps222 Tryz.results222 (by kernel_rfl) rfl fun hw=>?_
 simp only[go_sem]
 refine CallK.mk _ (BK _ _ _) fun _=>?_
 rcases h:BQ n 1 2147483647 with _ | _
 ·have:Af n=0:=by
   unfold Af
   split
   ·have:n=0:=by simp[BQ] at h; omega
    subst this
    exact Vw _
   ·rfl
  simp only[go_sem,h,this]
 have hn:1≤n∧n≤2147483647:=by simp[BQ] at h; omega
 obtain⟨m,rfl⟩:=Int.eq_ofNat_of_zero_le (show 0≤n by omega)
 have e1:IntKind.u64.wrap (m:Int)=m:=G9 (by simp only[Lit.wf,Bool.and_eq_true,decide_eq_true_eq]; simp[IntKind.min,IntKind.max,IntKind.bits,IntKind.signed]; omega)
 simp only[go_sem,h,e1]
 refine CallK.mk _ (nC m (by omega) (by omega)) fun _=>?_
 simp only[go_sem,Af]
 rw[if_pos (by omega)]
theorem UQ (k w:Int):Ctr Tryz.prog 250 [.c (.v (.int .i64 (k))),.c (.v (.int .i64 (w)))] [.val (.c (.v (.int .i64 (D7 k w))))]:=by
 refine Ctr.mk Tryz.call250 Tryz.func250 rfl mixed Tryz.ntmps250 Tryz.results250 (by kernel_rfl) rfl fun hw=>?_
 simp only[go_sem]
 refine CallK.mk _ (BK _ _ _) fun _=>?_
 rcases h:BQ k 0 64 with _ | _
 ·have:¬ ((0≤k∧k≤64)∧0≤w∧w≤31):=by simp[BQ] at h; omega
  simp only[go_sem,h,D7,if_neg this]
 simp only[go_sem,h]
 refine CallK.mk _ (BK _ _ _) fun _=>?_
 rcases h2:BQ w 0 31 with _ | _
 ·have:¬ ((0≤k∧k≤64)∧0≤w∧w≤31):=by simp[BQ] at h2; omega
  simp only[go_sem,h,h2,D7,if_neg this]
 have hk:0≤k∧k≤64:=by simp[BQ] at h; omega
 have hw:0≤w∧w≤31:=by simp[BQ] at h2; omega
 have hm:0≤k*w:=Int.mul_nonneg hk.1 hw.1
 have hm2:k*w≤64*31:=Int.le_trans (Int.mul_le_mul_of_nonneg_right hk.2 hw.1) (Int.mul_le_mul_of_nonneg_left hw.2 (by omega))
 have e1:IntKind.i64.wrap (k*w)=k*w:=wrap_i64 (by omega) (by omega)
 have e2:IntKind.i64.wrap (k*w+7)=k*w+7:=wrap_i64 (by omega) (by omega)
 have e3:IntKind.i64.wrap ((k*w+7).tdiv 8)=(k*w+7)/8:=by rw[Int.tdiv_eq_ediv_of_nonneg (by omega),wrap_i64 (by omega) (by omega)]
 simp only[go_sem,h,h2,D7,hk,hw,e1,e2,e3,and_self,if_true]
theorem UR (k w:Int):Ctr Tryz.prog 238 [.c (.v (.int .i64 (k))),.c (.v (.int .i64 (w)))] [.val (.c (.v (.int .i64 (D7 k w))))]:=by
 refine Ctr.mk Tryz.call238 Tryz.func238 rfl mixed Tryz.ntmps238 Tryz.results238 (by kernel_rfl) rfl fun hw=>?_
 simp only[go_sem]
 refine CallK.mk _ (Am _ _ _) fun _=>?_
 rcases h:BQ k 0 64 with _ | _
 ·have:¬ ((0≤k∧k≤64)∧0≤w∧w≤31):=by simp[BQ] at h; omega
  simp only[go_sem,h,D7,if_neg this]
 simp only[go_sem,h]
 refine CallK.mk _ (Am _ _ _) fun _=>?_
 rcases h2:BQ w 0 31 with _ | _
 ·have:¬ ((0≤k∧k≤64)∧0≤w∧w≤31):=by simp[BQ] at h2; omega
  simp only[go_sem,h,h2,D7,if_neg this]
 have hk:0≤k∧k≤64:=by simp[BQ] at h; omega
 have hw:0≤w∧w≤31:=by simp[BQ] at h2; omega
 have hm:0≤k*w:=Int.mul_nonneg hk.1 hw.1
 have hm2:k*w≤64*31:=Int.le_trans (Int.mul_le_mul_of_nonneg_right hk.2 hw.1) (Int.mul_le_mul_of_nonneg_left hw.2 (by omega))
 have e1:IntKind.i64.wrap (k*w)=k*w:=wrap_i64 (by omega) (by omega)
 have e2:IntKind.i64.wrap (k*w+7)=k*w+7:=wrap_i64 (by omega) (by omega)
 have e3:IntKind.i64.wrap ((k*w+7).tdiv 8)=(k*w+7)/8:=by rw[Int.tdiv_eq_ediv_of_nonneg (by omega),wrap_i64 (by omega) (by omega)]
 simp only[go_sem,h,h2,D7,hk,hw,e1,e2,e3,and_self,if_true]
theorem RY (b:List Int) (n:Int) (hb:AY b) (hl:b.length≤1048576) (hn:n≤1000000000):Ctr Tryz.prog 251 [.c (.sl (b.map byteC)),.c (.v (.int .i64 (n)))] [.val (.c (.v (.int .i64 (Dj b n))))]:=by
 refine Ctr.mk Tryz.call251 Tryz.func251 rfl mixed Tryz.ntmps251 Tryz.results251 (by kernel_rfl) rfl fun hw=>?_
 rcases h0:decide (n<0) with _ | _
 rotate_left
 ·have:n<0:=by simpa using h0
  simp only[go_sem,h0,Dj,if_pos this]
 have hn0:0≤n:=by simpa using h0
 obtain⟨m,rfl⟩:=Int.eq_ofNat_of_zero_le hn0
 have e1:IntKind.i64.wrap ((m:Int).tdiv 8)=((m/8:Nat):Int):=by rw[Int.tdiv_eq_ediv_of_nonneg (by omega),wrap_i64 (by omega) (by omega)]; omega
 have e2:IntKind.i64.wrap ((m:Int).tmod 8)=((m%8:Nat):Int):=by rw[Int.tmod_eq_emod_of_nonneg (by omega),wrap_i64 (by omega) (by omega)]; omega
 have hba:Dj b (m:Int)=match b[m/8]? with | some c=>c/2 ^ (m%8)%2 | none=>0:=by
  unfold Dj
  rw[if_neg (by omega)]
  have q1:((m:Int)/8).toNat=m/8:=by omega
  have q2:((m:Int)%8).toNat=m%8:=by omega
  rw[q1,q2]
  rfl
 rw[hba]
 rcases h1:decide (((m/8:Nat):Int)≥(b.length:Int)) with _ | _
 rotate_left
 ·have:b.length≤m/8:=by simp at h1; omega
  simp only[go_sem,h0,h1,e1,List.length_map,List.getElem?_eq_none this]
 have hlt:m/8<b.length:=by simp at h1; omega
 obtain⟨c0,c1⟩:=hb _ (List.getElem_mem hlt)
 rw[List.getElem?_eq_getElem hlt]
 generalize hc:b[m/8]=c at c0 c1
 simp only[go_sem,h0,h1,e1,e2,List.length_map,AA _ hlt,hc]
 have hP:0≤c/2 ^ (m%8):=Int.ediv_nonneg (by omega) (Int.pow_nonneg (by omega))
 have hP2:c/2 ^ (m%8)≤c:=Int.ediv_le_self _ (by omega)
 rw[Int.fdiv_eq_ediv_of_nonneg _ (Int.pow_nonneg (by omega))]
 rw[show min (m%8) 8=m%8 by omega,wrap_u8 hP (by omega),ww hP (by omega),wrap_u8 (by omega) (by omega),wrap_i64 (by omega) (by omega)]
theorem RZ (b:List Int) (n:Int) (hb:AY b) (hl:b.length≤1048576) (hn:n≤1000000000):Ctr Tryz.prog 239 [.c (.sl (b.map byteC)),.c (.v (.int .i64 (n)))] [.val (.c (.v (.int .i64 (Dj b n))))]:=by
 refine Ctr.mk Tryz.call239 Tryz.func239 rfl mixed Tryz.ntmps239 Tryz.results239 (by kernel_rfl) rfl fun hw=>?_
 rcases h0:decide (n<0) with _ | _
 rotate_left
 ·have:n<0:=by simpa using h0
  simp only[go_sem,h0,Dj,if_pos this]
 have hn0:0≤n:=by simpa using h0
 obtain⟨m,rfl⟩:=Int.eq_ofNat_of_zero_le hn0
 have e1:IntKind.i64.wrap ((m:Int).tdiv 8)=((m/8:Nat):Int):=by rw[Int.tdiv_eq_ediv_of_nonneg (by omega),wrap_i64 (by omega) (by omega)]; omega
 have e2:IntKind.i64.wrap ((m:Int).tmod 8)=((m%8:Nat):Int):=by rw[Int.tmod_eq_emod_of_nonneg (by omega),wrap_i64 (by omega) (by omega)]; omega
 have hba:Dj b (m:Int)=match b[m/8]? with | some c=>c/2 ^ (m%8)%2 | none=>0:=by
  unfold Dj
  rw[if_neg (by omega)]
  have q1:((m:Int)/8).toNat=m/8:=by omega
  have q2:((m:Int)%8).toNat=m%8:=by omega
  rw[q1,q2]
  rfl
 rw[hba]
 rcases h1:decide (((m/8:Nat):Int)≥(b.length:Int)) with _ | _
 rotate_left
 ·have:b.length≤m/8:=by simp at h1; omega
  simp only[go_sem,h0,h1,e1,List.length_map,List.getElem?_eq_none this]
 have hlt:m/8<b.length:=by simp at h1; omega
 obtain⟨c0,c1⟩:=hb _ (List.getElem_mem hlt)
 rw[List.getElem?_eq_getElem hlt]
 generalize hc:b[m/8]=c at c0 c1
 simp only[go_sem,h0,h1,e1,e2,List.length_map,AA _ hlt,hc]
 rw[wrap_i64 (n:=c) (by omega) (by omega)]
 have hP:0≤c/2 ^ (m%8):=Int.ediv_nonneg (by omega) (Int.pow_nonneg (by omega))
 have hP2:c/2 ^ (m%8)≤c:=Int.ediv_le_self _ (by omega)
 rw[Int.fdiv_eq_ediv_of_nonneg _ (Int.pow_nonneg (by omega))]
 rw[show min (m%8) 64=m%8 by omega,wrap_i64 (n:=c/2 ^ (m%8)) (by omega) (by omega),sG hP (by omega),wrap_i64 (by omega) (by omega)]
theorem UT (l:List Int) (hl:l.length≤1048576):Ctr Tryz.prog 257 [.c (.sl (l.map intC))] [.val (.c (.v (.int .i64 (BU l))))]:=by
 refine Ctr.mk Tryz.call257 Tryz.func257 rfl mixed Tryz.ntmps257 Tryz.results257 (by kernel_rfl) rfl fun hw=>?_
 simp only[go_sem,List.length_map]
 refine LoopU.mk 0 (A:=Nat×Int) (fun x=>[(8,.c (.v (.int .i64 (x.1)))),(3,.c (.v (.int .i64 (x.2))))]) (fun _=>[]) (fun x=>x.1≤l.length∧(l.drop x.1).foldl (fun w n=>max w (Af n)) x.2=BU l) (fun x=>l.length-x.1) (0,0) ⟨⟨rfl,rfl⟩,rfl,Nat.zero_le _,rfl⟩ ?_
 rintro⟨i,w⟩ ⟨hi,hb⟩
 dsimp only at hi hb
 simp only[go_sem,List.length_map]
 refine cndC.mk (fun h=>?_) (fun h=>?_)
 ·have hi':i<l.length:=by simpa using h
  rw[List.drop_eq_getElem_cons hi',List.foldl_cons] at hb
  simp only[go_sem,List.length_map,AA _ hi']
  refine CallK.mk _ (Ht _) fun _=>?_
  simp only[go_sem,List.length_map,wrap_i64 (n:=(i:Int)+1) (by omega) (by omega)]
  have hm:(if w<Af l[i] then Af l[i] else w)=max w (Af l[i]):=by split<;>omega
  exact⟨(i+1,if w<Af l[i] then Af l[i] else w),⟨rfl,rfl⟩,rfl,⟨hi',by simp only; rw[hm]; exact hb⟩,by simp only; omega⟩
 ·have hi':i=l.length:=by simp at h; omega
  subst hi'
  rw[List.drop_length] at hb
  simp only[go_sem]
  rw[← hb]; rfl
theorem UU (l:List Int) (hl:l.length≤1048576):Ctr Tryz.prog 245 [.c (.sl (l.map intC))] [.val (.c (.v (.int .i64 (BU l))))]:=by
 refine Ctr.mk Tryz.call245 Tryz.func245 rfl mixed Tryz.ntmps245 Tryz.results245 (by kernel_rfl) rfl fun hw=>?_
 simp only[go_sem,List.length_map]
 refine LoopU.mk 0 (A:=Nat×Int) (fun x=>[(4,.c (.v (.int .i64 (x.1)))),(3,.c (.v (.int .i64 (x.2))))]) (fun _=>[]) (fun x=>x.1≤l.length∧(l.drop x.1).foldl (fun w n=>max w (Af n)) x.2=BU l) (fun x=>l.length-x.1) (0,0) ⟨⟨rfl,rfl⟩,rfl,Nat.zero_le _,rfl⟩ ?_
 rintro⟨i,w⟩ ⟨hi,hb⟩
 dsimp only at hi hb
 simp only[go_sem,List.length_map]
 refine cndC.mk (fun h=>?_) (fun h=>?_)
 ·have hi':i<l.length:=by simpa using h
  rw[List.drop_eq_getElem_cons hi',List.foldl_cons] at hb
  simp only[go_sem,List.length_map,AA _ hi']
  refine CallK.mk _ (GL _) fun _=>?_
  rcases h2:decide (Af l[i]>w) with _ | _
  ·have h2':Af l[i]≤w:=by simpa using h2
   simp only[go_sem,h2,List.length_map,wrap_i64 (n:=(i:Int)+1) (by omega) (by omega)]
   exact⟨(i+1,w),⟨rfl,rfl⟩,rfl,⟨hi',by simp only; rw[← hb,Int.max_eq_left h2']⟩,by simp only; omega⟩
  ·have h2':w≤Af l[i]:=by simp at h2; omega
   simp only[go_sem,h2,List.length_map,AA _ hi']
   refine CallK.mk _ (GL _) fun _=>?_
   simp only[go_sem,h2,List.length_map,wrap_i64 (n:=(i:Int)+1) (by omega) (by omega)]
   exact⟨(i+1,Af l[i]),⟨rfl,rfl⟩,rfl,⟨hi',by simp only; rw[← hb,Int.max_eq_right h2']⟩,by simp only; omega⟩
 ·have hi':i=l.length:=by simp at h; omega
  subst hi'
  rw[List.drop_length] at hb
  simp only[go_sem]
  rw[← hb]; rfl
end Go.Proofs.YthoeeoddgkjkkaaGreat
/- Walks: bits packed and unpacked. -/
namespace Go.Proofs.YthoeeoddgkjkkaaGreat
set_option linter.unusedSimpArgs false
set_option linter.unusedVariables false
open Go.Vm
set_option maxHeartbeats 2000000
set_option maxRecDepth 10000
theorem all1 {p:Ob→Bool} {x:Ob} (h:p x=true) : [x].all p=true:=by simp[h]
def Su:Option (List Int)→List Res
 | some l=>[.own 3 1 (l.map intC) true,.val (.c (.v (.bool (true))))]
 | none=>[.own 3 1 [] true,.val (.c (.v (.bool (false))))]
def YD (b:List Int) (W i:Nat):List Int:=(List.range i).map fun m:Nat=>I5 b ((m:Int)*W) W
theorem gZ (b:List Int) (W i:Nat):(YD b W i).length=i:=by simp[YD]
theorem UV (b:List Int) (n:Int):0≤Dj b n∧Dj b n≤1:=by
 unfold Dj
 split
 ·omega
 ·split
  ·omega
  ·omega
theorem UW (b:List Int) (o:Int):∀ j:Nat,0≤I5 b o j∧I5 b o j<2 ^ j
 | 0=>by simp[I5]
 | j+1=>by
  have h1:=UW b o j
  have h2:=UV b (o+j)
  have hp:(0:Int)<2 ^ j:=Int.pow_pos (by omega)
  have h3:0≤Dj b (o+j)*2 ^ j:=Int.mul_nonneg h2.1 (by omega)
  have h4:Dj b (o+j)*2 ^ j≤1*2 ^ j:=Int.mul_le_mul_of_nonneg_right h2.2 (by omega)
  rw[I5,Int.pow_succ]; omega
theorem Pj (b:List Int) (w k:Int) (hb:AY b) (hl:b.length≤1048576):Ctr Tryz.prog 221 [.c (.sl (b.map byteC)),.c (.v (.int .i64 (w))),.c (.v (.int .i64 (k)))] (Su (unpack b w k)):=by
 refine Ctr.mk Tryz.call221 Tryz.func221 rfl mixed Tryz.ntmps221 Tryz.results221 (by kernel_rfl) rfl fun hw=>?_
 simp only[go_sem,List.length_map]
 refine CallK.mk _ (BK _ _ _) fun _=>?_
 rcases h1:BQ w 0 31 with _ | _
 ·have:unpack b w k=none:=by unfold unpack; rw[if_neg]; rintro⟨⟨q1,q2,_⟩,_⟩; simp[BQ] at h1; omega
  rw[this]
  simp only[go_sem,h1,Su]
  try simp[CY]
 simp only[go_sem,h1]
 refine CallK.mk _ (BK _ _ _) fun _=>?_
 rcases h2:BQ k 0 64 with _ | _
 ·have:unpack b w k=none:=by unfold unpack; rw[if_neg]; rintro⟨⟨q1,q2,_⟩,_⟩; simp[BQ] at h2; omega
  rw[this]
  simp only[go_sem,h1,h2,Su]
  try simp[CY]
 simp only[go_sem,h1,h2,List.length_map]
 refine CallK.mk _ (UQ _ _) fun _=>?_
 rcases h3:(b.length:Int) != D7 k w with _ | _
 rotate_left
 ·have:unpack b w k=none:=by unfold unpack; rw[if_neg]; rintro⟨⟨_,_,q⟩,_⟩; simp[q] at h3
  rw[this]
  simp only[go_sem,h1,h2,h3,List.length_map,Su]
  try simp[CY]
 have hlen:(b.length:Int)=D7 k w:=by simpa using h3
 have hw0:0≤w∧w≤31:=by simp[BQ] at h1 h2; omega
 have hk0:0≤k∧k≤64:=by simp[BQ] at h1 h2; omega
 simp only[go_sem,h1,h2,h3,List.length_map]
 obtain⟨W,rfl⟩:=Int.eq_ofNat_of_zero_le hw0.1
 obtain⟨K,rfl⟩:=Int.eq_ofNat_of_zero_le hk0.1
 have hKW:K*W≤64*31:=Nat.mul_le_mul (by omega) (by omega)
 have hlen8:b.length=(K*W+7)/8:=by
  unfold D7 at hlen
  rw[if_pos ⟨hk0,hw0⟩] at hlen
  have:(K:Int)*W=((K*W:Nat):Int):=by simp
  omega
 have hsucc:∀ i:Nat,(YD b W (i+1)).map intC=(YD b W i).map intC ++ [[.v (.int .i64 (I5 b ((i:Int)*W) W))]]:=fun i=>by
  rw[YD,List.range_succ,List.map_append,List.map_append]; rfl
 refine LoopH.mk [29] (A:=Nat) (fun i=>[(9,.c (.v (.int .i64 (i)))),(8,.c (.ref 0))]) (fun i=>[⟨3,1,(YD b W i).map intC,true,true⟩]) (fun i=>i≤K) (fun i=>K-i) 0 (Head.sel [(0,false)] ⟨rfl,rfl,rfl,trivial⟩ rfl) (Nat.zero_le _) ?_
 intro i hi
 simp only[go_sem,List.length_map]
 refine cndC.mk (fun h=>?_) (fun h=>?_)
 ·have hi':i<K:=by simp at h; omega
  have hiW:i*W≤64*31:=Nat.mul_le_mul (by omega) (by omega)
  have eiW:(i:Int)*W=((i*W:Nat):Int):=by simp
  have e1:IntKind.i64.wrap ((i:Int)*W)=((i:Int)*W):=wrap_i64 (by omega) (by omega)
  simp only[go_sem]
  refine LoopU.mk 1 (A:=Nat) (fun j=>[(11,.c (.v (.int .i64 (j)))),(10,.c (.v (.int .i64 (I5 b ((i:Int)*W) j))))]) (fun _=>[⟨3,1,(YD b W i).map intC,true,true⟩]) (fun j=>j≤W) (fun j=>W-j) 0 ⟨⟨rfl,all1 (Ad (Bj _))⟩,rfl,Nat.zero_le _⟩ ?_
  intro j hj
  simp only[go_sem,List.length_map]
  refine cndC.mk (fun h2=>?_) (fun h2=>?_)
  ·have hj':j<W:=by simp at h2; omega
   have e2:IntKind.i64.wrap ((i:Int)*W+j)=(i:Int)*W+j:=wrap_i64 (by omega) (by omega)
   have h01:=UV b ((i:Int)*W+j)
   have hbd:=UW b ((i:Int)*W) j
   have hp:(0:Int)<2 ^ j:=Int.pow_pos (by omega)
   have hp2:(2:Int) ^ j≤2 ^ 31:=by exact_mod_cast Nat.pow_le_pow_right (by omega) (by omega)
   have h3:0≤Dj b ((i:Int)*W+j)*2 ^ j:=Int.mul_nonneg h01.1 (by omega)
   have h4:Dj b ((i:Int)*W+j)*2 ^ j≤1*2 ^ j:=Int.mul_le_mul_of_nonneg_right h01.2 (by omega)
   have e3:IntKind.i64.wrap (Dj b ((i:Int)*W+j)*2 ^ min j 64)=Dj b ((i:Int)*W+j)*2 ^ j:=by
    rw[Nat.min_eq_left (by omega),wrap_i64 (by omega) (by omega)]
   have e4:IntKind.i64.wrap (kW .i64 (I5 b ((i:Int)*W) j) (Dj b ((i:Int)*W+j)*2 ^ j))=I5 b ((i:Int)*W) (j+1):=by
    rw[UO .i64 hbd.1 hbd.2 h01.1 (by simp[IntKind.bits]; omega),wrap_i64 (by omega) (by omega)]; rfl
   simp only[go_sem,e1,e2]
   refine CallK.mk _ (RY b _ hb hl (by omega)) fun _=>?_
   simp only[go_sem,e3,e4,wrap_i64 (n:=(j:Int)+1) (by omega) (by omega)]
   exact⟨j+1,⟨rfl,all1 (Ad (Bj _))⟩,rfl,by omega,by omega⟩
  ·have hj':j=W:=by simp at h2; omega
   subst hj'
   have hol2:i+1≤2147483648:=by omega
   simp only[go_sem,List.length_map,gZ,List.all_cons,List.all_nil,hol2,Option.getD_some,wrap_i64 (n:=(i:Int)+1) (by omega) (by omega)]
   exact⟨i+1,Head.sel [(2,false)] ⟨rfl,rfl,by rw[← hsucc]; exact AL (fun _=>rfl),trivial⟩ (by rw[← hsucc]; rfl),hi',by omega⟩
 ·have hi':i=K:=by simp at h; omega
  subst hi'
  have ekw:(i:Int)*W=((i*W:Nat):Int):=by simp
  have e1:IntKind.i64.wrap ((i:Int)*W)=((i*W:Nat):Int):=by rw[wrap_i64 (by omega) (by omega),ekw]
  have e8:IntKind.i64.wrap (8*(b.length:Int))=((8*b.length:Nat):Int):=by rw[wrap_i64 (by omega) (by omega)]; omega
  simp only[go_sem,e1]
  refine LoopU.mk 1 (A:=Nat) (fun n=>[(12,.c (.v (.int .i64 ((n:Int)))))]) (fun _=>[⟨3,1,(YD b W i).map intC,true,true⟩]) (fun n=>i*W≤n∧n≤8*b.length∧∀ m,i*W≤m→m<n→Dj b (m:Int)=0) (fun n=>8*b.length-n) (i*W) ⟨⟨rfl,all1 (Ad (Bj _))⟩,rfl,Nat.le_refl _,by omega,fun m h1 h2=>by omega⟩ ?_
  rintro n ⟨hn1,hn2,hz⟩
  simp only[go_sem,List.length_map,e8]
  refine cndC.mk (fun h2=>?_) (fun h2=>?_)
  ·have hn':n<8*b.length:=by simp at h2; omega
   simp only[go_sem]
   refine CallK.mk _ (RY b _ hb hl (by omega)) fun _=>?_
   rcases h5:Dj b (n:Int) != 0 with _ | _
   ·have h5':Dj b (n:Int)=0:=by simpa using h5
    simp only[go_sem,h5,wrap_i64 (n:=(n:Int)+1) (by omega) (by omega)]
    exact⟨n+1,⟨rfl,all1 (Ad (Bj _))⟩,rfl,⟨by omega,by omega,fun m h1 h2=>by
     by_cases e:m=n
     ·subst e; exact h5'
     ·exact hz m h1 (by omega)⟩,by omega⟩
   ·have h5':Dj b (n:Int)≠0:=by simpa using h5
    have:unpack b W i=none:=by
     unfold unpack
     rw[if_neg]
     rintro⟨_,q⟩
     exact h5' (q n (List.mem_range.2 hn') (by omega))
    rw[this]
    simp only[go_sem,h5,Su]
    try simp[CY]
  ·have hn':n=8*b.length:=by simp at h2; omega
   subst hn'
   have:unpack b W i=some (YD b W i):=by
    unfold unpack
    rw[if_pos ⟨⟨hw0,hk0,hlen⟩,fun n hn h=>hz n (by omega) (List.mem_range.1 hn)⟩]
    simp only[Int.toNat_natCast,YD]
   rw[this]
   simp only[go_sem,Su,Bj]
   try simp[AU,AC]
theorem Pm (b:List Int) (w k:Int) (hb:AY b) (hl:b.length≤1048576):Ctr Tryz.prog 205 [.c (.sl (b.map byteC)),.c (.v (.int .i64 (w))),.c (.v (.int .i64 (k)))] (Su (unpack b w k)):=by
 refine Ctr.mk Tryz.call205 Tryz.func205 rfl mixed Tryz.ntmps205 Tryz.results205 (by kernel_rfl) rfl fun hw=>?_
 simp only[go_sem,List.length_map]
 refine CallK.mk _ (Am _ _ _) fun _=>?_
 rcases h1:BQ k 0 64 with _ | _
 ·have:unpack b w k=none:=by unfold unpack; rw[if_neg]; rintro⟨⟨q1,q2,_⟩,_⟩; simp[BQ] at h1; omega
  rw[this]
  simp only[go_sem,h1,Su]
  try simp[CY]
 simp only[go_sem,h1]
 refine CallK.mk _ (Am _ _ _) fun _=>?_
 rcases h2:BQ w 0 31 with _ | _
 ·have:unpack b w k=none:=by unfold unpack; rw[if_neg]; rintro⟨⟨q1,q2,_⟩,_⟩; simp[BQ] at h2; omega
  rw[this]
  simp only[go_sem,h1,h2,Su]
  try simp[CY]
 simp only[go_sem,h1,h2,List.length_map]
 refine CallK.mk _ (UR _ _) fun _=>?_
 rcases h3:(b.length:Int) != D7 k w with _ | _
 rotate_left
 ·have:unpack b w k=none:=by unfold unpack; rw[if_neg]; rintro⟨⟨_,_,q⟩,_⟩; simp[q] at h3
  rw[this]
  simp only[go_sem,h1,h2,h3,List.length_map,Su]
  try simp[CY]
 have hlen:(b.length:Int)=D7 k w:=by simpa using h3
 have hw0:0≤w∧w≤31:=by simp[BQ] at h1 h2; omega
 have hk0:0≤k∧k≤64:=by simp[BQ] at h1 h2; omega
 simp only[go_sem,h1,h2,h3,List.length_map]
 obtain⟨W,rfl⟩:=Int.eq_ofNat_of_zero_le hw0.1
 obtain⟨K,rfl⟩:=Int.eq_ofNat_of_zero_le hk0.1
 have hKW:K*W≤64*31:=Nat.mul_le_mul (by omega) (by omega)
 have hlen8:b.length=(K*W+7)/8:=by
  unfold D7 at hlen
  rw[if_pos ⟨hk0,hw0⟩] at hlen
  have:(K:Int)*W=((K*W:Nat):Int):=by simp
  omega
 have hsucc:∀ i:Nat,(YD b W (i+1)).map intC=(YD b W i).map intC ++ [[.v (.int .i64 (I5 b ((i:Int)*W) W))]]:=fun i=>by
  rw[YD,List.range_succ,List.map_append,List.map_append]; rfl
 refine LoopH.mk [13] (A:=Nat) (fun i=>[(9,.c (.v (.int .i64 (i)))),(8,.c (.ref 0))]) (fun i=>[⟨3,1,(YD b W i).map intC,true,true⟩]) (fun i=>i≤K) (fun i=>K-i) 0 (Head.sel [(0,false)] ⟨rfl,rfl,rfl,trivial⟩ rfl) (Nat.zero_le _) ?_
 intro i hi
 simp only[go_sem,List.length_map]
 refine cndC.mk (fun h=>?_) (fun h=>?_)
 ·have hi':i<K:=by simp at h; omega
  have hiW:i*W≤64*31:=Nat.mul_le_mul (by omega) (by omega)
  have eiW:(i:Int)*W=((i*W:Nat):Int):=by simp
  have e1:IntKind.i64.wrap ((i:Int)*W)=((i:Int)*W):=wrap_i64 (by omega) (by omega)
  simp only[go_sem]
  refine LoopU.mk 1 (A:=Nat) (fun j=>[(11,.c (.v (.int .i64 (j)))),(10,.c (.v (.int .i64 (I5 b ((i:Int)*W) j))))]) (fun _=>[⟨3,1,(YD b W i).map intC,true,true⟩]) (fun j=>j≤W) (fun j=>W-j) 0 ⟨⟨rfl,all1 (Ad (Bj _))⟩,rfl,Nat.zero_le _⟩ ?_
  intro j hj
  simp only[go_sem,List.length_map]
  refine cndC.mk (fun h2=>?_) (fun h2=>?_)
  ·have hj':j<W:=by simp at h2; omega
   have e2:IntKind.i64.wrap ((i:Int)*W+j)=(i:Int)*W+j:=wrap_i64 (by omega) (by omega)
   have h01:=UV b ((i:Int)*W+j)
   have hbd:=UW b ((i:Int)*W) j
   have hp:(0:Int)<2 ^ j:=Int.pow_pos (by omega)
   have hp2:(2:Int) ^ j≤2 ^ 31:=by exact_mod_cast Nat.pow_le_pow_right (by omega) (by omega)
   have h3:0≤Dj b ((i:Int)*W+j)*2 ^ j:=Int.mul_nonneg h01.1 (by omega)
   have h4:Dj b ((i:Int)*W+j)*2 ^ j≤1*2 ^ j:=Int.mul_le_mul_of_nonneg_right h01.2 (by omega)
   have e3:IntKind.i64.wrap (Dj b ((i:Int)*W+j)*2 ^ min j 64)=Dj b ((i:Int)*W+j)*2 ^ j:=by
    rw[Nat.min_eq_left (by omega),wrap_i64 (by omega) (by omega)]
   have e4:IntKind.i64.wrap (kW .i64 (I5 b ((i:Int)*W) j) (Dj b ((i:Int)*W+j)*2 ^ j))=I5 b ((i:Int)*W) (j+1):=by
    rw[UO .i64 hbd.1 hbd.2 h01.1 (by simp[IntKind.bits]; omega),wrap_i64 (by omega) (by omega)]; rfl
   simp only[go_sem,e1,e2]
   refine CallK.mk _ (RZ b _ hb hl (by omega)) fun _=>?_
   simp only[go_sem,e3,e4,wrap_i64 (n:=(j:Int)+1) (by omega) (by omega)]
   exact⟨j+1,⟨rfl,all1 (Ad (Bj _))⟩,rfl,by omega,by omega⟩
  ·have hj':j=W:=by simp at h2; omega
   subst hj'
   have hol2:i+1≤2147483648:=by omega
   simp only[go_sem,List.length_map,gZ,List.all_cons,List.all_nil,hol2,Option.getD_some,wrap_i64 (n:=(i:Int)+1) (by omega) (by omega)]
   exact⟨i+1,Head.sel [(2,false)] ⟨rfl,rfl,by rw[← hsucc]; exact AL (fun _=>rfl),trivial⟩ (by rw[← hsucc]; rfl),hi',by omega⟩
 ·have hi':i=K:=by simp at h; omega
  subst hi'
  have ekw:(i:Int)*W=((i*W:Nat):Int):=by simp
  have e1:IntKind.i64.wrap ((i:Int)*W)=((i*W:Nat):Int):=by rw[wrap_i64 (by omega) (by omega),ekw]
  have e8:IntKind.i64.wrap (8*(b.length:Int))=((8*b.length:Nat):Int):=by rw[wrap_i64 (by omega) (by omega)]; omega
  simp only[go_sem,e1]
  refine LoopU.mk 1 (A:=Nat) (fun n=>[(12,.c (.v (.int .i64 ((n:Int)))))]) (fun _=>[⟨3,1,(YD b W i).map intC,true,true⟩]) (fun n=>i*W≤n∧n≤8*b.length∧∀ m,i*W≤m→m<n→Dj b (m:Int)=0) (fun n=>8*b.length-n) (i*W) ⟨⟨rfl,all1 (Ad (Bj _))⟩,rfl,Nat.le_refl _,by omega,fun m h1 h2=>by omega⟩ ?_
  rintro n ⟨hn1,hn2,hz⟩
  simp only[go_sem,List.length_map,e8]
  refine cndC.mk (fun h2=>?_) (fun h2=>?_)
  ·have hn':n<8*b.length:=by simp at h2; omega
   simp only[go_sem]
   refine CallK.mk _ (RZ b _ hb hl (by omega)) fun _=>?_
   rcases h5:Dj b (n:Int) != 0 with _ | _
   ·have h5':Dj b (n:Int)=0:=by simpa using h5
    simp only[go_sem,h5,wrap_i64 (n:=(n:Int)+1) (by omega) (by omega)]
    exact⟨n+1,⟨rfl,all1 (Ad (Bj _))⟩,rfl,⟨by omega,by omega,fun m h1 h2=>by
     by_cases e:m=n
     ·subst e; exact h5'
     ·exact hz m h1 (by omega)⟩,by omega⟩
   ·have h5':Dj b (n:Int)≠0:=by simpa using h5
    have:unpack b W i=none:=by
     unfold unpack
     rw[if_neg]
     rintro⟨_,q⟩
     exact h5' (q n (List.mem_range.2 hn') (by omega))
    rw[this]
    simp only[go_sem,h5,Su]
    try simp[CY]
  ·have hn':n=8*b.length:=by simp at h2; omega
   subst hn'
   have:unpack b W i=some (YD b W i):=by
    unfold unpack
    rw[if_pos ⟨⟨hw0,hk0,hlen⟩,fun n hn h=>hz n (by omega) (List.mem_range.1 hn)⟩]
    simp only[Int.toNat_natCast,YD]
   rw[this]
   simp only[go_sem,Su,Bj]
   try simp[AU,AC]
end Go.Proofs.YthoeeoddgkjkkaaGreat
