/- Walks: bits packed. -/
import Derived.Test.YthoeeoddgkjkkaaGreatYd
namespace Go.Proofs.YthoeeoddgkjkkaaGreat
set_option linter.unusedSimpArgs false
set_option linter.unusedVariables false
open Go.Vm
set_option maxHeartbeats 2000000
set_option maxRecDepth 10000
def Qb (l:List Int) (w:Int):Prop:=(0≤w∧w≤31)∧∀ n∈l,(0≤n∧n≤2147483647)∧Af n≤w
def pb (l:List Int) (W N m:Nat):Int:=EL l (W:Int) m (min 8 (N-8*m))
def P_ (l:List Int) (W N c:Nat):List Int:=(List.range c).map fun m=>pb l W N m
theorem IZ (l:List Int) (W N c:Nat):(P_ l W N c).length=c:=by simp[P_]
theorem OW (l:List Int) (w:Int) (n:Nat):0≤DZ l w n∧DZ l w n≤1:=by
 unfold DZ
 split<;>omega
theorem Rf (l:List Int) (w:Int) (m:Nat):∀ t:Nat,0≤EL l w m t∧EL l w m t<2 ^ t
 | 0=>by simp[EL]
 | t+1=>by
  have h1:=Rf l w m t
  have h2:=OW l w (8*m+t)
  have hp:(0:Int)<2 ^ t:=Int.pow_pos (by omega)
  have h3:0≤DZ l w (8*m+t)*2 ^ t:=Int.mul_nonneg h2.1 (by omega)
  have h4:DZ l w (8*m+t)*2 ^ t≤1*2 ^ t:=Int.mul_le_mul_of_nonneg_right h2.2 (by omega)
  rw[EL,Int.pow_succ]; omega
theorem Zo {l:List Int} {W n:Nat} (h:l.length*W≤n) (hW:0<W):DZ l (W:Int) n=0:=by
 unfold DZ
 rw[Int.toNat_natCast,List.getElem?_eq_none]
 exact(Nat.le_div_iff_mul_le hW).2 h
theorem Pn {l:List Int} {W m:Nat} (hW:0<W):∀ t s:Nat,l.length*W≤8*m+t→EL l (W:Int) m (t+s)=EL l (W:Int) m t
 | t,0,_=>rfl
 | t,s+1,h=>by
  rw[show t+(s+1)=(t+s)+1 by omega,EL,Zo (by omega) hW,Pn hW t s h]; simp
theorem w_ {l:List Int} {W m:Nat} (hW:0<W):pb l W (l.length*W) m=EL l (W:Int) m 8:=by
 unfold pb
 rcases Nat.lt_or_ge (l.length*W-8*m) 8 with h | h
 ·rw[Nat.min_eq_right (by omega)]
  have:=Pn (l:=l) (m:=m) hW (l.length*W-8*m) (8-(l.length*W-8*m)) (by omega)
  rw[← this]; congr 1; omega
 ·rw[Nat.min_eq_left h]
theorem Rh {l:List Int} {W:Nat} (h:Qb l W):DL l W=P_ l W (l.length*W) ((l.length*W+7)/8):=by
 unfold DL P_
 unfold Qb at h
 rw[if_pos h,Int.toNat_natCast]
 refine List.map_congr_left fun m hm=>?_
 have hm':=List.mem_range.1 hm
 rcases Nat.eq_zero_or_pos W with rfl | hW
 ·omega
 ·exact(w_ hW).symm
theorem Jb {l:List Int} {w:Int} (h:¬ Qb l w):DL l w = []:=by
 unfold DL
 exact if_neg h
theorem UX {l:List Int} {W i k:Nat} (hi:i<l.length) (hk:k<W):DZ l (W:Int) (i*W+k)=l[i]/2 ^ k%2:=by
 unfold DZ
 have e1:(i*W+k)/W=i:=by rw[Nat.mul_comm,Nat.mul_add_div (by omega),Nat.div_eq_of_lt hk]; rfl
 have e2:(i*W+k)%W=k:=by rw[Nat.mul_comm,Nat.mul_add_mod,Nat.mod_eq_of_lt hk]
 rw[Int.toNat_natCast,e1,e2,List.getElem?_eq_getElem hi]
theorem Sv (l:List Int) (W N:Nat):pb l W (N+1) (N/8)=pb l W N (N/8)+DZ l (W:Int) N*2 ^ (N%8):=by
 unfold pb
 have e1:min 8 (N+1-8*(N/8))=N%8+1:=by omega
 have e2:min 8 (N-8*(N/8))=N%8:=by omega
 rw[e1,e2,EL]
 have e3:8*(N/8)+N%8=N:=by omega
 rw[e3]
theorem gm (l:List Int) (W N m:Nat) (h:m≠N/8):pb l W (N+1) m=pb l W N m:=by
 unfold pb
 have e1:min 8 (N+1-8*m)=min 8 (N-8*m):=by omega
 rw[e1]
theorem ADa (l:List Int) (W N:Nat):0≤pb l W N (N/8)∧pb l W N (N/8)<2 ^ (N%8):=by
 unfold pb
 have e2:min 8 (N-8*(N/8))=N%8:=by omega
 rw[e2]
 exact Rf _ _ _ _
theorem Xr (l:List Int) (W N c:Nat) (h:N/8<c):((P_ l W N c).map byteC).set (N/8) [.v (.int .u8 (pb l W (N+1) (N/8)))]=(P_ l W (N+1) c).map byteC:=by
 apply List.ext_getElem?
 intro m
 rw[List.getElem?_set]
 by_cases e:N/8=m
 ·subst e
  simp[P_,h,Jl]
 ·simp only[if_neg e]
  simp only[P_,List.map_map,List.getElem?_map]
  cases hm:(List.range c)[m]? with
  | none=>rfl
  | some x =>
   have hx:x=m:=by
    rw[List.getElem?_range] at hm
    ·simpa using hm.symm
    ·have:=(List.getElem?_eq_some_iff.1 hm).1
     simpa using this
   subst hx
   simp only[Option.map_some,Function.comp,gm l W N x (fun h=>e h.symm)]
theorem KQ (l:List Int) (W N c:Nat) {m:Nat} (h:m<c):((P_ l W N c).map byteC)[m]?=some [.v (.int .u8 (pb l W N m))]:=by
 simp[P_,h,Jl]
theorem nD (l:List Int) (W c:Nat):List.replicate c [.v (.int .u8 0)]=(P_ l W 0 c).map byteC:=by
 apply List.ext_getElem?
 intro m
 by_cases h:m<c
 ·rw[KQ l W 0 c h,List.getElem?_replicate,if_pos h]; simp[pb,EL]
 ·rw[List.getElem?_eq_none (by simp; omega),List.getElem?_eq_none (by simp[IZ]; omega)]
theorem sH {x:Int} {k:Nat} (h0:0≤x) (h1:x≤2147483647) (hk:k≤31):IntKind.i64.wrap (TT .i64 (IntKind.i64.wrap (x.fdiv (2 ^ min k 64))) 1)=x/2 ^ k%2:=by
 have hP:0≤x/2 ^ k:=Int.ediv_nonneg h0 (Int.pow_nonneg (by omega))
 have hP2:x/2 ^ k≤x:=Int.ediv_le_self _ h0
 rw[Int.fdiv_eq_ediv_of_nonneg _ (Int.pow_nonneg (by omega)),Nat.min_eq_left (by omega),wrap_i64 (n:=x/2 ^ k) (by omega) (by omega),sG hP (by omega),wrap_i64 (by omega) (by omega)]
theorem xA {s:Nat} (h:s≤7):(1:Int)≤2 ^ s∧(2:Int) ^ s≤128:=by
 have:s=0∨s=1∨s=2∨s=3∨s=4∨s=5∨s=6∨s=7:=by omega
 rcases this with rfl | rfl | rfl | rfl | rfl | rfl | rfl | rfl<;>decide
theorem sJ (l:List Int) (W N:Nat) {x:Int} (h0:0≤x) (h1:x≤1):IntKind.u8.wrap (kW .u8 (pb l W N (N/8)) (x*2 ^ (N%8)))=pb l W N (N/8)+x*2 ^ (N%8):=by
 have hb:=ADa l W N
 obtain⟨p1,p2⟩:=xA (s:=N%8) (by omega)
 have h3:0≤x*2 ^ (N%8):=Int.mul_nonneg h0 (by omega)
 have h4:x*2 ^ (N%8)≤1*2 ^ (N%8):=Int.mul_le_mul_of_nonneg_right h1 (by omega)
 rw[UO .u8 hb.1 hb.2 h0 (by simp[IntKind.bits]; omega),wrap_u8 (by omega) (by omega)]
theorem nG {l:List Int} {W i k:Nat} (hi:i<l.length) (hk:k<W) (hW:W≤31) (h0:0≤l[i]) (h1:l[i]≤2147483647) :
  IntKind.u8.wrap (kW .u8 (pb l W (i*W+k) ((i*W+k)/8)) (IntKind.u8.wrap (IntKind.i64.wrap (IntKind.i64.wrap (TT .i64 (IntKind.i64.wrap (l[i].fdiv (2 ^ min k 64))) 1)*2 ^ min ((i*W+k)%8) 64))))=pb l W (i*W+k+1) ((i*W+k)/8):=by
 have hbit:=UX (l:=l) hi hk
 have h01:=OW l (W:Int) (i*W+k)
 obtain⟨p1,p2⟩:=xA (s:=(i*W+k)%8) (by omega)
 have h3:0≤DZ l (W:Int) (i*W+k)*2 ^ ((i*W+k)%8):=Int.mul_nonneg h01.1 (by omega)
 have h4:DZ l (W:Int) (i*W+k)*2 ^ ((i*W+k)%8)≤1*2 ^ ((i*W+k)%8):=Int.mul_le_mul_of_nonneg_right h01.2 (by omega)
 rw[sH h0 h1 (by omega),← hbit,Nat.min_eq_left (by omega),wrap_i64 (by omega) (by omega),wrap_u8 (n:=DZ l (W:Int) (i*W+k)*2 ^ ((i*W+k)%8)) (by omega) (by omega),sJ l W _ h01.1 h01.2,Sv]
theorem Zp (l:List Int) (W N c:Nat) (h:DZ l (W:Int) N=0):P_ l W (N+1) c=P_ l W N c:=by
 unfold P_
 refine List.map_congr_left fun m _=>?_
 by_cases e:m=N/8
 ·subst e; rw[Sv,h]; simp
 ·exact gm l W N m e
theorem jl (l:List Int) (W N:Nat) (h:N%8=0):(P_ l W N ((N+7)/8)).map byteC ++ [[.v (.int .u8 0)]]=(P_ l W N (N/8+1)).map byteC:=by
 have e:(N+7)/8=N/8:=by omega
 have e2:min 8 (N-8*(N/8))=0:=by omega
 rw[e,P_,P_,List.range_succ,List.map_append,List.map_append]
 simp[pb,e2,EL,Jl]
theorem Zq (l:List Int) (w:Int) (hl:l.length≤1048576):∃ r:Bool,(r=true↔Qb l w)∧Ctr Tryz.prog 261 [.c (.sl (l.map intC)),.c (.v (.int .i64 (w)))] [.val (.c (.v (.bool (r))))]:=by
 haveI:Decidable (Qb l w):=Classical.propDecidable _
 refine⟨decide (Qb l w),by simp, ?_⟩
 refine Ctr.mk Tryz.call261 Tryz.func261 rfl mixed Tryz.ntmps261 Tryz.results261 (by kernel_rfl) rfl fun hw=>?_
 simp only[go_sem,List.length_map]
 refine LoopU.mk 0 (A:=Nat) (fun x=>[(5,.c (.v (.int .i64 (x))))]) (fun _=>[]) (fun x=>x≤l.length∧∀ m (h:m<l.length),m<x→(0≤l[m]∧l[m]≤2147483647)∧Af l[m]≤w) (fun x=>l.length-x) 0 ⟨⟨rfl,rfl⟩,rfl,Nat.zero_le _,fun m h h2=>by omega⟩ ?_
 rintro i ⟨hi,hb⟩
 simp only[go_sem,List.length_map]
 refine cndC.mk (fun h=>?_) (fun h=>?_)
 ·have hi':i<l.length:=by simpa using h
  simp only[go_sem,List.length_map,AA _ hi']
  refine CallK.mk _ (Am _ _ _) fun _=>?_
  rcases h1:BQ l[i] 0 2147483647 with _ | _
  ·simp only[go_sem,h1]
   have:¬ Qb l w:=by
    rintro⟨_,q⟩
    have:=(q _ (List.getElem_mem hi')).1
    simp[BQ] at h1; omega
   simp only[this,decide_false]
  simp only[go_sem,h1,List.length_map,AA _ hi']
  refine CallK.mk _ (GL _) fun _=>?_
  rcases h2:decide (Af l[i]>w) with _ | _
  ·simp only[go_sem,h1,h2,wrap_i64 (n:=(i:Int)+1) (by omega) (by omega)]
   exact⟨i+1,⟨rfl,rfl⟩,rfl,⟨hi',fun m h3 h4=>by
    by_cases e:m=i
    ·subst e; simp[BQ] at h1; simp at h2; exact⟨h1,h2⟩
    ·exact hb m h3 (by omega)⟩,by omega⟩
  ·simp only[go_sem,h1,h2]
   have:¬ Qb l w:=by
    rintro⟨_,q⟩
    have:=(q _ (List.getElem_mem hi')).2
    simp at h2; omega
   simp only[this,decide_false]
 ·have hi':i=l.length:=by simp at h; omega
  subst hi'
  simp only[go_sem]
  refine CallK.mk _ (Am _ _ _) fun _=>?_
  simp only[go_sem]
  have hall:∀ n∈l,(0≤n∧n≤2147483647)∧Af n≤w:=fun n hn=>by
   obtain⟨m,hm,rfl⟩:=List.getElem_of_mem hn
   exact hb m hm hm
  congr 4
  rw[Bool.eq_iff_iff]
  simp only[decide_eq_true_eq]
  constructor
  ·intro q; exact⟨by simp[BQ] at q; omega,hall⟩
  ·intro q; have:=q.1; simp[BQ]; omega
theorem UY (l:List Int) (w:Int) (hl:l.length≤64):Ctr Tryz.prog 255 [.c (.sl (l.map intC)),.c (.v (.int .i64 (w)))] [.own 5 1 ((DL l w).map byteC) true]:=by
 refine Ctr.mk Tryz.call255 Tryz.func255 rfl mixed Tryz.ntmps255 Tryz.results255 (by kernel_rfl) rfl fun hw=>?_
 simp only[go_sem,List.length_map]
 refine CallK.mk _ (BK _ _ _) fun _=>?_
 rcases h1:BQ w 0 31 with _ | _
 ·have:¬ Qb l w:=by rintro⟨q,_⟩; simp[BQ] at h1; omega
  simp only[go_sem,h1,Jb this,List.map_nil]
  try simp[CY]
 have hw0:0≤w∧w≤31:=by simp[BQ] at h1; omega
 obtain⟨W,rfl⟩:=Int.eq_ofNat_of_zero_le hw0.1
 simp only[go_sem,h1,List.length_map]
 refine LoopU.mk 0 (A:=Nat) (fun x=>[(17,.c (.v (.int .i64 (x))))]) (fun _=>[]) (fun x=>x≤l.length∧∀ m (h:m<l.length),m<x→(0≤l[m]∧l[m]≤2147483647)∧Af l[m]≤W) (fun x=>l.length-x) 0 ⟨⟨rfl,rfl⟩,rfl,Nat.zero_le _,fun m h h2=>by omega⟩ ?_
 rintro i ⟨hi,hb⟩
 simp only[go_sem,List.length_map]
 refine cndC.mk (fun h=>?_) (fun h=>?_)
 ·have hi':i<l.length:=by simpa using h
  simp only[go_sem,List.length_map,AA _ hi']
  refine CallK.mk _ (BK _ _ _) fun _=>?_
  rcases h1:BQ l[i] 0 2147483647 with _ | _
  ·simp only[go_sem,h1]
   have:¬ Qb l W:=by
    rintro⟨_,q⟩
    have:=(q _ (List.getElem_mem hi')).1
    simp[BQ] at h1; omega
   rw[Jb this]
   simp only[go_sem]
   try simp[CY]
  simp only[go_sem,h1,List.length_map,AA _ hi']
  refine CallK.mk _ (Ht _) fun _=>?_
  rcases h2:decide (Af l[i]>W) with _ | _
  ·simp only[go_sem,h1,h2,wrap_i64 (n:=(i:Int)+1) (by omega) (by omega)]
   exact⟨i+1,⟨rfl,rfl⟩,rfl,⟨hi',fun m h3 h4=>by
    by_cases e:m=i
    ·subst e; simp[BQ] at h1; simp at h2; exact⟨h1,h2⟩
    ·exact hb m h3 (by omega)⟩,by omega⟩
  ·simp only[go_sem,h1,h2]
   have:¬ Qb l W:=by
    rintro⟨_,q⟩
    have:=(q _ (List.getElem_mem hi')).2
    simp at h2; omega
   rw[Jb this]
   simp only[go_sem]
   try simp[CY]
 have hi':i=l.length:=by simp at h; omega
 subst hi'
 have hfit:Qb l W:=⟨hw0,fun n hn=>by
  obtain⟨m,hm,rfl⟩:=List.getElem_of_mem hn
  exact hb m hm hm⟩
 have hLW:l.length*W≤64*31:=Nat.mul_le_mul (by omega) (by omega)
 have eLW:(l.length:Int)*W=((l.length*W:Nat):Int):=by simp
 have e1:IntKind.i64.wrap ((l.length:Int)*W)=((l.length*W:Nat):Int):=by rw[wrap_i64 (by omega) (by omega),eLW]
 have e2:IntKind.i64.wrap (((l.length*W:Nat):Int)+7)=((l.length*W+7:Nat):Int):=by rw[wrap_i64 (by omega) (by omega)]; omega
 obtain⟨c,hcd⟩:∃ c,c=(l.length*W+7)/8:=⟨_,rfl⟩
 have e3:IntKind.i64.wrap ((((l.length*W+7:Nat):Int)).tdiv 8)=(c:Int):=by rw[Int.tdiv_eq_ediv_of_nonneg (by omega),wrap_i64 (by omega) (by omega)]; omega
 have hf1:(0≤(c:Int))=True:=by simp
 have hf2:((c:Int)≤(c:Int))=True:=by simp
 have hf3:((c:Int)≤2147483648)=True:=by simp; omega
 simp only[go_sem,List.length_map,e1,e2,e3,hf1,hf2,hf3,nD l W]
 rw[Rh hfit,← hcd]
 refine LoopU.mk 1 (A:=Nat) (fun i=>[(40,.c (.v (.int .i64 (i))))]) (fun i=>[⟨5,1,(P_ l W (i*W) c).map byteC,true,true⟩]) (fun i=>i≤l.length) (fun i=>l.length-i) 0 ⟨⟨rfl,all1 (Ad (Bz _))⟩,by rw[Nat.zero_mul]; rfl,Nat.zero_le _⟩ ?_
 intro i hi
 simp only[go_sem,List.length_map]
 refine cndC.mk (fun h=>?_) (fun h=>?_)
 ·have hi':i<l.length:=by simpa using h
  have hli:=hb i hi' hi'
  simp only[go_sem,List.length_map,AA _ hi']
  refine LoopU.mk 1 (A:=Nat) (fun k=>[(10,.c (.v (.int .i64 (k))))]) (fun k=>[⟨5,1,(P_ l W (i*W+k) c).map byteC,true,true⟩]) (fun k=>k≤W) (fun k=>W-k) 0 ⟨⟨rfl,all1 (Ad (Bz _))⟩,rfl,Nat.zero_le _⟩ ?_
  intro k hk
  simp only[go_sem,List.length_map]
  refine cndC.mk (fun h=>?_) (fun h=>?_)
  ·have hk':k<W:=by simp at h; omega
   have hN:i*W+k<l.length*W:=by
    have:(i+1)*W≤l.length*W:=Nat.mul_le_mul_right _ hi'
    rw[Nat.add_mul] at this; omega
   have hNc:(i*W+k)/8<c:=by omega
   have hiW:i*W≤64*31:=Nat.mul_le_mul (by omega) (by omega)
   have eiW:(i:Int)*W=((i*W:Nat):Int):=by simp
   have q1:IntKind.i64.wrap ((i:Int)*W)=((i*W:Nat):Int):=by rw[wrap_i64 (by omega) (by omega),eiW]
   have q2:IntKind.i64.wrap (((i*W:Nat):Int)+k)=((i*W+k:Nat):Int):=by rw[wrap_i64 (by omega) (by omega)]; omega
   have q3:IntKind.i64.wrap ((((i*W+k:Nat):Int)).tdiv 8)=(((i*W+k)/8:Nat):Int):=by rw[Int.tdiv_eq_ediv_of_nonneg (by omega),wrap_i64 (by omega) (by omega)]; omega
   have q4:IntKind.i64.wrap ((((i*W+k:Nat):Int)).tmod 8)=(((i*W+k)%8:Nat):Int):=by rw[Int.tmod_eq_emod_of_nonneg (by omega),wrap_i64 (by omega) (by omega)]; omega
   simp only[go_sem,List.length_map,q1,q2,q3,q4,IZ,KQ l W _ c hNc,hNc]
   refine DrawK.mkE ?_
   simp only[go_sem,List.length_map,q1,q2,q3,q4,IZ,KQ l W _ c hNc,hNc]
   rw[nG hi' hk' (by omega) hli.1.1 hli.1.2,Xr l W _ c hNc]
   simp only[wrap_i64 (n:=(k:Int)+1) (by omega) (by omega)]
   exact⟨k+1,⟨rfl,all1 (Ad (Bz _))⟩,rfl,hk',by omega⟩
  ·have hk':k=W:=by simp at h; omega
   subst hk'
   simp only[go_sem,wrap_i64 (n:=(i:Int)+1) (by omega) (by omega)]
   exact⟨i+1,⟨rfl,all1 (Ad (Bz _))⟩,by rw[Nat.add_mul,Nat.one_mul]; rfl,hi',by omega⟩
 ·have hi':i=l.length:=by simp at h; omega
  subst hi'
  simp only[go_sem,Bz]
  try simp[AU,AC]
theorem UZ (l:List Int) (w:Int) (hl:l.length≤64):Ctr Tryz.prog 242 [.c (.sl (l.map intC)),.c (.v (.int .i64 (w)))] [.own 5 1 ((DL l w).map byteC) true]:=by
 refine Ctr.mk Tryz.call242 Tryz.func242 rfl mixed Tryz.ntmps242 Tryz.results242 (by kernel_rfl) rfl fun hw=>?_
 simp only[go_sem,List.length_map]
 obtain⟨r,hr,hc⟩:=Zq l w (by omega)
 refine CallK.mk _ hc fun _=>?_
 cases r with
 | false =>
  have:¬ Qb l w:=fun q=>by have:=hr.2 q; cases this
  simp only[go_sem,Jb this,List.map_nil]
  try simp[CY]
 | true =>
 have hfit:=hr.1 rfl
 simp only[go_sem,List.length_map]
 obtain⟨W,rfl⟩:=Int.eq_ofNat_of_zero_le hfit.1.1
 have hW31:W≤31:=by have:=hfit.1.2; omega
 have hLW:l.length*W≤64*31:=Nat.mul_le_mul (by omega) (by omega)
 rw[Rh hfit]
 refine LoopH.mk [9] (A:=Nat) (fun i=>[(7,.c (.v (.int .i64 (i)))),(6,.c (.v (.int .i64 ((i*W:Nat):Int)))),(5,.c (.ref 0))]) (fun i=>[⟨5,1,(P_ l W (i*W) ((i*W+7)/8)).map byteC,true,true⟩]) (fun i=>i≤l.length) (fun i=>l.length-i) 0 (Head.sel [(0,false)] ⟨rfl,rfl,rfl,trivial⟩ (by rw[Nat.zero_mul]; rfl)) (Nat.zero_le _) ?_
 intro i hi
 simp only[go_sem,List.length_map]
 refine cndC.mk (fun h=>?_) (fun h=>?_)
 ·have hi':i<l.length:=by simp at h; omega
  have hli:=hfit.2 _ (List.getElem_mem hi')
  simp only[go_sem,List.length_map]
  refine LoopH.mk [] (A:=Nat) (fun k=>[(8,.c (.v (.int .i64 (k)))),(6,.c (.v (.int .i64 ((i*W+k:Nat):Int)))),(5,.c (.ref 0))]) (fun k=>[⟨5,1,(P_ l W (i*W+k) ((i*W+k+7)/8)).map byteC,true,true⟩]) (fun k=>k≤W) (fun k=>W-k) 0 (Head.sel [(0,false)] ⟨rfl,rfl,AL byteC.pure,trivial⟩ rfl) (Nat.zero_le _) ?_
  intro k hk
  simp only[go_sem,List.length_map]
  refine cndC.mk (fun h=>?_) (fun h=>?_)
  ·have hk':k<W:=by simp at h; omega
   have hN:i*W+k<l.length*W:=by
    have:(i+1)*W≤l.length*W:=Nat.mul_le_mul_right _ hi'
    rw[Nat.add_mul] at this; omega
   have hbit:=UX (l:=l) hi' hk'
   generalize hNN:i*W+k=N at hN hbit
   have q3:IntKind.i64.wrap (((N:Nat):Int).tdiv 8)=((N/8:Nat):Int):=by rw[Int.tdiv_eq_ediv_of_nonneg (by omega),wrap_i64 (by omega) (by omega)]; omega
   have q4:IntKind.i64.wrap (((N:Nat):Int).tmod 8)=((N%8:Nat):Int):=by rw[Int.tmod_eq_emod_of_nonneg (by omega),wrap_i64 (by omega) (by omega)]; omega
   have q5:IntKind.i64.wrap ((N:Int)+1)=((N+1:Nat):Int):=by rw[wrap_i64 (by omega) (by omega)]; omega
   have q6:IntKind.i64.wrap ((k:Int)+1)=((k+1:Nat):Int):=by rw[wrap_i64 (by omega) (by omega)]; omega
   have hNc:N/8<N/8+1:=by omega
   have hol2:(N+7)/8+1≤2147483648:=by omega
   have hs1:=sH (k:=k) hli.1.1 hli.1.2 (by omega)
   rw[← hbit] at hs1
   have h01:=OW l (W:Int) N
   obtain⟨p1,p2⟩:=xA (s:=N%8) (by omega)
   have hsh:IntKind.u8.wrap (1*2 ^ min (N%8) 8)=1*2 ^ (N%8):=by rw[Nat.min_eq_left (by omega),wrap_u8 (by omega) (by omega)]
   have hor:=sJ l W N (x:=1) (by omega) (by omega)
   rcases h8:((N%8:Nat):Int)==0 with _ | _<;>rcases h9:DZ l (W:Int) N==1 with _ | _
   all_goals
    have hsn:N%8=0→(P_ l W N ((N+7)/8)).map byteC ++ [[.v (.int .u8 0)]]=(P_ l W N (N/8+1)).map byteC:=jl l W N
   case false.false =>
    have e0:DZ l (W:Int) N=0:=by simp at h9; omega
    have h8':N%8≠0:=by simp at h8; omega
    simp only[go_sem,List.length_map,q3,q4,q5,q6,h8,h9,hs1,AA _ hi',IZ]
    have hr:P_ l W (N+1) ((N+1+7)/8)=P_ l W N ((N+7)/8):=by rw[Zp l W N _ e0,show (N+1+7)/8=(N+7)/8 by omega]
    exact⟨k+1,Head.sel [(0,false)] ⟨rfl,rfl,AL byteC.pure,trivial⟩ (by rw[show i*W+(k+1)=N+1 by omega,hr]; rfl),hk',by omega⟩
   case true.false =>
    have e0:DZ l (W:Int) N=0:=by simp at h9; omega
    have h8':N%8=0:=by simp at h8; omega
    have hsn:=hsn h8'
    simp only[go_sem,List.length_map,List.all_cons,List.all_nil,q3,q4,q5,q6,h8,h9,hs1,hsn,hol2,Option.getD_some,AA _ hi',IZ]
    have hr:P_ l W (N+1) ((N+1+7)/8)=P_ l W N (N/8+1):=by rw[Zp l W N _ e0,show (N+1+7)/8=N/8+1 by omega]
    exact⟨k+1,Head.sel [(2,false)] ⟨rfl,rfl,AL byteC.pure,trivial⟩ (by rw[show i*W+(k+1)=N+1 by omega,hr]; rfl),hk',by omega⟩
   case false.true =>
    have e1:DZ l (W:Int) N=1:=by simpa using h9
    have h8':N%8≠0:=by simp at h8; omega
    have ec:(N+7)/8=N/8+1:=by omega
    have hv:pb l W N (N/8)+1*2 ^ (N%8)=pb l W (N+1) (N/8):=by rw[Sv,e1]
    rw[hv] at hor
    have hset:=Xr l W N (N/8+1) hNc
    simp only[go_sem,List.length_map,q3,q4,q5,q6,h8,h9,hs1,ec,hsh,hor,AA _ hi',IZ,KQ l W N _ hNc,hNc]
    refine DrawK.mkE ?_
    simp only[go_sem,List.length_map,q3,q4,q5,q6,h8,h9,hs1,ec,hsh,hor,AA _ hi',IZ,KQ l W N _ hNc,hNc,hset]
    exact⟨k+1,Head.sel [(0,false)] ⟨rfl,rfl,AL byteC.pure,trivial⟩ (by rw[show i*W+(k+1)=N+1 by omega,show (N+1+7)/8=N/8+1 by omega]; rfl),hk',by omega⟩
   case true.true =>
    have e1:DZ l (W:Int) N=1:=by simpa using h9
    have h8':N%8=0:=by simp at h8; omega
    have hsn:=hsn h8'
    have hv:pb l W N (N/8)+1*2 ^ (N%8)=pb l W (N+1) (N/8):=by rw[Sv,e1]
    rw[hv] at hor
    have hset:=Xr l W N (N/8+1) hNc
    simp only[go_sem,List.length_map,List.all_cons,List.all_nil,q3,q4,q5,q6,h8,h9,hs1,hsn,hol2,Option.getD_some,hsh,hor,AA _ hi',IZ,KQ l W N _ hNc,hNc]
    refine DrawK.mkE ?_
    simp only[go_sem,List.length_map,q3,q4,q5,q6,h8,h9,hs1,hsn,hsh,hor,AA _ hi',IZ,KQ l W N _ hNc,hNc,hset]
    exact⟨k+1,Head.sel [(2,false)] ⟨rfl,rfl,AL byteC.pure,trivial⟩ (by rw[show i*W+(k+1)=N+1 by omega,show (N+1+7)/8=N/8+1 by omega]; rfl),hk',by omega⟩
  ·have hk':k=W:=by simp at h; omega
   subst hk'
   simp only[go_sem,wrap_i64 (n:=(i:Int)+1) (by omega) (by omega)]
   exact⟨i+1,Head.sel [(0,false)] ⟨rfl,rfl,AL byteC.pure,trivial⟩ (by rw[Nat.add_mul,Nat.one_mul]; rfl),hi',by omega⟩
 ·have hi':i=l.length:=by simp at h; omega
  subst hi'
  simp only[go_sem,Bz]
  try simp[AU,AC]
end Go.Proofs.YthoeeoddgkjkkaaGreat
