/- A part. -/
import Derived.Test.YtnoldekcdlaahaaGreatPYa
set_option linter.unusedSimpArgs false
set_option linter.unusedVariables false
set_option maxHeartbeats 2000000
set_option maxRecDepth 10000
open Go.Proofs.Tryz
namespace Go.Proofs.YtnoldekcdlaahaaGreat
open Go.Vm
section
variable {p q r:Prop}
theorem AP8(h:p:=by rw[← hT]; kernel_rfl):p:=h
end
theorem kG:∀ f:Nat,Gt f 0=0
 | 0=>rfl
 | f+1=>by rw[Gt,bz AOQ]
theorem JI (n:Int):Ctr prog 415 [.c (.v (.int .i64 (n)))] [.val (.c (.v (.int .i64 (Az n))))]:=by
 refine CM call415 func415 ntmps415 results415 fun hw=>?_
 simp only[go_sem]
 refine AAM _ (AO _ _ _) fun _=>?_
 rcases h:Ad n 0 2147483647 with _ | _
 ·have:¬ (0≤n∧n≤2147483647):=by simp[Ad] at h; omega
  simp only[go_sem,h,Az,bz this]
 have hn:0≤n∧n≤2147483647:=by simp[Ad] at h; omega
 simp only[go_sem,h,Az,bF hn]
 refine ABK 0 (A:=Nat×Int×Int) (fun x=>[(4,.c (.v (.int .i64 (x.2.1)))),(3,.c (.v (.int .i64 (x.2.2))))]) (fun _=>[]) (fun x=>0≤x.2.1∧x.2.1<2 ^ x.1∧x.1≤32∧0≤x.2.2∧x.2.2+x.1≤32∧x.2.2+Gt x.1 x.2.1=Gt 32 n) (fun x=>x.1) (32,n,0) ⟨⟨rfl,rfl⟩,rfl,AOV,AOV,AOV,AOV,AOV,AOR⟩ ?_
 rintro⟨f,x,c⟩ ⟨hx0,hx1,hf,hc0,hc1,hb⟩
 dsimp only at hx0 hx1 hf hc0 hc1 hb
 refine AOJ (fun h=>?_) fun h=>?_
 ·have h':x>0:=by simpa using h
  cases f with
  | zero=>simp at hx1; omega
  | succ f =>
  have hxx:x<4294967296:=by
   have:(2:Int) ^ (f+1)≤2 ^ 32:=APV
   omega
  rw[Gt,bF h'] at hb
  have e1:IntKind.i64.wrap (x.tdiv 2)=x/2:=by rw[dw AOQ,wrap_i64 AOQ AOQ]
  simp only[go_sem,e1,wrap_i64 (n:=c+1) AOQ AOQ]
  exact⟨(f,x/2,c+1),⟨rfl,rfl⟩,rfl,⟨AOV,by simp only; rw[abe] at hx1; omega,AOV,AOV,AOV,AOV⟩,AOV⟩
 ·have h':x=0:=by simp at h; omega
  subst h'
  rw[kG] at hb
  simp only[go_sem]
  rw[← hb]; simp
theorem Q_:∀ (f:Nat) (x:Int),0≤Gt f x
 | 0,_=>sG _
 | f+1,x=>by
  have:=Q_ f (x/2)
  rw[Gt]
  split<;>omega
theorem Sl:∀ (f g:Nat) (x:Int),x<2 ^ f→Gt (f+g) x=Gt f x
 | 0,g,x,h=>by
  have h':¬ x>0:=AOc
  cases g with
  | zero=>rfl
  | succ g=>rw[sF]; show Gt (g+1) x=0; rw[Gt,bz h']
 | f+1,g,x,h=>by
  rw[show f+1+g=(f+g)+1 from AOQ,Gt,Gt]
  split
  ·rw[Sl f g (x/2) (by rw[abe] at h; omega)]
  ·rfl
theorem Yz (f:Nat):∀ (s:Nat) (x:Int),x≥2 ^ s→Gt (f+s) x=Gt f (x/2 ^ s)+s
 | 0,x,h=>AOR
 | s+1,x,h=>by
  have hp:(0:Int)<2 ^ s:=Int.pow_pos AOQ
  rw[abe] at h
  rw[show f+(s+1)=(f+s)+1 from AOQ,Gt,bF AOQ,Yz f s (x/2) AOQ,Int.ediv_ediv_of_nonneg AOQ,abe,Int.mul_comm 2]
  omega
theorem oP (T:ByteArray) (hs:T.size=256) (h:(List.range 256).all (fun y=>(T.data.toList.getD y 0).toNat==(Gt 8 (y:Int)).toNat)=true) (y:Nat) (hy:y<256):∃ c:UInt8,T[y]?=some c∧(c.toNat:Int)=Gt 8 y:=by
 have h1:=aJ.1 h y (abD.2 hy)
 have hlt:y<T.size:=AOQ
 refine⟨T[y],getElem?_pos T y hlt, ?_⟩
 have h2:T.data.toList.getD y 0=T[y]:=by
  rw[List.getD_eq_getElem?_getD,Array.getElem?_toList,getElem?_pos T.data y hlt]; rfl
 rw[h2] at h1
 simp only[iP] at h1
 have:=Q_ 8 (y:Int)
 omega
@[go_sem] theorem AK6:((8:Int)<0)=False:=AOR
@[go_sem] theorem AKx:((16:Int)<0)=False:=AOR
@[go_sem] theorem AKy:Int.toNat 8=8:=rfl
@[go_sem] theorem AKY:Int.toNat 16=16:=rfl
@[go_sem] theorem m8:min 8 64=8:=rfl
@[go_sem] theorem m16:min 16 64=16:=rfl
theorem wrap_u64 {n:Int} (h:0≤n) (h2:n<18446744073709551616):IntKind.u64.wrap n=n:=KT (by
 simp only[Lit.wf,ay,aZ]
 simp[IntKind.min,IntKind.max,IntKind.bits,IntKind.signed]
 omega)
theorem yY (x:Nat) (h0:1≤x) (h:x<2147483648):Ctr prog 470 [.c (.v (.int .u64 (x:Int)))] [.val (.c (.v (.int .i64 (Gt 32 (x:Int)))))]:=by
 refine CM call470 func470 ntmps470 results470 fun hw=>?_
 have h1:decide ((x:Int)≥4294967296)=false:=AOS
 have s8:IntKind.u64.wrap ((x:Int).fdiv (2 ^ 8))=((x/256:Nat):Int):=AO3
 have s16:IntKind.u64.wrap ((x:Int).fdiv (2 ^ 16))=((x/65536:Nat):Int):=AO3
 have s24:IntKind.u64.wrap ((((x/65536:Nat):Int)).fdiv (2 ^ 8))=((x/16777216:Nat):Int):=AO3
 have w8 (y:Nat) (hy:y<256):IntKind.u8.wrap (y:Int)=y:=wrap_u8 AOQ AOQ
 have hwl (y:Nat) (hy:y<256):0≤Gt 8 (y:Int)∧Gt 8 (y:Int)≤8:=by
  refine⟨Q_ _ _, ?_⟩
  have key:∀ (f:Nat) (x:Int),Gt f x≤f:=by
   intro f
   induction f with
   | zero=>intro x; exact sG _
   | succ f ih=>intro x; have:=ih (x/2); rw[Gt]; split<;>omega
  exact key 8 _
 rcases h2:decide ((x:Int)≥65536) with _ | _
 ·rcases h3:decide ((x:Int)≥256) with _ | _
  ·have hx:x<256:=by simp at h3; omega
   simp only[go_sem,h1,h2,h3,w8 x hx]
   generalize hT:(ByteArray.mk _)=T
   obtain⟨c,hc,hcn⟩:=oP T (by rw[← hT]; rfl) AP8 x hx
   have:=hwl x hx
   simp only[go_sem,KU,hc,hcn]
   have e:Gt 32 (x:Int)=Gt 8 x:=Sl 8 24 _ AOQ
   simp only[Int.zero_add]
   rw[wrap_i64 (n:=Gt 8 (x:Int)) AOQ AOQ,wrap_i64 AOQ AOQ,e]
  ·have hx:x/256<256:=by simp at h2; omega
   simp only[go_sem,h1,h2,h3,s8,w8 _ hx]
   generalize hT:(ByteArray.mk _)=T
   obtain⟨c,hc,hcn⟩:=oP T (by rw[← hT]; rfl) AP8 _ hx
   have:=hwl _ hx
   simp only[go_sem,KU,hc,hcn]
   have e:Gt 32 (x:Int)=Gt 8 ((x/256:Nat):Int)+8:=by
    rw[show (32:Nat)=24+8 from rfl,Yz 24 8 _ APC,show (x:Int)/2 ^ 8=((x/256:Nat):Int) from AOQ,show (24:Nat)=8+16 from rfl,Sl 8 16 _ AOQ]; rfl
   simp only[Int.zero_add]
   rw[wrap_i64 (n:=Gt 8 _) AOQ AOQ,wrap_i64 (n:=8) AOQ AOQ,wrap_i64 AOQ AOQ,e,Int.add_comm]
 ·rcases h3:decide (((x/65536:Nat):Int)≥256) with _ | _
  ·have hx:x/65536<256:=by simp at h3; omega
   simp only[go_sem,h1,h2,h3,s16,w8 _ hx]
   generalize hT:(ByteArray.mk _)=T
   obtain⟨c,hc,hcn⟩:=oP T (by rw[← hT]; rfl) AP8 _ hx
   have:=hwl _ hx
   simp only[go_sem,KU,hc,hcn]
   have e:Gt 32 (x:Int)=Gt 8 ((x/65536:Nat):Int)+16:=by
    rw[show (32:Nat)=16+16 from rfl,Yz 16 16 _ AOh,show (x:Int)/2 ^ 16=((x/65536:Nat):Int) from AOQ,show (16:Nat)=8+8 from rfl,Sl 8 8 _ AOQ]; rfl
   simp only[Int.zero_add]
   rw[wrap_i64 (n:=Gt 8 _) AOQ AOQ,wrap_i64 (n:=16) AOQ AOQ,wrap_i64 AOQ AOQ,e,Int.add_comm]
  ·have hx:x/16777216<256:=by omega
   simp only[go_sem,h1,h2,h3,s16,s24,w8 _ hx]
   generalize hT:(ByteArray.mk _)=T
   obtain⟨c,hc,hcn⟩:=oP T (by rw[← hT]; rfl) AP8 _ hx
   have:=hwl _ hx
   simp only[go_sem,KU,hc,hcn]
   have e:Gt 32 (x:Int)=Gt 8 ((x/16777216:Nat):Int)+24:=by
    rw[show (32:Nat)=8+24 from rfl,Yz 8 24 _ APC,show (x:Int)/2 ^ 24=((x/16777216:Nat):Int) from AOQ]; rfl
   simp only[Int.zero_add]
   rw[wrap_i64 (n:=Gt 8 _) AOQ AOQ,wrap_i64 (n:=16) AOQ AOQ,wrap_i64 (n:=16+8) AOQ AOQ,wrap_i64 AOQ AOQ,e,show (16:Int)+8=24 from rfl,Int.add_comm]
theorem AD6 (x:Nat) (h0:1≤x) (h:x<2147483648):Ctr prog 454 [.c (.v (.int .u64 (x:Int)))] [.val (.c (.v (.int .i64 (Gt 32 (x:Int)))))]:=by
 refine CM call454 func454 ntmps454 results454 fun hw=>?_
 simp only[go_sem]
 have e1:IntKind.u64.wrap (x:Int)=x:=KT (by simp only[Lit.wf,ay,aZ]; simp[IntKind.min,IntKind.max,IntKind.bits,IntKind.signed]; omega)
 try simp only[e1]
 refine AAM _ (yY x h0 h) fun _=>?_
 exact AI5
theorem LC (n:Int):Ctr prog 422 [.c (.v (.int .i64 (n)))] [.val (.c (.v (.int .i64 (Az n))))]:=by
 refine CM call422 func422 ntmps422 results422 fun hw=>?_
 simp only[go_sem]
 refine AAM _ (AL _ _ _) fun _=>?_
 rcases h:Ad n 1 2147483647 with _ | _
 ·have:Az n=0:=by
   unfold Az
   split
   ·have:n=0:=by simp[Ad] at h; omega
    subst this
    exact kG _
   ·rfl
  simp only[go_sem,h,this]
 have hn:1≤n∧n≤2147483647:=by simp[Ad] at h; omega
 obtain⟨m,rfl⟩:=aQ (show 0≤n from AOQ)
 have e1:IntKind.u64.wrap (m:Int)=m:=KT (by simp only[Lit.wf,ay,aZ]; simp[IntKind.min,IntKind.max,IntKind.bits,IntKind.signed]; omega)
 simp only[go_sem,h,e1]
 refine AAM _ (AD6 m AOQ AOQ) fun _=>?_
 simp only[go_sem,Az]
 rw[bF AOQ]
theorem dY (k w:Int):Ctr prog 452 [.c (.v (.int .i64 (k))),.c (.v (.int .i64 (w)))] [.val (.c (.v (.int .i64 (Fz k w))))]:=by
 refine CM call452 func452 ntmps452 results452 fun hw=>?_
 simp only[go_sem]
 refine AAM _ (AL _ _ _) fun _=>?_
 rcases h:Ad k 0 64 with _ | _
 ·exact ANk
 simp only[go_sem,h]
 refine AAM _ (AL _ _ _) fun _=>?_
 exact AIc
theorem dZ (k w:Int):Ctr prog 450 [.c (.v (.int .i64 (k))),.c (.v (.int .i64 (w)))] [.val (.c (.v (.int .i64 (Fz k w))))]:=by
 refine CM call450 func450 ntmps450 results450 fun hw=>?_
 simp only[go_sem]
 refine AAM _ (AO _ _ _) fun _=>?_
 rcases h:Ad k 0 64 with _ | _
 ·exact ANk
 simp only[go_sem,h]
 refine AAM _ (AO _ _ _) fun _=>?_
 exact AIc
theorem X4 (b:List Int) (n:Int) (hb:Ae b) (hl:b.length≤1048576) (hn:n≤1000000000):Ctr prog 453 [.c (.sl (b.map byteC)),.c (.v (.int .i64 (n)))] [.val (.c (.v (.int .i64 (FQ b n))))]:=by
 refine CM call453 func453 ntmps453 results453 fun hw=>?_
 rcases h0:decide (n<0) with _ | _
 rotate_left
 ·have:n<0:=by simpa using h0
  simp only[go_sem,h0,FQ,bF this]
 have hn0:0≤n:=APZ
 obtain⟨m,rfl⟩:=aQ hn0
 have e1:IntKind.i64.wrap ((m:Int).tdiv 8)=((m/8:Nat):Int):=AOj
 have e2:IntKind.i64.wrap ((m:Int).tmod 8)=((m%8:Nat):Int):=AOt
 have hba:FQ b (m:Int)=match b[m/8]? with | some c=>c/2 ^ (m%8)%2 | none=>0:=by
  exact AMi
 rw[hba]
 rcases h1:decide (((m/8:Nat):Int)≥(b.length:Int)) with _ | _
 rotate_left
 ·exact ANw
 have hlt:m/8<b.length:=APS
 obtain⟨c0,c1⟩:=hb _ (ax hlt)
 rw[au hlt]
 generalize hc:b[m/8]=c at c0 c1
 simp only[go_sem,h0,h1,e1,e2,ae,AA _ hlt,hc]
 have hP:0≤c/2 ^ (m%8):=Int.ediv_nonneg AOQ (aaU AOQ)
 have hP2:c/2 ^ (m%8)≤c:=Int.ediv_le_self _ AOQ
 rw[aaJ _ (aaU AOQ)]
 rw[show min (m%8) 8=m%8 from AOQ,wrap_u8 hP AOQ,AHi hP AOQ,wrap_u8 AOQ AOQ,wrap_i64 AOQ AOQ]
theorem X5 (b:List Int) (n:Int) (hb:Ae b) (hl:b.length≤1048576) (hn:n≤1000000000):Ctr prog 451 [.c (.sl (b.map byteC)),.c (.v (.int .i64 (n)))] [.val (.c (.v (.int .i64 (FQ b n))))]:=by
 refine CM call451 func451 ntmps451 results451 fun hw=>?_
 rcases h0:decide (n<0) with _ | _
 rotate_left
 ·have:n<0:=by simpa using h0
  simp only[go_sem,h0,FQ,bF this]
 have hn0:0≤n:=APZ
 obtain⟨m,rfl⟩:=aQ hn0
 have e1:IntKind.i64.wrap ((m:Int).tdiv 8)=((m/8:Nat):Int):=AOj
 have e2:IntKind.i64.wrap ((m:Int).tmod 8)=((m%8:Nat):Int):=AOt
 have hba:FQ b (m:Int)=match b[m/8]? with | some c=>c/2 ^ (m%8)%2 | none=>0:=by
  exact AMi
 rw[hba]
 rcases h1:decide (((m/8:Nat):Int)≥(b.length:Int)) with _ | _
 rotate_left
 ·exact ANw
 have hlt:m/8<b.length:=APS
 obtain⟨c0,c1⟩:=hb _ (ax hlt)
 rw[au hlt]
 generalize hc:b[m/8]=c at c0 c1
 simp only[go_sem,h0,h1,e1,e2,ae,AA _ hlt,hc]
 rw[wrap_i64 (n:=c) AOQ AOQ]
 have hP:0≤c/2 ^ (m%8):=Int.ediv_nonneg AOQ (aaU AOQ)
 have hP2:c/2 ^ (m%8)≤c:=Int.ediv_le_self _ AOQ
 rw[aaJ _ (aaU AOQ)]
 rw[show min (m%8) 64=m%8 from AOQ,wrap_i64 (n:=c/2 ^ (m%8)) AOQ AOQ,AGc hP AOQ,wrap_i64 AOQ AOQ]
theorem d_ (l:List Int) (hl:l.length≤1048576):Ctr prog 439 [.c (.sl (l.map intC))] [.val (.c (.v (.int .i64 (DK l))))]:=by
 refine CM call439 func439 ntmps439 results439 fun hw=>?_
 simp only[go_sem,ae]
 refine ABK 0 (A:=Nat×Int) (fun x=>[(8,.c (.v (.int .i64 (x.1)))),(3,.c (.v (.int .i64 (x.2))))]) (fun _=>[]) (fun x=>x.1≤l.length∧(l.drop x.1).foldl (fun w n=>max w (Az n)) x.2=DK l) (fun x=>l.length-x.1) (0,0) ⟨⟨rfl,rfl⟩,rfl,aA _,rfl⟩ ?_
 rintro⟨i,w⟩ ⟨hi,hb⟩
 dsimp only at hi hb
 refine AOK (fun h=>?_) fun h=>?_
 ·have hi':i<l.length:=by simpa using h
  rw[aG hi',abB] at hb
  simp only[go_sem,ae,AA _ hi']
  refine AAM _ (LC _) fun _=>?_
  simp only[go_sem,ae,wrap_i64 (n:=(i:Int)+1) AOQ AOQ]
  have hm:(if w<Az l[i] then Az l[i] else w)=max w (Az l[i]):=by split<;>omega
  exact⟨(i+1,if w<Az l[i] then Az l[i] else w),⟨rfl,rfl⟩,rfl,⟨hi',by simp only; rw[hm]; exact hb⟩,AOV⟩
 ·exact ANA
theorem eF (l:List Int) (hl:l.length≤1048576):Ctr prog 431 [.c (.sl (l.map intC))] [.val (.c (.v (.int .i64 (DK l))))]:=by
 refine CM call431 func431 ntmps431 results431 fun hw=>?_
 simp only[go_sem,ae]
 refine ABK 0 (A:=Nat×Int) (fun x=>[(4,.c (.v (.int .i64 (x.1)))),(3,.c (.v (.int .i64 (x.2))))]) (fun _=>[]) (fun x=>x.1≤l.length∧(l.drop x.1).foldl (fun w n=>max w (Az n)) x.2=DK l) (fun x=>l.length-x.1) (0,0) ⟨⟨rfl,rfl⟩,rfl,aA _,rfl⟩ ?_
 rintro⟨i,w⟩ ⟨hi,hb⟩
 dsimp only at hi hb
 refine AOK (fun h=>?_) fun h=>?_
 ·have hi':i<l.length:=by simpa using h
  rw[aG hi',abB] at hb
  simp only[go_sem,ae,AA _ hi']
  refine AAM _ (JI _) fun _=>?_
  rcases h2:decide (Az l[i]>w) with _ | _
  ·have h2':Az l[i]≤w:=by simpa using h2
   simp only[go_sem,h2,ae,wrap_i64 (n:=(i:Int)+1) AOQ AOQ]
   exact⟨(i+1,w),⟨rfl,rfl⟩,rfl,⟨hi',by simp only; rw[← hb,Int.max_eq_left h2']⟩,AOV⟩
  ·have h2':w≤Az l[i]:=by simp at h2; omega
   simp only[go_sem,h2,ae,AA _ hi']
   refine AAM _ (JI _) fun _=>?_
   simp only[go_sem,h2,ae,wrap_i64 (n:=(i:Int)+1) AOQ AOQ]
   exact⟨(i+1,Az l[i]),⟨rfl,rfl⟩,rfl,⟨hi',by simp only; rw[← hb,Int.max_eq_right h2']⟩,AOV⟩
 ·exact ANA
end Go.Proofs.YtnoldekcdlaahaaGreat
