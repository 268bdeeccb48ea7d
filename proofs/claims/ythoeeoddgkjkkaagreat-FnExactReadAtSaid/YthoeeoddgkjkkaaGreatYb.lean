/- Walks: numbers in bytes, written and read. -/
import Derived.Test.YthoeeoddgkjkkaaGreatWd
import Derived.Test.YthoeeoddgkjkkaaGreatAa
import Derived.Test.YthoeeoddgkjkkaaGreatOa
namespace Go.Proofs.YthoeeoddgkjkkaaGreat
set_option linter.unusedSimpArgs false
set_option linter.unusedVariables false
open Go.Vm
set_option maxHeartbeats 2000000
set_option maxRecDepth 10000
theorem UN (k:IntKind) (a b:Nat) (ha:a<2 ^ k.bits) (hb:b<2 ^ k.bits):TT k (a:Int) (b:Int)=((a &&& b:Nat):Int):=by
 unfold TT
 rw[BitVec.ofInt_natCast,BitVec.ofInt_natCast,BitVec.toNat_and,BitVec.toNat_ofNat,BitVec.toNat_ofNat,Nat.mod_eq_of_lt ha,Nat.mod_eq_of_lt hb]
theorem qC (k:IntKind) (a b:Nat) (ha:a<2 ^ k.bits) (hb:b<2 ^ k.bits):kW k (a:Int) (b:Int)=((a ||| b:Nat):Int):=by
 unfold kW
 rw[BitVec.ofInt_natCast,BitVec.ofInt_natCast,BitVec.toNat_or,BitVec.toNat_ofNat,BitVec.toNat_ofNat,Nat.mod_eq_of_lt ha,Nat.mod_eq_of_lt hb]
theorem gY {x:Int} (h0:0≤x) (h1:x<9223372036854775808):TT .i64 x 127=x%128:=by
 obtain⟨n,rfl⟩:=Int.eq_ofNat_of_zero_le h0
 have:=UN .i64 n 127 (show n<18446744073709551616 by omega) (by decide)
 rw[show ((127:Nat):Int)=127 from rfl] at this
 rw[this,show (127:Nat)=2 ^ 7-1 from rfl,Nat.and_two_pow_sub_one_eq_mod]
 omega
theorem sG {x:Int} (h0:0≤x) (h1:x<9223372036854775808):TT .i64 x 1=x%2:=by
 obtain⟨n,rfl⟩:=Int.eq_ofNat_of_zero_le h0
 have:=UN .i64 n 1 (show n<18446744073709551616 by omega) (by decide)
 rw[show ((1:Nat):Int)=1 from rfl] at this
 rw[this,Nat.and_one_is_mod]
 omega
theorem ww {x:Int} (h0:0≤x) (h1:x<256):TT .u8 x 1=x%2:=by
 obtain⟨n,rfl⟩:=Int.eq_ofNat_of_zero_le h0
 have:=UN .u8 n 1 (show n<256 by omega) (by decide)
 rw[show ((1:Nat):Int)=1 from rfl] at this
 rw[this,Nat.and_one_is_mod]
 omega
theorem UO (k:IntKind) {x y:Int} {s:Nat} (h0:0≤x) (h1:x<2 ^ s) (hy:0≤y) (hb:x+y*2 ^ s<2 ^ k.bits):kW k x (y*2 ^ s)=x+y*2 ^ s:=by
 obtain⟨n,rfl⟩:=Int.eq_ofNat_of_zero_le h0
 obtain⟨m,rfl⟩:=Int.eq_ofNat_of_zero_le hy
 have e:(m:Int)*2 ^ s=((m*2 ^ s:Nat):Int):=by push_cast; rfl
 have h1':n<2 ^ s:=by exact_mod_cast h1
 have hb':n+m*2 ^ s<2 ^ k.bits:=by rw[e] at hb; exact_mod_cast hb
 rw[e,qC k n (m*2 ^ s) (by omega) (by omega),Nat.or_comm,Nat.mul_comm m,← Nat.two_pow_add_eq_or_of_lt h1' m]
 omega
theorem wrap_u8 {n:Int} (h:0≤n) (h2:n<256):IntKind.u8.wrap n=n:=G9 (by
 simp only[Lit.wf,Bool.and_eq_true,decide_eq_true_eq]
 simp[IntKind.min,IntKind.max,IntKind.bits,IntKind.signed]
 omega)
@[go_sem] theorem AGh:((2:Int)=0)=False:=by simp
@[go_sem] theorem AGi:((8:Int)=0)=False:=by simp
@[go_sem] theorem AGT:((128:Int)=0)=False:=by simp
@[go_sem] theorem AFa (n:Nat):(((n:Int))<0)=False:=by simp
theorem Jg (i:Nat):(128:Int) ^ i=2 ^ (7*i):=by rw[Int.pow_mul]; rfl
def Rz (n:Int):Int:=if C9 n=true then zig n else 0
theorem NE {n:Int}:C9 n=true↔ -1000000000≤n∧n≤1000000000:=by simp[C9,BQ]
theorem Xm (n:Int):Ctr Tryz.prog 259 [.c (.v (.int .i64 (n)))] [.val (.c (.v (.int .i64 (Rz n))))]:=by
 refine Ctr.mk Tryz.call259 Tryz.func259 rfl mixed Tryz.ntmps259 Tryz.results259 (by kernel_rfl) rfl fun hw=>?_
 simp only[go_sem]
 refine CallK.mk _ (Gt _) fun _=>?_
 rcases h:C9 n with _ | _
 ·simp only[go_sem,h,Rz]
 ·have hb:=NE.1 h
  simp only[go_sem,h]
  refine cndC.mk (fun h1=>?_) (fun h1=>?_)
  ·have h1':n<0:=by simpa using h1
   simp only[go_sem]
   rw[wrap_i64 (n:=-2*n) (by omega) (by omega),wrap_i64 (n:=-2*n-1) (by omega) (by omega)]
   simp only[Rz,h,if_true,zig,if_pos h1']
  ·have h1':¬ n<0:=by simpa using h1
   simp only[go_sem]
   rw[wrap_i64 (n:=2*n) (by omega) (by omega)]
   simp only[Rz,h,if_true,zig,if_neg h1']
theorem Xn (n:Int):Ctr Tryz.prog 233 [.c (.v (.int .i64 (n)))] [.val (.c (.v (.int .i64 (Rz n))))]:=by
 refine Ctr.mk Tryz.call233 Tryz.func233 rfl mixed Tryz.ntmps233 Tryz.results233 (by kernel_rfl) rfl fun hw=>?_
 simp only[go_sem]
 refine CallK.mk _ (Iu _) fun _=>?_
 rcases h:C9 n with _ | _
 ·simp only[go_sem,h,Rz]
 ·have hb:=NE.1 h
  simp only[go_sem,h]
  refine cndC.mk (fun h1=>?_) (fun h1=>?_)
  ·have h1':n<0:=by simpa using h1
   simp only[go_sem]
   rw[wrap_i64 (n:=-2*n) (by omega) (by omega),wrap_i64 (n:=-2*n-1) (by omega) (by omega)]
   simp only[Rz,h,if_true,zig,if_pos h1']
  ·have h1':¬ n<0:=by simpa using h1
   simp only[go_sem]
   rw[wrap_i64 (n:=2*n) (by omega) (by omega)]
   simp only[Rz,h,if_true,zig,if_neg h1']
def R_ (n:Int):Int:=if BQ n 0 2000000000=true then zag n else 0
theorem Xo (n:Int):Ctr Tryz.prog 175 [.c (.v (.int .i64 (n)))] [.val (.c (.v (.int .i64 (R_ n))))]:=by
 refine Ctr.mk Tryz.call175 Tryz.func175 rfl mixed Tryz.ntmps175 Tryz.results175 (by kernel_rfl) rfl fun hw=>?_
 simp only[go_sem]
 refine CallK.mk _ (Am _ _ _) fun _=>?_
 rcases h:BQ n 0 2000000000 with _ | _
 ·simp only[go_sem,h,R_]
 ·have hb:0≤n∧n≤2000000000:=by simpa [BQ] using h
  obtain⟨m,rfl⟩:=Int.eq_ofNat_of_zero_le hb.1
  have e1:IntKind.i64.wrap ((m:Int).tmod 2)=(m:Int)%2:=by rw[Int.tmod_eq_emod_of_nonneg (by omega)]; exact wrap_i64 (by omega) (by omega)
  simp only[go_sem,h,e1]
  refine cndC.mk (fun h1=>?_) (fun h1=>?_)
  ·have h1':(m:Int)%2=1:=by simpa using h1
   simp only[go_sem]
   rw[wrap_i64 (n:=(m:Int)+1) (by omega) (by omega),wrap_i64 (n:=0-((m:Int)+1)) (by omega) (by omega)]
   have e2:(0-((m:Int)+1)).tdiv 2 = -(((m:Int)+1)/2):=by rw[show 0-((m:Int)+1) = -((m:Int)+1) by omega,Int.neg_tdiv,Int.tdiv_eq_ediv_of_nonneg (by omega)]
   rw[e2,wrap_i64 (by omega) (by omega)]
   simp only[R_,h,if_true,zag,if_pos h1']
  ·have h1':¬ (m:Int)%2=1:=by simpa using h1
   simp only[go_sem]
   rw[Int.tdiv_eq_ediv_of_nonneg (by omega),wrap_i64 (by omega) (by omega)]
   simp only[R_,h,if_true,zag,if_neg h1']
theorem Xp (n:Int):Ctr Tryz.prog 186 [.c (.v (.int .i64 (n)))] [.val (.c (.v (.int .i64 (R_ n))))]:=by
 refine Ctr.mk Tryz.call186 Tryz.func186 rfl mixed Tryz.ntmps186 Tryz.results186 (by kernel_rfl) rfl fun hw=>?_
 simp only[go_sem]
 refine CallK.mk _ (BK _ _ _) fun _=>?_
 rcases h:BQ n 0 2000000000 with _ | _
 ·simp only[go_sem,h,R_]
 ·have hb:0≤n∧n≤2000000000:=by simpa [BQ] using h
  obtain⟨m,rfl⟩:=Int.eq_ofNat_of_zero_le hb.1
  have e1:IntKind.i64.wrap ((m:Int).tmod 2)=(m:Int)%2:=by rw[Int.tmod_eq_emod_of_nonneg (by omega)]; exact wrap_i64 (by omega) (by omega)
  simp only[go_sem,h,e1]
  refine cndC.mk (fun h1=>?_) (fun h1=>?_)
  ·have h1':(m:Int)%2=1:=by simpa using h1
   simp only[go_sem]
   rw[wrap_i64 (n:=(m:Int)+1) (by omega) (by omega),wrap_i64 (n:=0-((m:Int)+1)) (by omega) (by omega)]
   have e2:(0-((m:Int)+1)).tdiv 2 = -(((m:Int)+1)/2):=by rw[show 0-((m:Int)+1) = -((m:Int)+1) by omega,Int.neg_tdiv,Int.tdiv_eq_ediv_of_nonneg (by omega)]
   rw[e2,wrap_i64 (by omega) (by omega)]
   simp only[R_,h,if_true,zag,if_pos h1']
  ·have h1':¬ (m:Int)%2=1:=by simpa using h1
   simp only[go_sem]
   rw[Int.tdiv_eq_ediv_of_nonneg (by omega),wrap_i64 (by omega) (by omega)]
   simp only[R_,h,if_true,zag,if_neg h1']
def Pi:Option (Int×Nat)→List Res
 | some (n,q)=>[.val (.c (.v (.int .i64 (n)))),.val (.c (.v (.int .i64 ((q:Int))))),.val (.c (.v (.bool (true))))]
 | none=>[.val (.c (.v (.int .i64 (0)))),.val (.c (.v (.int .i64 (0)))),.val (.c (.v (.bool (false))))]
theorem dS {b:List Int} {p:Int} (h:¬ (0≤p∧p<b.length)):A8 b p=none:=by
 unfold A8
 split
 ·rename_i hp
  have:b[p.toNat+0]?=none:=List.getElem?_eq_none (by omega)
  rw[show (5:Nat)=4+1 from rfl,Gv,this]
 ·rfl
theorem EM (b:List Int) (p:Int) (hb:AY b) (hl:b.length≤1048576):Ctr Tryz.prog 148 [.c (.sl (b.map byteC)),.c (.v (.int .i64 (p)))] (Pi (A8 b p)):=by
 refine Ctr.mk Tryz.call148 Tryz.func148 rfl mixed Tryz.ntmps148 Tryz.results148 (by kernel_rfl) rfl fun hw=>?_
 simp only[go_sem,List.length_map]
 refine CallK.mk _ (Am _ _ _) fun _=>?_
 rcases h:BQ p 0 (b.length:Int) with _ | _
 ·simp only[go_sem,h]
  rw[dS (by simp[BQ] at h; omega)]
  simp only[go_sem,Pi]
 have hp:0≤p∧p≤b.length:=by simpa [BQ] using h
 obtain⟨m,rfl⟩:=Int.eq_ofNat_of_zero_le hp.1
 simp only[go_sem,h,List.length_map]
 have hm5:A8 b m=Gv b m 5 0 0:=by unfold A8; rw[if_pos (by omega)]; rfl
 refine LoopU.mk 0 (A:=Nat×Int) (fun x=>[(8,.c (.v (.int .i64 (x.1)))),(7,.c (.v (.int .i64 (x.2))))]) (fun _=>[]) (fun x=>x.1≤5∧0≤x.2∧x.2<128 ^ x.1∧Gv b m (5-x.1) x.2 x.1=A8 b m) (fun x=>5-x.1) (0,0) ⟨⟨rfl,rfl⟩,rfl,by omega,by omega,by decide,hm5.symm⟩ ?_
 rintro⟨i,x⟩ ⟨hi,hx0,hx1,hg⟩
 dsimp only at hi hx0 hx1 hg
 have hw1:IntKind.i64.wrap ((b.length:Int)-m)=b.length-m:=wrap_i64 (by omega) (by omega)
 have hw2:IntKind.i64.wrap ((m:Int)+i)=((m+i:Nat):Int):=by rw[wrap_i64 (by omega) (by omega)]; omega
 rcases h5:decide ((i:Int)<5) with _ | _
 ·have hi5:i=5:=by simp at h5; omega
  subst hi5
  simp only[Nat.sub_self,Gv] at hg
  simp only[go_sem,h5]
  rw[← hg]
  simp only[go_sem,Pi]
 have hi5:i<5:=by simp at h5; omega
 rw[show 5-i=(4-i)+1 by omega,Gv] at hg
 rcases h6:decide ((i:Int)<(b.length:Int)-m) with _ | _
 ·have h6':¬ m+i<b.length:=by simp at h6; omega
  rw[List.getElem?_eq_none (by omega)] at hg
  simp only[go_sem,List.length_map,h5,h6,hw1,hw2]
  simp only at hg
  rw[← hg]
  simp only[go_sem,Pi]
 have h6':m+i<b.length:=by simp at h6; omega
 have hbc:=hb _ (List.getElem_mem h6')
 rw[List.getElem?_eq_getElem h6'] at hg
 generalize hc:b[m+i]=c at hg hbc
 obtain⟨c0,c1⟩:=hbc
 simp only at hg
 have hP:(128:Int) ^ i≤268435456:=by
  have:i=0∨i=1∨i=2∨i=3∨i=4:=by omega
  rcases this with rfl | rfl | rfl | rfl | rfl<;>decide
 have hP0:(0:Int)≤c%128*128 ^ i:=Int.mul_nonneg (by omega) (Int.pow_nonneg (by omega))
 have hP1:c%128*128 ^ i≤127*268435456:=Int.le_trans (Int.mul_le_mul_of_nonneg_right (by omega) (Int.pow_nonneg (by omega))) (Int.mul_le_mul_of_nonneg_left hP (by omega))
 have hP2:x+c%128*128 ^ i<128 ^ (i+1):=by
  have:c%128*128 ^ i≤127*128 ^ i:=Int.mul_le_mul_of_nonneg_right (by omega) (Int.pow_nonneg (by omega))
  rw[Int.pow_succ]; omega
 have hP3:0≤(c%128*128 ^ i:Int):=hP0
 have hwc:IntKind.i64.wrap c=c:=wrap_i64 (by omega) (by omega)
 have hwa:IntKind.i64.wrap (TT .i64 c 127)=c%128:=by rw[gY (by omega) (by omega),wrap_i64 (by omega) (by omega)]
 have hwt:IntKind.i64.wrap (c.tmod 128)=c%128:=by rw[Int.tmod_eq_emod_of_nonneg (by omega),wrap_i64 (by omega) (by omega)]
 have hw7:IntKind.i64.wrap (7*(i:Int))=((7*i:Nat):Int):=by rw[wrap_i64 (by omega) (by omega)]; omega
 have hws:IntKind.i64.wrap (c%128*2 ^ min (7*i) 64)=c%128*128 ^ i:=by
  rw[show min (7*i) 64=7*i from Nat.min_eq_left (by omega),← Jg,wrap_i64 (by omega) (by omega)]
 have hwo:IntKind.i64.wrap (kW .i64 x (c%128*128 ^ i))=x+c%128*128 ^ i:=by
  rw[Jg,UO .i64 hx0 (by rw[← Jg]; exact hx1) (by omega) (by rw[← Jg]; simp[IntKind.bits]; omega),← Jg,wrap_i64 (by omega) (by omega)]
 have hwp:IntKind.i64.wrap (x+c%128*128 ^ i)=x+c%128*128 ^ i:=wrap_i64 (by omega) (by omega)
 have hwi:IntKind.i64.wrap ((i:Int)+1)=((i+1:Nat):Int):=by rw[wrap_i64 (by omega) (by omega)]; omega
 have hwe:IntKind.i64.wrap (((m+i:Nat):Int)+1)=((m+i+1:Nat):Int):=by rw[wrap_i64 (by omega) (by omega)]; omega
 simp only[go_sem,List.length_map,h5,h6,hw1,hw2,AA _ h6',hc]
 simp only[go_sem,List.length_map,h5,h6,hw1,hw2,AA _ h6',hc,hwc,hwa,hwt,hw7,hws,hwo,hwp]
 rcases h7:decide (c>127) with _ | _
 rotate_left
 ·have h7':c≥128:=by simp at h7; omega
  rw[if_pos h7'] at hg
  simp only[go_sem,h7,hwi]
  exact⟨(i+1,x+c%128*128 ^ i),⟨rfl,rfl⟩,rfl,⟨by simp only; omega,by simp only; omega,hP2,by rw[show 5-(i+1)=4-i by omega]; exact hg⟩,by simp only; omega⟩
 have h7':¬ c≥128:=by simp at h7; omega
 rw[if_neg h7'] at hg
 have hz:R_ (x+c%128*128 ^ i)=if x+c%128*128 ^ i>2000000000 then 0 else zag (x+c%128*128 ^ i):=by
  unfold R_
  by_cases h2:x+c%128*128 ^ i>2000000000
  ·rw[if_pos h2,if_neg (by simp[BQ]; omega)]
  ·rw[if_neg h2,if_pos (by simp[BQ]; omega)]
 rcases h8:decide (x+c%128*128 ^ i>2000000000) with _ | _<;>rcases h9:c==0 with _ | _<;>rcases h10:decide ((i:Int)>0) with _ | _<;>simp only[go_sem,h7,h8,h9,h10]
 case' false.false.false | false.false.true | false.true.false =>
  have h8':¬ x+c%128*128 ^ i>2000000000:=by simpa using h8
  rw[if_neg (by simp at h9 h10; omega)] at hg
  refine CallK.mk _ (Xo _) fun _=>?_
  simp only[go_sem,hw2,hwe]
  rw[hz,if_neg h8',← hg]
  simp only[go_sem,Pi]
 all_goals
  rw[if_pos (by simp at h8 h9 h10; omega)] at hg
  rw[← hg]
  simp only[go_sem,Pi]
theorem EN (b:List Int) (p:Int) (hb:AY b) (hl:b.length≤1048576):Ctr Tryz.prog 158 [.c (.sl (b.map byteC)),.c (.v (.int .i64 (p)))] (Pi (A8 b p)):=by
 refine Ctr.mk Tryz.call158 Tryz.func158 rfl mixed Tryz.ntmps158 Tryz.results158 (by kernel_rfl) rfl fun hw=>?_
 rcases h0:decide (p<0) with _ | _
 rotate_left
 ·simp only[go_sem,h0]
  rw[dS (by simp at h0; omega)]
  simp only[go_sem,Pi]
 have hp0:0≤p:=by simpa using h0
 obtain⟨m,rfl⟩:=Int.eq_ofNat_of_zero_le hp0
 rcases h1:decide ((m:Int)≥b.length) with _ | _
 rotate_left
 ·simp only[go_sem,List.length_map,h0,h1]
  rw[dS (by simp at h1; omega)]
  simp only[go_sem,Pi]
 have hp:(m:Int)≤b.length:=by simp at h1; omega
 simp only[go_sem,h0,h1,List.length_map]
 have hm5:A8 b m=Gv b m 5 0 0:=by unfold A8; rw[if_pos (by omega)]; rfl
 refine LoopU.mk 0 (A:=Nat×Int) (fun x=>[(8,.c (.v (.int .i64 (x.1)))),(7,.c (.v (.int .i64 (x.2))))]) (fun _=>[]) (fun x=>x.1≤5∧0≤x.2∧x.2<128 ^ x.1∧Gv b m (5-x.1) x.2 x.1=A8 b m) (fun x=>5-x.1) (0,0) ⟨⟨rfl,rfl⟩,rfl,by omega,by omega,by decide,hm5.symm⟩ ?_
 rintro⟨i,x⟩ ⟨hi,hx0,hx1,hg⟩
 dsimp only at hi hx0 hx1 hg
 have hw1:IntKind.i64.wrap ((b.length:Int)-m)=b.length-m:=wrap_i64 (by omega) (by omega)
 have hw2:IntKind.i64.wrap ((m:Int)+i)=((m+i:Nat):Int):=by rw[wrap_i64 (by omega) (by omega)]; omega
 rcases h5:decide ((i:Int)<5) with _ | _
 ·have hi5:i=5:=by simp at h5; omega
  subst hi5
  simp only[Nat.sub_self,Gv] at hg
  simp only[go_sem,h5]
  rw[← hg]
  simp only[go_sem,Pi]
 have hi5:i<5:=by simp at h5; omega
 rw[show 5-i=(4-i)+1 by omega,Gv] at hg
 rcases h6:decide (((m+i:Nat):Int)<(b.length:Int)) with _ | _
 ·have h6':¬ m+i<b.length:=by simp at h6; omega
  rw[List.getElem?_eq_none (by omega)] at hg
  simp only[go_sem,List.length_map,h5,h6,hw1,hw2]
  simp only at hg
  rw[← hg]
  simp only[go_sem,Pi]
 have h6':m+i<b.length:=by simp at h6; omega
 have hbc:=hb _ (List.getElem_mem h6')
 rw[List.getElem?_eq_getElem h6'] at hg
 generalize hc:b[m+i]=c at hg hbc
 obtain⟨c0,c1⟩:=hbc
 simp only at hg
 have hP:(128:Int) ^ i≤268435456:=by
  have:i=0∨i=1∨i=2∨i=3∨i=4:=by omega
  rcases this with rfl | rfl | rfl | rfl | rfl<;>decide
 have hP0:(0:Int)≤c%128*128 ^ i:=Int.mul_nonneg (by omega) (Int.pow_nonneg (by omega))
 have hP1:c%128*128 ^ i≤127*268435456:=Int.le_trans (Int.mul_le_mul_of_nonneg_right (by omega) (Int.pow_nonneg (by omega))) (Int.mul_le_mul_of_nonneg_left hP (by omega))
 have hP2:x+c%128*128 ^ i<128 ^ (i+1):=by
  have:c%128*128 ^ i≤127*128 ^ i:=Int.mul_le_mul_of_nonneg_right (by omega) (Int.pow_nonneg (by omega))
  rw[Int.pow_succ]; omega
 have hP3:0≤(c%128*128 ^ i:Int):=hP0
 have hwc:IntKind.i64.wrap c=c:=wrap_i64 (by omega) (by omega)
 have hwa:IntKind.i64.wrap (TT .i64 c 127)=c%128:=by rw[gY (by omega) (by omega),wrap_i64 (by omega) (by omega)]
 have hwt:IntKind.i64.wrap (c.tmod 128)=c%128:=by rw[Int.tmod_eq_emod_of_nonneg (by omega),wrap_i64 (by omega) (by omega)]
 have hw7:IntKind.i64.wrap (7*(i:Int))=((7*i:Nat):Int):=by rw[wrap_i64 (by omega) (by omega)]; omega
 have hws:IntKind.i64.wrap (c%128*2 ^ min (7*i) 64)=c%128*128 ^ i:=by
  rw[show min (7*i) 64=7*i from Nat.min_eq_left (by omega),← Jg,wrap_i64 (by omega) (by omega)]
 have hwo:IntKind.i64.wrap (kW .i64 x (c%128*128 ^ i))=x+c%128*128 ^ i:=by
  rw[Jg,UO .i64 hx0 (by rw[← Jg]; exact hx1) (by omega) (by rw[← Jg]; simp[IntKind.bits]; omega),← Jg,wrap_i64 (by omega) (by omega)]
 have hwp:IntKind.i64.wrap (x+c%128*128 ^ i)=x+c%128*128 ^ i:=wrap_i64 (by omega) (by omega)
 have hwi:IntKind.i64.wrap ((i:Int)+1)=((i+1:Nat):Int):=by rw[wrap_i64 (by omega) (by omega)]; omega
 have hwe:IntKind.i64.wrap (((m+i:Nat):Int)+1)=((m+i+1:Nat):Int):=by rw[wrap_i64 (by omega) (by omega)]; omega
 simp only[go_sem,List.length_map,h5,h6,hw1,hw2,AA _ h6',hc]
 simp only[go_sem,List.length_map,h5,h6,hw1,hw2,AA _ h6',hc,hwc,hwa,hwt,hw7,hws,hwo,hwp]
 rcases h7:decide (c≥128) with _ | _
 rotate_left
 ·have h7':c≥128:=by simp at h7; omega
  rw[if_pos h7'] at hg
  simp only[go_sem,h7,hwi]
  exact⟨(i+1,x+c%128*128 ^ i),⟨rfl,rfl⟩,rfl,⟨by simp only; omega,by simp only; omega,hP2,by rw[show 5-(i+1)=4-i by omega]; exact hg⟩,by simp only; omega⟩
 have h7':¬ c≥128:=by simp at h7; omega
 rw[if_neg h7'] at hg
 have hz:R_ (x+c%128*128 ^ i)=if x+c%128*128 ^ i>2000000000 then 0 else zag (x+c%128*128 ^ i):=by
  unfold R_
  by_cases h2:x+c%128*128 ^ i>2000000000
  ·rw[if_pos h2,if_neg (by simp[BQ]; omega)]
  ·rw[if_neg h2,if_pos (by simp[BQ]; omega)]
 rcases h8:decide (x+c%128*128 ^ i>2000000000) with _ | _<;>rcases h9:c==0 with _ | _<;>rcases h10:decide ((i:Int)>0) with _ | _<;>simp only[go_sem,h7,h8,h9,h10]
 case' false.false.false | false.false.true | false.true.false =>
  have h8':¬ x+c%128*128 ^ i>2000000000:=by simpa using h8
  rw[if_neg (by simp at h9 h10; omega)] at hg
  refine CallK.mk _ (Xp _) fun _=>?_
  simp only[go_sem,hw2,hwe]
  rw[hz,if_neg h8',← hg]
  simp only[go_sem,Pi]
 all_goals
  rw[if_pos (by simp at h8 h9 h10; omega)] at hg
  rw[← hg]
  simp only[go_sem,Pi]
theorem Eg (l:List Int):KE 1 (l.map byteC)=true:=List.all_eq_true.2 fun r hr=>by
 obtain⟨x,_,rfl⟩:=List.mem_map.1 hr
 rfl
theorem FC (l:List Int) (h:l.length≤2147483648):Ctr Tryz.prog 231 [.c (.sl (l.map byteC))] [.own 5 1 (l.map byteC) true]:=by
 refine Ctr.mk Tryz.call231 Tryz.func231 rfl mixed Tryz.ntmps231 Tryz.results231 (by kernel_rfl) rfl fun hw=>?_
 simp only[go_sem,Eg,List.length_map,h,Option.getD_some,Bz]
 try simp[AU,AC]
def SA (n:Int):List Int:=if C9 n=true then Dh n else []
theorem He (out:List Int) (c:Int):(out ++ [c]).map byteC=out.map byteC ++ [[.v (.int .u8 c)]]:=by simp[Jl]
theorem Zn (out:List Int) (c:Int):CY (out.map byteC ++ [[.v (.int .u8 c)]])=true:=by rw[← He]; exact Bz _
theorem Sm:∀ (f:Nat) (x:Int),(UA f x).length≤f+1
 | 0,_=>Nat.le_refl _
 | f+1,x=>by
  rw[UA]
  split
  ·have:=Sm f (x/128); simp; omega
  ·simp
theorem EO (b:List Int) (n:Int) (hl:b.length≤1048576):Ctr Tryz.prog 196 [.c (.sl (b.map byteC)),.c (.v (.int .i64 (n)))] [.own 5 1 ((b++SA n).map byteC) true]:=by
 refine Ctr.mk Tryz.call196 Tryz.func196 rfl mixed Tryz.ntmps196 Tryz.results196 (by kernel_rfl) rfl fun hw=>?_
 have hl2:b.length≤2147483648:=by omega
 simp only[go_sem,Eg,List.length_map,hl2,Option.getD_some]
 refine CallK.mk _ (FC b hl2) fun _=>?_
 simp only[go_sem,List.length_map]
 refine CallK.mk _ (Iu _) fun _=>?_
 rcases h:C9 n with _ | _
 ·simp only[go_sem,h,SA,Bool.false_eq_true,if_false,List.append_nil,Bz]
  try simp[AU,AC]
 have hn:=NE.1 h
 have hz:Rz n=zig n:=by simp only[Rz,h,if_true]
 have hz0:0≤zig n∧zig n<128 ^ 5:=QV hn.1 hn.2
 simp only[go_sem,h]
 refine CallK.mk _ (Xn _) fun _=>?_
 rw[hz]
 simp only[go_sem,h]
 have hput:SA n=Dh n:=by simp only[SA,h,if_true]
 rw[hput]
 refine LoopH.mk [8] (A:=Nat×Int×List Int) (fun x=>[(6,.c (.v (.int .i64 (x.2.1)))),(5,.c (.ref 0))]) (fun x=>[⟨5,1,x.2.2.map byteC,true,true⟩]) (fun x=>x.1≤4∧0≤x.2.1∧x.2.1<128 ^ (x.1+1)∧x.2.2++UA x.1 x.2.1=b++Dh n) (fun x=>x.1) (4,zig n,b) (Head.sel [(0,false)] ⟨rfl,rfl,AL byteC.pure,trivial⟩ rfl) ⟨Nat.le_refl _,hz0.1,hz0.2,rfl⟩ ?_
 rintro⟨f,x,out⟩ ⟨hf,hx0,hx1,hb⟩
 dsimp only at hf hx0 hx1 hb
 have hol:out.length≤b.length+5:=by
  have h1:(Dh n).length≤5:=Sm 4 _
  have h2:=congrArg List.length hb
  simp only[List.length_append] at h2
  omega
 have hol2:out.length+1≤2147483648:=by omega
 simp only[go_sem,List.length_map]
 have hbig:x<34359738368:=by
  have:f=0∨f=1∨f=2∨f=3∨f=4:=by omega
  rcases this with rfl | rfl | rfl | rfl | rfl<;>simp at hx1<;>omega
 rcases h1:decide (x≥128) with _ | _
 ·have h1':¬ x≥128:=by simp at h1; omega
  have hwx:IntKind.u8.wrap x=x:=wrap_u8 hx0 (by omega)
  have hpn:UA f x = [x]:=by
   cases f with
   | zero=>rfl
   | succ f=>rw[UA,if_neg h1']
  rw[hpn] at hb
  rw[← hb,He]
  simp only[go_sem,List.all_cons,List.all_nil,h1,List.length_map,hwx,hol2,Option.getD_some,Zn]
  try simp[AU,AC]
 ·have h1':x≥128:=by simp at h1; omega
  cases f with
  | zero=>simp at hx1; omega
  | succ f =>
  rw[UA,if_pos h1'] at hb
  have hwt:IntKind.i64.wrap (x.tmod 128)=x%128:=by rw[Int.tmod_eq_emod_of_nonneg (by omega),wrap_i64 (by omega) (by omega)]
  have hwd:IntKind.i64.wrap (x.tdiv 128)=x/128:=by rw[Int.tdiv_eq_ediv_of_nonneg (by omega),wrap_i64 (by omega) (by omega)]
  have hwa:IntKind.i64.wrap (x%128+128)=x%128+128:=wrap_i64 (by omega) (by omega)
  have hwb:IntKind.i64.wrap (128+x%128)=x%128+128:=by rw[wrap_i64 (by omega) (by omega)]; omega
  have hwu:IntKind.u8.wrap (x%128+128)=x%128+128:=wrap_u8 (by omega) (by omega)
  simp only[go_sem,List.all_cons,List.all_nil,h1,List.length_map,hwt,hwd,hwa,hwb,hwu,hol2,Option.getD_some]
  exact⟨(f,x/128,out ++ [x%128+128]),Head.sel [(2,false)] ⟨rfl,rfl,by rw[← He]; exact AL byteC.pure,trivial⟩ (by rw[← He]; rfl),⟨by simp only; omega,by simp only; omega,by simp only; rw[Int.pow_succ] at hx1; omega,by simp only; rw[← hb,List.append_assoc]; rfl⟩,by simp only; omega⟩
theorem G6 (b:List Int) (n:Int) (hl:b.length≤1048576):Ctr Tryz.prog 236 [.c (.sl (b.map byteC)),.c (.v (.int .i64 (n)))] [.own 5 1 ((b++SA n).map byteC) true]:=by
 refine Ctr.mk Tryz.call236 Tryz.func236 rfl mixed Tryz.ntmps236 Tryz.results236 (by kernel_rfl) rfl fun hw=>?_
 have hl2:b.length≤2147483648:=by omega
 simp only[go_sem,Eg,List.length_map,hl2,Option.getD_some]
 refine CallK.mk _ (Gt _) fun _=>?_
 rcases h:C9 n with _ | _
 ·simp only[go_sem,h,SA,Bool.false_eq_true,if_false,List.append_nil,Bz]
  try simp[AU,AC]
 have hn:=NE.1 h
 have hz:Rz n=zig n:=by simp only[Rz,h,if_true]
 have hz0:0≤zig n∧zig n<128 ^ 5:=QV hn.1 hn.2
 simp only[go_sem,h]
 refine CallK.mk _ (Xm _) fun _=>?_
 rw[hz]
 simp only[go_sem,h]
 have hput:SA n=Dh n:=by simp only[SA,h,if_true]
 rw[hput]
 refine LoopH.mk [9,7] (A:=Nat×Int×List Int) (fun x=>[(6,.c (.v (.int .i64 (x.2.1)))),(5,.c (.ref 0))]) (fun x=>[⟨5,1,x.2.2.map byteC,true,true⟩]) (fun x=>x.1≤4∧0≤x.2.1∧x.2.1<128 ^ (x.1+1)∧x.2.2++UA x.1 x.2.1=b++Dh n) (fun x=>x.1) (4,zig n,b) (Head.sel [(1,false)] ⟨rfl,rfl,AL byteC.pure,trivial⟩ rfl) ⟨Nat.le_refl _,hz0.1,hz0.2,rfl⟩ ?_
 rintro⟨f,x,out⟩ ⟨hf,hx0,hx1,hb⟩
 dsimp only at hf hx0 hx1 hb
 have hol:out.length≤b.length+5:=by
  have h1:(Dh n).length≤5:=Sm 4 _
  have h2:=congrArg List.length hb
  simp only[List.length_append] at h2
  omega
 have hol2:out.length+1≤2147483648:=by omega
 simp only[go_sem,List.length_map]
 have hbig:x<34359738368:=by
  have:f=0∨f=1∨f=2∨f=3∨f=4:=by omega
  rcases this with rfl | rfl | rfl | rfl | rfl<;>simp at hx1<;>omega
 rcases h1:decide (x>127) with _ | _
 ·have h1':¬ x≥128:=by simp at h1; omega
  have hwx:IntKind.u8.wrap x=x:=wrap_u8 hx0 (by omega)
  have hpn:UA f x = [x]:=by
   cases f with
   | zero=>rfl
   | succ f=>rw[UA,if_neg h1']
  rw[hpn] at hb
  rw[← hb,He]
  simp only[go_sem,List.all_cons,List.all_nil,h1,List.length_map,hwx,hol2,Option.getD_some,Zn]
  try simp[AU,AC]
 ·have h1':x≥128:=by simp at h1; omega
  cases f with
  | zero=>simp at hx1; omega
  | succ f =>
  rw[UA,if_pos h1'] at hb
  have hwt:IntKind.i64.wrap (x.tmod 128)=x%128:=by rw[Int.tmod_eq_emod_of_nonneg (by omega),wrap_i64 (by omega) (by omega)]
  have hwd:IntKind.i64.wrap (x.tdiv 128)=x/128:=by rw[Int.tdiv_eq_ediv_of_nonneg (by omega),wrap_i64 (by omega) (by omega)]
  have hwa:IntKind.i64.wrap (x%128+128)=x%128+128:=wrap_i64 (by omega) (by omega)
  have hwb:IntKind.i64.wrap (128+x%128)=x%128+128:=by rw[wrap_i64 (by omega) (by omega)]; omega
  have hwu:IntKind.u8.wrap (x%128+128)=x%128+128:=wrap_u8 (by omega) (by omega)
  simp only[go_sem,List.all_cons,List.all_nil,h1,List.length_map,hwt,hwd,hwa,hwb,hwu,hol2,Option.getD_some]
  exact⟨(f,x/128,out ++ [x%128+128]),Head.sel [(2,false)] ⟨rfl,rfl,by rw[← He]; exact AL byteC.pure,trivial⟩ (by rw[← He]; rfl),⟨by simp only; omega,by simp only; omega,by simp only; rw[Int.pow_succ] at hx1; omega,by simp only; rw[← hb,List.append_assoc]; rfl⟩,by simp only; omega⟩
end Go.Proofs.YthoeeoddgkjkkaaGreat
/- Walks: lists of numbers in bytes; widths and bits. -/
namespace Go.Proofs.YthoeeoddgkjkkaaGreat
set_option linter.unusedSimpArgs false
set_option linter.unusedVariables false
open Go.Vm
set_option maxHeartbeats 2000000
set_option maxRecDepth 10000
theorem EP (out:List Int) (c:Int):(out ++ [c]).map intC=out.map intC ++ [[.v (.int .i64 c)]]:=by simp[nX]
theorem wz:CY []=true:=rfl
theorem Qa (n:Int):BX (intC n)=true:=rfl
def SB:Option (List Int×Nat)→List Res
 | some (l,q)=>[.own 3 1 (l.map intC) true,.val (.c (.v (.int .i64 ((q:Int))))),.val (.c (.v (.bool (true))))]
 | none=>[.own 3 1 [] true,.val (.c (.v (.int .i64 (0)))),.val (.c (.v (.bool (false))))]
theorem VD (b:List Int) (p:Int) (hb:AY b) (hl:b.length≤1048576):Ctr Tryz.prog 156 [.c (.sl (b.map byteC)),.c (.v (.int .i64 (p)))] (SB (Du b p)):=by
 refine Ctr.mk Tryz.call156 Tryz.func156 rfl mixed Tryz.ntmps156 Tryz.results156 (by kernel_rfl) rfl fun hw=>?_
 simp only[go_sem,List.length_map]
 have hg:=EN b p hb hl
 rcases h1:A8 b p with _ | ⟨k,q⟩<;>rw[h1] at hg<;>simp only[Pi] at hg
 ·refine CallK.mk _ hg fun _=>?_
  simp only[go_sem,Du,h1,SB]
  try simp[CY]
 refine CallK.mk _ hg fun _=>?_
 simp only[go_sem]
 refine CallK.mk _ (BK _ _ _) fun _=>?_
 rcases h2:BQ k 0 64 with _ | _
 ·have:¬ (0≤k∧k≤64):=by simp[BQ] at h2; omega
  simp only[go_sem,Du,h1,SB,h2,this]
  try simp[CY]
 have hk:0≤k∧k≤64:=by simp[BQ] at h2; omega
 obtain⟨K,rfl⟩:=Int.eq_ofNat_of_zero_le hk.1
 have hall:Du b p=FP b K q:=by simp only[Du,h1,if_pos hk,Int.toNat_natCast]
 simp only[go_sem,h2]
 refine LoopH.mk [28] (A:=Nat×Nat×List Int) (fun x=>[(10,.c (.v (.int .i64 (x.1)))),(9,.c (.ref 0)),(1,.c (.v (.int .i64 ((x.2.1:Int)))))]) (fun x=>[⟨3,1,x.2.2.map intC,true,true⟩]) (fun x=>x.1≤K∧x.2.2.length=x.1∧(FP b (K-x.1) x.2.1).map (fun y=>(x.2.2++y.1,y.2))=Du b p) (fun x=>K-x.1) (0,q,[]) (Head.sel [(0,false)] ⟨rfl,rfl,rfl,trivial⟩ rfl) ⟨Nat.zero_le _,rfl,by rw[hall]; simp⟩ ?_
 rintro⟨i,q',l⟩ ⟨hi,hll,hb2⟩
 dsimp only at hi hll hb2
 simp only[go_sem,List.length_map]
 refine cndC.mk (fun h=>?_) (fun h=>?_)
 ·have hi':i<K:=by simp at h; omega
  rw[show K-i=(K-(i+1))+1 by omega,FP] at hb2
  have hg2:=EN b q' hb hl
  simp only[go_sem]
  rcases h3:A8 b q' with _ | ⟨n,q2⟩<;>rw[h3] at hg2 hb2<;>simp only[Pi] at hg2
  ·refine CallK.mk _ hg2 fun _=>?_
   simp only[Option.map_none] at hb2
   rw[← hb2]
   simp only[go_sem,SB]
   try simp[CY]
  ·refine CallK.mk _ hg2 fun _=>?_
   have hl2:l.length+1≤2147483648:=by omega
   simp only[go_sem,List.length_map,List.all_cons,List.all_nil,hl2,Option.getD_some,wrap_i64 (n:=(i:Int)+1) (by omega) (by omega)]
   exact⟨(i+1,q2,l ++ [n]),Head.sel [(2,false)] ⟨rfl,rfl,by rw[← EP]; exact AL Qa,trivial⟩ (by rw[← EP]; rfl),⟨hi',by simp; omega,by rw[← hb2,Option.map_map]; congr 1; funext y; simp⟩,by simp only; omega⟩
 ·have hi':i=K:=by simp at h; omega
  subst hi'
  rw[Nat.sub_self,FP] at hb2
  simp only[Option.map_some,List.append_nil] at hb2
  rw[← hb2]
  simp only[go_sem,SB,Bj]
  try simp[AU,AC]
theorem VE (b:List Int) (p:Int) (hb:AY b) (hl:b.length≤1048576):Ctr Tryz.prog 146 [.c (.sl (b.map byteC)),.c (.v (.int .i64 (p)))] (SB (Du b p)):=by
 refine Ctr.mk Tryz.call146 Tryz.func146 rfl mixed Tryz.ntmps146 Tryz.results146 (by kernel_rfl) rfl fun hw=>?_
 simp only[go_sem,List.length_map]
 have hg:=EM b p hb hl
 rcases h1:A8 b p with _ | ⟨k,q⟩<;>rw[h1] at hg<;>simp only[Pi] at hg
 ·refine CallK.mk _ hg fun _=>?_
  simp only[go_sem,Du,h1,SB]
  try simp[CY]
 refine CallK.mk _ hg fun _=>?_
 simp only[go_sem]
 refine CallK.mk _ (Am _ _ _) fun _=>?_
 rcases h2:BQ k 0 64 with _ | _
 ·have:¬ (0≤k∧k≤64):=by simp[BQ] at h2; omega
  simp only[go_sem,Du,h1,SB,h2,this]
  try simp[CY]
 have hk:0≤k∧k≤64:=by simp[BQ] at h2; omega
 obtain⟨K,rfl⟩:=Int.eq_ofNat_of_zero_le hk.1
 have hall:Du b p=FP b K q:=by simp only[Du,h1,if_pos hk,Int.toNat_natCast]
 simp only[go_sem,h2]
 refine LoopH.mk [30] (A:=Nat×Nat×List Int) (fun x=>[(11,.c (.v (.int .i64 (x.1)))),(10,.c (.ref 0)),(8,.c (.v (.int .i64 ((x.2.1:Int)))))]) (fun x=>[⟨3,1,x.2.2.map intC,true,true⟩]) (fun x=>x.1≤K∧x.2.2.length=x.1∧(FP b (K-x.1) x.2.1).map (fun y=>(x.2.2++y.1,y.2))=Du b p) (fun x=>K-x.1) (0,q,[]) (Head.sel [(0,false)] ⟨rfl,rfl,rfl,trivial⟩ rfl) ⟨Nat.zero_le _,rfl,by rw[hall]; simp⟩ ?_
 rintro⟨i,q',l⟩ ⟨hi,hll,hb2⟩
 dsimp only at hi hll hb2
 simp only[go_sem,List.length_map]
 refine cndC.mk (fun h=>?_) (fun h=>?_)
 ·have hi':i<K:=by simp at h; omega
  rw[show K-i=(K-(i+1))+1 by omega,FP] at hb2
  have hg2:=EM b q' hb hl
  simp only[go_sem]
  rcases h3:A8 b q' with _ | ⟨n,q2⟩<;>rw[h3] at hg2 hb2<;>simp only[Pi] at hg2
  ·refine CallK.mk _ hg2 fun _=>?_
   simp only[Option.map_none] at hb2
   rw[← hb2]
   simp only[go_sem,SB]
   try simp[CY]
  ·refine CallK.mk _ hg2 fun _=>?_
   have hl2:l.length+1≤2147483648:=by omega
   simp only[go_sem,List.length_map,List.all_cons,List.all_nil,hl2,Option.getD_some,wrap_i64 (n:=(i:Int)+1) (by omega) (by omega)]
   exact⟨(i+1,q2,l ++ [n]),Head.sel [(2,false)] ⟨rfl,rfl,by rw[← EP]; exact AL Qa,trivial⟩ (by rw[← EP]; rfl),⟨hi',by simp; omega,by rw[← hb2,Option.map_map]; congr 1; funext y; simp⟩,by simp only; omega⟩
 ·have hi':i=K:=by simp at h; omega
  subst hi'
  rw[Nat.sub_self,FP] at hb2
  simp only[Option.map_some,List.append_nil] at hb2
  rw[← hb2]
  simp only[go_sem,SB,Bj]
  try simp[AU,AC]
end Go.Proofs.YthoeeoddgkjkkaaGreat
