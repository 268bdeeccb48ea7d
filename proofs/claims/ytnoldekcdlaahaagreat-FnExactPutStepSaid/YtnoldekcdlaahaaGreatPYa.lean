/- A part. -/
import Derived.Test.YtnoldekcdlaahaaGreatPYt
import Derived.Test.YtnoldekcdlaahaaGreatPAc
import Derived.Test.YtnoldekcdlaahaaGreatPOa
set_option linter.unusedSimpArgs false
set_option linter.unusedVariables false
set_option maxHeartbeats 2000000
set_option maxRecDepth 10000
open Go.Proofs.Tryz
namespace Go.Proofs.YtnoldekcdlaahaaGreat
open Go.Vm
theorem dU (k:IntKind) (a b:Nat) (ha:a<2 ^ k.bits) (hb:b<2 ^ k.bits):Zn k (a:Int) (b:Int)=((a &&& b:Nat):Int):=by
 unfold Zn
 rw[BitVec.ofInt_natCast,BitVec.ofInt_natCast,BitVec.toNat_and,BitVec.toNat_ofNat,BitVec.toNat_ofNat,abG ha,abG hb]
theorem AFs (k:IntKind) (a b:Nat) (ha:a<2 ^ k.bits) (hb:b<2 ^ k.bits):orK k (a:Int) (b:Int)=((a ||| b:Nat):Int):=by
 unfold orK
 rw[BitVec.ofInt_natCast,BitVec.ofInt_natCast,BitVec.toNat_or,BitVec.toNat_ofNat,BitVec.toNat_ofNat,abG ha,abG hb]
theorem AAY {x:Int} (h0:0≤x) (h1:x<9223372036854775808):Zn .i64 x 127=x%128:=by
 obtain⟨n,rfl⟩:=aQ h0
 have:=dU .i64 n 127 (show n<18446744073709551616 from AOQ) AOU
 rw[show ((127:Nat):Int)=127 from rfl] at this
 rw[this,show (127:Nat)=2 ^ 7-1 from rfl,Nat.and_two_pow_sub_one_eq_mod]
 omega
theorem AGc {x:Int} (h0:0≤x) (h1:x<9223372036854775808):Zn .i64 x 1=x%2:=by
 obtain⟨n,rfl⟩:=aQ h0
 have:=dU .i64 n 1 (show n<18446744073709551616 from AOQ) AOU
 exact ANz
theorem AHi {x:Int} (h0:0≤x) (h1:x<256):Zn .u8 x 1=x%2:=by
 obtain⟨n,rfl⟩:=aQ h0
 have:=dU .u8 n 1 (show n<256 from AOQ) AOU
 exact ANz
theorem dV (k:IntKind) {x y:Int} {s:Nat} (h0:0≤x) (h1:x<2 ^ s) (hy:0≤y) (hb:x+y*2 ^ s<2 ^ k.bits):orK k x (y*2 ^ s)=x+y*2 ^ s:=by
 obtain⟨n,rfl⟩:=aQ h0
 obtain⟨m,rfl⟩:=aQ hy
 have e:(m:Int)*2 ^ s=((m*2 ^ s:Nat):Int):=by push_cast; rfl
 have h1':n<2 ^ s:=by exact_mod_cast h1
 have hb':n+m*2 ^ s<2 ^ k.bits:=by rw[e] at hb; exact_mod_cast hb
 rw[e,AFs k n (m*2 ^ s) AOQ AOQ,Nat.or_comm,Nat.mul_comm m,← Nat.two_pow_add_eq_or_of_lt h1' m]
 omega
theorem wrap_u8 {n:Int} (h:0≤n) (h2:n<256):IntKind.u8.wrap n=n:=KT (by
 simp only[Lit.wf,ay,aZ]
 simp[IntKind.min,IntKind.max,IntKind.bits,IntKind.signed]
 omega)
@[go_sem] theorem AK_:((2:Int)=0)=False:=AOR
@[go_sem] theorem ALA:((8:Int)=0)=False:=AOR
@[go_sem] theorem AKv:((128:Int)=0)=False:=AOR
@[go_sem] theorem AKX (n:Nat):(((n:Int))<0)=False:=AOR
theorem OW (i:Nat):(128:Int) ^ i=2 ^ (7*i):=by rw[Int.pow_mul]; rfl
def YX (n:Int):Int:=if ER n=true then zig n else 0
theorem Sj {n:Int}:ER n=true↔ -1000000000≤n∧n≤1000000000:=by simp[ER,Ad]
theorem oK (n:Int):Ctr prog 370 [.c (.v (.int .i64 (n)))] [.val (.c (.v (.int .i64 (YX n))))]:=by
 refine CM call370 func370 ntmps370 results370 fun hw=>?_
 simp only[go_sem]
 refine AAM _ (Je _) fun _=>?_
 exact AJ5
theorem oM (n:Int):Ctr prog 374 [.c (.v (.int .i64 (n)))] [.val (.c (.v (.int .i64 (YX n))))]:=by
 refine CM call374 func374 ntmps374 results374 fun hw=>?_
 simp only[go_sem]
 refine AAM _ (NC _) fun _=>?_
 exact AJ5
def YY (n:Int):Int:=if Ad n 0 2000000000=true then zag n else 0
theorem oN (n:Int):Ctr prog 381 [.c (.v (.int .i64 (n)))] [.val (.c (.v (.int .i64 (YY n))))]:=by
 refine CM call381 func381 ntmps381 results381 fun hw=>?_
 simp only[go_sem]
 refine AAM _ (AO _ _ _) fun _=>?_
 exact AG8
theorem oO (n:Int):Ctr prog 390 [.c (.v (.int .i64 (n)))] [.val (.c (.v (.int .i64 (YY n))))]:=by
 refine CM call390 func390 ntmps390 results390 fun hw=>?_
 simp only[go_sem]
 refine AAM _ (AL _ _ _) fun _=>?_
 exact AG8
def Ve:Option (Int×Nat)→List Res
 | some (n,q)=>[.val (.c (.v (.int .i64 (n)))),.val (.c (.v (.int .i64 ((q:Int))))),.val (.c (.v (.bool (true))))]
 | none=>[.val (.c (.v (.int .i64 (0)))),.val (.c (.v (.int .i64 (0)))),.val (.c (.v (.bool (false))))]
theorem yR {b:List Int} {p:Int} (h:¬ (0≤p∧p<b.length)):Bf b p=none:=by
 unfold Bf
 split
 ·rename_i hp
  have:b[p.toNat+0]?=none:=mV AOQ
  rw[show (5:Nat)=4+1 from rfl,Jw,this]
 ·rfl
theorem GU (b:List Int) (p:Int) (hb:Ae b) (hl:b.length≤1048576):Ctr prog 347 [.c (.sl (b.map byteC)),.c (.v (.int .i64 (p)))] (Ve (Bf b p)):=by
 refine CM call347 func347 ntmps347 results347 fun hw=>?_
 simp only[go_sem,ae]
 refine AAM _ (AO _ _ _) fun _=>?_
 rcases h:Ad p 0 (b.length:Int) with _ | _
 ·simp only[go_sem,h]
  rw[yR (by simp[Ad] at h; omega)]
  exact AMk
 have hp:0≤p∧p≤b.length:=by simpa [Ad] using h
 obtain⟨m,rfl⟩:=aQ hp.1
 simp only[go_sem,h,ae]
 have hm5:Bf b m=Jw b m 5 0 0:=by unfold Bf; rw[bF AOQ]; rfl
 refine ABK 0 (A:=Nat×Int) (fun x=>[(8,.c (.v (.int .i64 (x.1)))),(7,.c (.v (.int .i64 (x.2))))]) (fun _=>[]) (fun x=>x.1≤5∧0≤x.2∧x.2<128 ^ x.1∧Jw b m (5-x.1) x.2 x.1=Bf b m) (fun x=>5-x.1) (0,0) ⟨⟨rfl,rfl⟩,rfl,AOQ,AOQ,AOU,hm5.symm⟩ ?_
 rintro⟨i,x⟩ ⟨hi,hx0,hx1,hg⟩
 dsimp only at hi hx0 hx1 hg
 have hw1:IntKind.i64.wrap ((b.length:Int)-m)=b.length-m:=wrap_i64 AOQ AOQ
 have hw2:IntKind.i64.wrap ((m:Int)+i)=((m+i:Nat):Int):=AOW
 rcases h5:decide ((i:Int)<5) with _ | _
 ·have hi5:i=5:=by simp at h5; omega
  subst hi5
  simp only[jV,Jw] at hg
  simp only[go_sem,h5]
  rw[← hg]
  exact AMk
 have hi5:i<5:=by simp at h5; omega
 rw[show 5-i=(4-i)+1 from AOQ,Jw] at hg
 rcases h6:decide ((i:Int)<(b.length:Int)-m) with _ | _
 ·exact AL8
 have h6':m+i<b.length:=by simp at h6; omega
 have hbc:=hb _ (ax h6')
 rw[au h6'] at hg
 generalize hc:b[m+i]=c at hg hbc
 obtain⟨c0,c1⟩:=hbc
 simp only at hg
 have hP:(128:Int) ^ i≤268435456:=by
  exact ANW
 have hP0:(0:Int)≤c%128*128 ^ i:=aaZ AOQ (aaU AOQ)
 have hP1:c%128*128 ^ i≤127*268435456:=Int.le_trans (aag AOQ (aaU AOQ)) (abf hP AOQ)
 have hP2:x+c%128*128 ^ i<128 ^ (i+1):=by
  exact ANu
 have hP3:0≤(c%128*128 ^ i:Int):=hP0
 have hwc:IntKind.i64.wrap c=c:=wrap_i64 AOQ AOQ
 have hwa:IntKind.i64.wrap (Zn .i64 c 127)=c%128:=by rw[AAY AOQ AOQ,wrap_i64 AOQ AOQ]
 have hwt:IntKind.i64.wrap (c.tmod 128)=c%128:=by rw[aat AOQ,wrap_i64 AOQ AOQ]
 have hw7:IntKind.i64.wrap (7*(i:Int))=((7*i:Nat):Int):=AOW
 have hws:IntKind.i64.wrap (c%128*2 ^ min (7*i) 64)=c%128*128 ^ i:=by
  exact ANq
 have hwo:IntKind.i64.wrap (orK .i64 x (c%128*128 ^ i))=x+c%128*128 ^ i:=by
  exact AMU
 have hwp:IntKind.i64.wrap (x+c%128*128 ^ i)=x+c%128*128 ^ i:=wrap_i64 AOQ AOQ
 have hwi:IntKind.i64.wrap ((i:Int)+1)=((i+1:Nat):Int):=AOW
 have hwe:IntKind.i64.wrap (((m+i:Nat):Int)+1)=((m+i+1:Nat):Int):=AOW
 refine AOP ?_
 rcases h7:decide (c>127) with _ | _
 rotate_left
 ·exact ALI
 have h7':¬ c≥128:=by simp at h7; omega
 rw[bz h7'] at hg
 have hz:YY (x+c%128*128 ^ i)=if x+c%128*128 ^ i>2000000000 then 0 else zag (x+c%128*128 ^ i):=by
  exact AMm
 rcases h8:decide (x+c%128*128 ^ i>2000000000) with _ | _<;>rcases h9:c==0 with _ | _<;>rcases h10:decide ((i:Int)>0) with _ | _<;>simp only[go_sem,h7,h8,h9,h10]
 case' false.false.false | false.false.true | false.true.false =>
  have h8':¬ x+c%128*128 ^ i>2000000000:=by simpa using h8
  rw[bz (by simp at h9 h10; omega)] at hg
  refine AAM _ (oN _) fun _=>?_
  simp only[go_sem,hw2,hwe]
  rw[hz,bz h8',← hg]
  exact AMk
 all_goals
  rw[bF (by simp at h8 h9 h10; omega)] at hg
  rw[← hg]
  exact AMk
theorem GV (b:List Int) (p:Int) (hb:Ae b) (hl:b.length≤1048576):Ctr prog 357 [.c (.sl (b.map byteC)),.c (.v (.int .i64 (p)))] (Ve (Bf b p)):=by
 refine CM call357 func357 ntmps357 results357 fun hw=>?_
 rcases h0:decide (p<0) with _ | _
 rotate_left
 ·simp only[go_sem,h0]
  rw[yR (by simp at h0; omega)]
  exact AMk
 have hp0:0≤p:=APZ
 obtain⟨m,rfl⟩:=aQ hp0
 rcases h1:decide ((m:Int)≥b.length) with _ | _
 rotate_left
 ·simp only[go_sem,ae,h0,h1]
  rw[yR APS]
  exact AMk
 have hp:(m:Int)≤b.length:=APS
 simp only[go_sem,h0,h1,ae]
 have hm5:Bf b m=Jw b m 5 0 0:=by unfold Bf; rw[bF AOQ]; rfl
 refine ABK 0 (A:=Nat×Int) (fun x=>[(8,.c (.v (.int .i64 (x.1)))),(7,.c (.v (.int .i64 (x.2))))]) (fun _=>[]) (fun x=>x.1≤5∧0≤x.2∧x.2<128 ^ x.1∧Jw b m (5-x.1) x.2 x.1=Bf b m) (fun x=>5-x.1) (0,0) ⟨⟨rfl,rfl⟩,rfl,AOQ,AOQ,AOU,hm5.symm⟩ ?_
 rintro⟨i,x⟩ ⟨hi,hx0,hx1,hg⟩
 dsimp only at hi hx0 hx1 hg
 have hw1:IntKind.i64.wrap ((b.length:Int)-m)=b.length-m:=wrap_i64 AOQ AOQ
 have hw2:IntKind.i64.wrap ((m:Int)+i)=((m+i:Nat):Int):=AOW
 rcases h5:decide ((i:Int)<5) with _ | _
 ·have hi5:i=5:=by simp at h5; omega
  subst hi5
  simp only[jV,Jw] at hg
  simp only[go_sem,h5]
  rw[← hg]
  exact AMk
 have hi5:i<5:=by simp at h5; omega
 rw[show 5-i=(4-i)+1 from AOQ,Jw] at hg
 rcases h6:decide (((m+i:Nat):Int)<(b.length:Int)) with _ | _
 ·exact AL8
 have h6':m+i<b.length:=by simp at h6; omega
 have hbc:=hb _ (ax h6')
 rw[au h6'] at hg
 generalize hc:b[m+i]=c at hg hbc
 obtain⟨c0,c1⟩:=hbc
 simp only at hg
 have hP:(128:Int) ^ i≤268435456:=by
  exact ANW
 have hP0:(0:Int)≤c%128*128 ^ i:=aaZ AOQ (aaU AOQ)
 have hP1:c%128*128 ^ i≤127*268435456:=Int.le_trans (aag AOQ (aaU AOQ)) (abf hP AOQ)
 have hP2:x+c%128*128 ^ i<128 ^ (i+1):=by
  exact ANu
 have hP3:0≤(c%128*128 ^ i:Int):=hP0
 have hwc:IntKind.i64.wrap c=c:=wrap_i64 AOQ AOQ
 have hwa:IntKind.i64.wrap (Zn .i64 c 127)=c%128:=by rw[AAY AOQ AOQ,wrap_i64 AOQ AOQ]
 have hwt:IntKind.i64.wrap (c.tmod 128)=c%128:=by rw[aat AOQ,wrap_i64 AOQ AOQ]
 have hw7:IntKind.i64.wrap (7*(i:Int))=((7*i:Nat):Int):=AOW
 have hws:IntKind.i64.wrap (c%128*2 ^ min (7*i) 64)=c%128*128 ^ i:=by
  exact ANq
 have hwo:IntKind.i64.wrap (orK .i64 x (c%128*128 ^ i))=x+c%128*128 ^ i:=by
  exact AMU
 have hwp:IntKind.i64.wrap (x+c%128*128 ^ i)=x+c%128*128 ^ i:=wrap_i64 AOQ AOQ
 have hwi:IntKind.i64.wrap ((i:Int)+1)=((i+1:Nat):Int):=AOW
 have hwe:IntKind.i64.wrap (((m+i:Nat):Int)+1)=((m+i+1:Nat):Int):=AOW
 refine AOP ?_
 rcases h7:decide (c≥128) with _ | _
 rotate_left
 ·exact ALI
 have h7':¬ c≥128:=by simp at h7; omega
 rw[bz h7'] at hg
 have hz:YY (x+c%128*128 ^ i)=if x+c%128*128 ^ i>2000000000 then 0 else zag (x+c%128*128 ^ i):=by
  exact AMm
 rcases h8:decide (x+c%128*128 ^ i>2000000000) with _ | _<;>rcases h9:c==0 with _ | _<;>rcases h10:decide ((i:Int)>0) with _ | _<;>simp only[go_sem,h7,h8,h9,h10]
 case' false.false.false | false.false.true | false.true.false =>
  have h8':¬ x+c%128*128 ^ i>2000000000:=by simpa using h8
  rw[bz (by simp at h9 h10; omega)] at hg
  refine AAM _ (oO _) fun _=>?_
  simp only[go_sem,hw2,hwe]
  rw[hz,bz h8',← hg]
  exact AMk
 all_goals
  rw[bF (by simp at h8 h9 h10; omega)] at hg
  rw[← hg]
  exact AMk
theorem F_ (l:List Int):Kz 1 (l.map byteC)=true:=aJ.2 fun r hr=>by
 obtain⟨x,_,rfl⟩:=sD.1 hr
 rfl
theorem GG (l:List Int) (h:l.length≤2147483648):Ctr prog 234 [.c (.sl (l.map byteC))] [.own 5 1 (l.map byteC) true]:=by
 refine CM call234 func234 ntmps234 results234 fun hw=>?_
 simp only[go_sem,F_,ae,h,aH,CQ]
 try exact AII
def YZ (n:Int):List Int:=if ER n=true then FO n else []
theorem Ko (out:List Int) (c:Int):(out ++ [c]).map byteC=out.map byteC ++ [[.v (.int .u8 c)]]:=by simp[Oa]
theorem ug (out:List Int) (c:Int):BJ (out.map byteC ++ [[.v (.int .u8 c)]])=true:=by rw[← Ko]; exact CQ _
theorem Yx:∀ (f:Nat) (x:Int),(fM f x).length≤f+1
 | 0,_=>aT _
 | f+1,x=>by
  rw[fM]
  split
  ·have:=Yx f (x/128); simp; omega
  ·simp
theorem GX (b:List Int) (n:Int) (hl:b.length≤1048576):Ctr prog 335 [.c (.sl (b.map byteC)),.c (.v (.int .i64 (n)))] [.own 5 1 ((b++YZ n).map byteC) true]:=by
 refine CM call335 func335 ntmps335 results335 fun hw=>?_
 have hl2:b.length≤2147483648:=AOQ
 simp only[go_sem,F_,ae,hl2,aH]
 refine AAM _ (GG b hl2) fun _=>?_
 simp only[go_sem,ae]
 refine AAM _ (NC _) fun _=>?_
 rcases h:ER n with _ | _
 ·simp only[go_sem,h,YZ,aB,aX,bQ,CQ]
  try exact AII
 have hn:=Sj.1 h
 have hz:YX n=zig n:=by simp only[YX,h,bf]
 have hz0:0≤zig n∧zig n<128 ^ 5:=XK hn.1 hn.2
 simp only[go_sem,h]
 refine AAM _ (oM _) fun _=>?_
 rw[hz]
 simp only[go_sem,h]
 have hput:YZ n=FO n:=by simp only[YZ,h,bf]
 rw[hput]
 refine ABZ [8] (A:=Nat×Int×List Int) (fun x=>[(6,.c (.v (.int .i64 (x.2.1)))),(5,.c (.ref 0))]) (fun x=>[⟨5,1,x.2.2.map byteC,true,true⟩]) (fun x=>x.1≤4∧0≤x.2.1∧x.2.1<128 ^ (x.1+1)∧x.2.2++fM x.1 x.2.1=b++FO n) (fun x=>x.1) (4,zig n,b) (ABJ [(0,false)] ⟨rfl,rfl,AY byteC.pure,trivial⟩ rfl) ⟨aT _,hz0.1,hz0.2,rfl⟩ ?_
 rintro⟨f,x,out⟩ ⟨hf,hx0,hx1,hb⟩
 dsimp only at hf hx0 hx1 hb
 have hol:out.length≤b.length+5:=by
  exact ANO
 have hol2:out.length+1≤2147483648:=AOQ
 simp only[go_sem,ae]
 have hbig:x<34359738368:=by
  exact AM2
 rcases h1:decide (x≥128) with _ | _
 ·have h1':¬ x≥128:=by simp at h1; omega
  have hwx:IntKind.u8.wrap x=x:=wrap_u8 hx0 AOQ
  have hpn:fM f x = [x]:=by
   cases f with
   | zero=>rfl
   | succ f=>rw[fM,bz h1']
  rw[hpn] at hb
  rw[← hb,Ko]
  simp only[go_sem,bi,bJ,h1,ae,hwx,hol2,aH,ug]
  try exact AII
 ·exact AG6
theorem Ju (b:List Int) (n:Int) (hl:b.length≤1048576):Ctr prog 329 [.c (.sl (b.map byteC)),.c (.v (.int .i64 (n)))] [.own 5 1 ((b++YZ n).map byteC) true]:=by
 refine CM call329 func329 ntmps329 results329 fun hw=>?_
 have hl2:b.length≤2147483648:=AOQ
 simp only[go_sem,F_,ae,hl2,aH]
 refine AAM _ (Je _) fun _=>?_
 rcases h:ER n with _ | _
 ·simp only[go_sem,h,YZ,aB,aX,bQ,CQ]
  try exact AII
 have hn:=Sj.1 h
 have hz:YX n=zig n:=by simp only[YX,h,bf]
 have hz0:0≤zig n∧zig n<128 ^ 5:=XK hn.1 hn.2
 simp only[go_sem,h]
 refine AAM _ (oK _) fun _=>?_
 rw[hz]
 simp only[go_sem,h]
 have hput:YZ n=FO n:=by simp only[YZ,h,bf]
 rw[hput]
 refine ABZ [9,7] (A:=Nat×Int×List Int) (fun x=>[(6,.c (.v (.int .i64 (x.2.1)))),(5,.c (.ref 0))]) (fun x=>[⟨5,1,x.2.2.map byteC,true,true⟩]) (fun x=>x.1≤4∧0≤x.2.1∧x.2.1<128 ^ (x.1+1)∧x.2.2++fM x.1 x.2.1=b++FO n) (fun x=>x.1) (4,zig n,b) (ABJ [(1,false)] ⟨rfl,rfl,AY byteC.pure,trivial⟩ rfl) ⟨aT _,hz0.1,hz0.2,rfl⟩ ?_
 rintro⟨f,x,out⟩ ⟨hf,hx0,hx1,hb⟩
 dsimp only at hf hx0 hx1 hb
 have hol:out.length≤b.length+5:=by
  exact ANO
 have hol2:out.length+1≤2147483648:=AOQ
 simp only[go_sem,ae]
 have hbig:x<34359738368:=by
  exact AM2
 rcases h1:decide (x>127) with _ | _
 ·have h1':¬ x≥128:=by simp at h1; omega
  have hwx:IntKind.u8.wrap x=x:=wrap_u8 hx0 AOQ
  have hpn:fM f x = [x]:=by
   cases f with
   | zero=>rfl
   | succ f=>rw[fM,bz h1']
  rw[hpn] at hb
  rw[← hb,Ko]
  simp only[go_sem,bi,bJ,h1,ae,hwx,hol2,aH,ug]
  try exact AII
 ·exact AG6
end Go.Proofs.YtnoldekcdlaahaaGreat
