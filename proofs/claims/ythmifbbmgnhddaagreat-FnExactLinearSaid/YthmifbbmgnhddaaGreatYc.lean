/- A part. -/
import Derived.Test.YthmifbbmgnhddaaGreatYu
import Derived.Test.YthmifbbmgnhddaaGreatDk
import Derived.Test.YthmifbbmgnhddaaGreatOa
set_option linter.unusedSimpArgs false
set_option linter.unusedVariables false
set_option maxHeartbeats 2000000
set_option maxRecDepth 10000
open Go.Proofs.Tryz
namespace Go.Proofs.YthmifbbmgnhddaaGreat
open Go.Vm
section
variable {p q r:Prop}
theorem ASj(h:p:=by rw[← hT]; kernel_rfl):p:=h
end
theorem jr (k:IntKind) (a b:Nat) (ha:a<2 ^ k.bits) (hb:b<2 ^ k.bits):iZ k (a:Int) (b:Int)=((a &&& b:Nat):Int):=by
 unfold iZ
 rw[BitVec.ofInt_natCast,BitVec.ofInt_natCast,BitVec.toNat_and,BitVec.toNat_ofNat,BitVec.toNat_ofNat,abT ha,abT hb]
theorem AIe (k:IntKind) (a b:Nat) (ha:a<2 ^ k.bits) (hb:b<2 ^ k.bits):orK k (a:Int) (b:Int)=((a ||| b:Nat):Int):=by
 unfold orK
 rw[BitVec.ofInt_natCast,BitVec.ofInt_natCast,BitVec.toNat_or,BitVec.toNat_ofNat,BitVec.toNat_ofNat,abT ha,abT hb]
theorem ADC {x:Int} (h0:0≤x) (h1:x<9223372036854775808):iZ .i64 x 127=x%128:=by
 obtain⟨n,rfl⟩:=aU h0
 have:=jr .i64 n 127 (show n<18446744073709551616 from AQ2) ARJ
 rw[show ((127:Nat):Int)=127 from rfl] at this
 rw[this,show (127:Nat)=2 ^ 7-1 from rfl,Nat.and_two_pow_sub_one_eq_mod]
 omega
theorem AJM {x:Int} (h0:0≤x) (h1:x<9223372036854775808):iZ .i64 x 1=x%2:=by
 obtain⟨n,rfl⟩:=aU h0
 have:=jr .i64 n 1 (show n<18446744073709551616 from AQ2) ARJ
 exact AQY
theorem AKj {x:Int} (h0:0≤x) (h1:x<256):iZ .u8 x 1=x%2:=by
 obtain⟨n,rfl⟩:=aU h0
 have:=jr .u8 n 1 (show n<256 from AQ2) ARJ
 exact AQY
theorem jv (k:IntKind) {x y:Int} {s:Nat} (h0:0≤x) (h1:x<2 ^ s) (hy:0≤y) (hb:x+y*2 ^ s<2 ^ k.bits):orK k x (y*2 ^ s)=x+y*2 ^ s:=by
 obtain⟨n,rfl⟩:=aU h0
 obtain⟨m,rfl⟩:=aU hy
 have e:(m:Int)*2 ^ s=((m*2 ^ s:Nat):Int):=by push_cast; rfl
 have h1':n<2 ^ s:=by exact_mod_cast h1
 have hb':n+m*2 ^ s<2 ^ k.bits:=by rw[e] at hb; exact_mod_cast hb
 rw[e,AIe k n (m*2 ^ s) AQ2 AQ2,Nat.or_comm,Nat.mul_comm m,← Nat.two_pow_add_eq_or_of_lt h1' m]
 omega
theorem wrap_u8 {n:Int} (h:0≤n) (h2:n<256):IntKind.u8.wrap n=n:=KC (by
 simp only[Lit.wf,az,bC]
 simp[IntKind.min,IntKind.max,IntKind.bits,IntKind.signed]
 omega)
@[go_sem] theorem AN7:((2:Int)=0)=False:=AQ3
@[go_sem] theorem AN8:((8:Int)=0)=False:=AQ3
@[go_sem] theorem ANv:((128:Int)=0)=False:=AQ3
@[go_sem] theorem ANV (n:Nat):(((n:Int))<0)=False:=AQ3
theorem Po (i:Nat):(128:Int) ^ i=2 ^ (7*i):=by rw[Int.pow_mul]; rfl
def b_ (n:Int):Int:=if EN n=true then zig n else 0
theorem UY {n:Int}:EN n=true↔ -1000000000≤n∧n≤1000000000:=by simp[EN,Ad]
theorem uN (n:Int):Ctr prog 453 [.c (.v (.int .i64 (n)))] [.val (.c (.v (.int .i64 (b_ n))))]:=by
 refine CM call453 func453 ntmps453 results453 fun hw=>?_
 simp only[go_sem]
 refine AAN _ (KT _) fun _=>?_
 exact AK8
theorem uO (n:Int):Ctr prog 425 [.c (.v (.int .i64 (n)))] [.val (.c (.v (.int .i64 (b_ n))))]:=by
 refine CM call425 func425 ntmps425 results425 fun hw=>?_
 simp only[go_sem]
 refine AAN _ (OX _) fun _=>?_
 exact AK8
def dA (n:Int):Int:=if Ad n 0 2000000000=true then zag n else 0
theorem uP (n:Int):Ctr prog 375 [.c (.v (.int .i64 (n)))] [.val (.c (.v (.int .i64 (dA n))))]:=by
 refine CM call375 func375 ntmps375 results375 fun hw=>?_
 simp only[go_sem]
 refine AAN _ (AQ _ _ _) fun _=>?_
 exact AHr
theorem uQ (n:Int):Ctr prog 383 [.c (.v (.int .i64 (n)))] [.val (.c (.v (.int .i64 (dA n))))]:=by
 refine CM call383 func383 ntmps383 results383 fun hw=>?_
 simp only[go_sem]
 refine AAN _ (AL _ _ _) fun _=>?_
 exact AHr
def Xn:Option (Int×Nat)→List Res
 | some (n,q)=>[.val (.c (.v (.int .i64 (n)))),.val (.c (.v (.int .i64 ((q:Int))))),.val (.c (.v (.bool (true))))]
 | none=>[.val (.c (.v (.int .i64 (0)))),.val (.c (.v (.int .i64 (0)))),.val (.c (.v (.bool (false))))]
theorem ABs {b:List Int} {p:Int} (h:¬ (0≤p∧p<b.length)):BU b p=none:=by
 unfold BU
 split
 ·rename_i hp
  have:b[p.toNat+0]?=none:=aaq AQ2
  rw[show (5:Nat)=4+1 from rfl,Kq,this]
 ·rfl
theorem Gs (b:List Int) (p:Int) (hb:Af b) (hl:b.length≤1048576):Ctr prog 348 [.c (.sl (b.map byteC)),.c (.v (.int .i64 (p)))] (Xn (BU b p)):=by
 refine CM call348 func348 ntmps348 results348 fun hw=>?_
 simp only[go_sem,ae]
 refine AAN _ (AQ _ _ _) fun _=>?_
 rcases h:Ad p 0 (b.length:Int) with _ | _
 ·simp only[go_sem,h]
  rw[ABs (by simp[Ad] at h; omega)]
  exact APR
 have hp:0≤p∧p≤b.length:=by simpa [Ad] using h
 obtain⟨m,rfl⟩:=aU hp.1
 simp only[go_sem,h,ae]
 have hm5:BU b m=Kq b m 5 0 0:=by unfold BU; rw[bG AQ2]; rfl
 refine AAT 0 (A:=Nat×Int) (fun x=>[(8,.c (.v (.int .i64 (x.1)))),(7,.c (.v (.int .i64 (x.2))))]) (fun _=>[]) (fun x=>x.1≤5∧0≤x.2∧x.2<128 ^ x.1∧Kq b m (5-x.1) x.2 x.1=BU b m) (fun x=>5-x.1) (0,0) ⟨⟨rfl,rfl⟩,rfl,AQ2,AQ2,ARJ,hm5.symm⟩ ?_
 rintro⟨i,x⟩ ⟨hi,hx0,hx1,hg⟩
 dsimp only at hi hx0 hx1 hg
 have hw1:IntKind.i64.wrap ((b.length:Int)-m)=b.length-m:=wrap_i64 AQ2 AQ2
 have hw2:IntKind.i64.wrap ((m:Int)+i)=((m+i:Nat):Int):=AQ7
 rcases h5:decide ((i:Int)<5) with _ | _
 ·have hi5:i=5:=by simp at h5; omega
  subst hi5
  simp only[ZO,Kq] at hg
  simp only[go_sem,h5]
  rw[← hg]
  exact APR
 have hi5:i<5:=by simp at h5; omega
 rw[show 5-i=(4-i)+1 from AQ2,Kq] at hg
 rcases h6:decide ((i:Int)<(b.length:Int)-m) with _ | _
 ·exact AOm
 have h6':m+i<b.length:=by simp at h6; omega
 have hbc:=hb _ (aj h6')
 rw[aC h6'] at hg
 generalize hc:b[m+i]=c at hg hbc
 obtain⟨c0,c1⟩:=hbc
 simp only at hg
 have hP:(128:Int) ^ i≤268435456:=by
  exact AP8
 have hP0:(0:Int)≤c%128*128 ^ i:=abe AQ2 (aa5 AQ2)
 have hP1:c%128*128 ^ i≤127*268435456:=Int.le_trans (aak AQ2 (aa5 AQ2)) (abt hP AQ2)
 have hP2:x+c%128*128 ^ i<128 ^ (i+1):=by
  exact AQR
 have hP3:0≤(c%128*128 ^ i:Int):=hP0
 have hwc:IntKind.i64.wrap c=c:=wrap_i64 AQ2 AQ2
 have hwa:IntKind.i64.wrap (iZ .i64 c 127)=c%128:=by rw[ADC AQ2 AQ2,wrap_i64 AQ2 AQ2]
 have hwt:IntKind.i64.wrap (c.tmod 128)=c%128:=by rw[aaC AQ2,wrap_i64 AQ2 AQ2]
 have hw7:IntKind.i64.wrap (7*(i:Int))=((7*i:Nat):Int):=AQ7
 have hws:IntKind.i64.wrap (c%128*2 ^ min (7*i) 64)=c%128*128 ^ i:=by
  exact AQN
 have hwo:IntKind.i64.wrap (orK .i64 x (c%128*128 ^ i))=x+c%128*128 ^ i:=by
  exact APA
 have hwp:IntKind.i64.wrap (x+c%128*128 ^ i)=x+c%128*128 ^ i:=wrap_i64 AQ2 AQ2
 have hwi:IntKind.i64.wrap ((i:Int)+1)=((i+1:Nat):Int):=AQ7
 have hwe:IntKind.i64.wrap (((m+i:Nat):Int)+1)=((m+i+1:Nat):Int):=AQ7
 refine AQ1 ?_
 rcases h7:decide (c>127) with _ | _
 rotate_left
 ·exact ANh
 have h7':¬ c≥128:=by simp at h7; omega
 rw[bu h7'] at hg
 have hz:dA (x+c%128*128 ^ i)=if x+c%128*128 ^ i>2000000000 then 0 else zag (x+c%128*128 ^ i):=by
  exact APT
 rcases h8:decide (x+c%128*128 ^ i>2000000000) with _ | _<;>rcases h9:c==0 with _ | _<;>rcases h10:decide ((i:Int)>0) with _ | _<;>simp only[go_sem,h7,h8,h9,h10]
 case' false.false.false | false.false.true | false.true.false =>
  have h8':¬ x+c%128*128 ^ i>2000000000:=by simpa using h8
  rw[bu (by simp at h9 h10; omega)] at hg
  refine AAN _ (uP _) fun _=>?_
  simp only[go_sem,hw2,hwe]
  rw[hz,bu h8',← hg]
  exact APR
 all_goals
  rw[bG (by simp at h8 h9 h10; omega)] at hg
  rw[← hg]
  exact APR
theorem Gt (b:List Int) (p:Int) (hb:Af b) (hl:b.length≤1048576):Ctr prog 356 [.c (.sl (b.map byteC)),.c (.v (.int .i64 (p)))] (Xn (BU b p)):=by
 refine CM call356 func356 ntmps356 results356 fun hw=>?_
 rcases h0:decide (p<0) with _ | _
 rotate_left
 ·simp only[go_sem,h0]
  rw[ABs (by simp at h0; omega)]
  exact APR
 have hp0:0≤p:=AR8
 obtain⟨m,rfl⟩:=aU hp0
 rcases h1:decide ((m:Int)≥b.length) with _ | _
 rotate_left
 ·simp only[go_sem,ae,h0,h1]
  rw[ABs (by simp at h1; omega)]
  exact APR
 have hp:(m:Int)≤b.length:=by simp at h1; omega
 simp only[go_sem,h0,h1,ae]
 have hm5:BU b m=Kq b m 5 0 0:=by unfold BU; rw[bG AQ2]; rfl
 refine AAT 0 (A:=Nat×Int) (fun x=>[(8,.c (.v (.int .i64 (x.1)))),(7,.c (.v (.int .i64 (x.2))))]) (fun _=>[]) (fun x=>x.1≤5∧0≤x.2∧x.2<128 ^ x.1∧Kq b m (5-x.1) x.2 x.1=BU b m) (fun x=>5-x.1) (0,0) ⟨⟨rfl,rfl⟩,rfl,AQ2,AQ2,ARJ,hm5.symm⟩ ?_
 rintro⟨i,x⟩ ⟨hi,hx0,hx1,hg⟩
 dsimp only at hi hx0 hx1 hg
 have hw1:IntKind.i64.wrap ((b.length:Int)-m)=b.length-m:=wrap_i64 AQ2 AQ2
 have hw2:IntKind.i64.wrap ((m:Int)+i)=((m+i:Nat):Int):=AQ7
 rcases h5:decide ((i:Int)<5) with _ | _
 ·have hi5:i=5:=by simp at h5; omega
  subst hi5
  simp only[ZO,Kq] at hg
  simp only[go_sem,h5]
  rw[← hg]
  exact APR
 have hi5:i<5:=by simp at h5; omega
 rw[show 5-i=(4-i)+1 from AQ2,Kq] at hg
 rcases h6:decide (((m+i:Nat):Int)<(b.length:Int)) with _ | _
 ·exact AOm
 have h6':m+i<b.length:=by simp at h6; omega
 have hbc:=hb _ (aj h6')
 rw[aC h6'] at hg
 generalize hc:b[m+i]=c at hg hbc
 obtain⟨c0,c1⟩:=hbc
 simp only at hg
 have hP:(128:Int) ^ i≤268435456:=by
  exact AP8
 have hP0:(0:Int)≤c%128*128 ^ i:=abe AQ2 (aa5 AQ2)
 have hP1:c%128*128 ^ i≤127*268435456:=Int.le_trans (aak AQ2 (aa5 AQ2)) (abt hP AQ2)
 have hP2:x+c%128*128 ^ i<128 ^ (i+1):=by
  exact AQR
 have hP3:0≤(c%128*128 ^ i:Int):=hP0
 have hwc:IntKind.i64.wrap c=c:=wrap_i64 AQ2 AQ2
 have hwa:IntKind.i64.wrap (iZ .i64 c 127)=c%128:=by rw[ADC AQ2 AQ2,wrap_i64 AQ2 AQ2]
 have hwt:IntKind.i64.wrap (c.tmod 128)=c%128:=by rw[aaC AQ2,wrap_i64 AQ2 AQ2]
 have hw7:IntKind.i64.wrap (7*(i:Int))=((7*i:Nat):Int):=AQ7
 have hws:IntKind.i64.wrap (c%128*2 ^ min (7*i) 64)=c%128*128 ^ i:=by
  exact AQN
 have hwo:IntKind.i64.wrap (orK .i64 x (c%128*128 ^ i))=x+c%128*128 ^ i:=by
  exact APA
 have hwp:IntKind.i64.wrap (x+c%128*128 ^ i)=x+c%128*128 ^ i:=wrap_i64 AQ2 AQ2
 have hwi:IntKind.i64.wrap ((i:Int)+1)=((i+1:Nat):Int):=AQ7
 have hwe:IntKind.i64.wrap (((m+i:Nat):Int)+1)=((m+i+1:Nat):Int):=AQ7
 refine AQ1 ?_
 rcases h7:decide (c≥128) with _ | _
 rotate_left
 ·exact ANh
 have h7':¬ c≥128:=by simp at h7; omega
 rw[bu h7'] at hg
 have hz:dA (x+c%128*128 ^ i)=if x+c%128*128 ^ i>2000000000 then 0 else zag (x+c%128*128 ^ i):=by
  exact APT
 rcases h8:decide (x+c%128*128 ^ i>2000000000) with _ | _<;>rcases h9:c==0 with _ | _<;>rcases h10:decide ((i:Int)>0) with _ | _<;>simp only[go_sem,h7,h8,h9,h10]
 case' false.false.false | false.false.true | false.true.false =>
  have h8':¬ x+c%128*128 ^ i>2000000000:=by simpa using h8
  rw[bu (by simp at h9 h10; omega)] at hg
  refine AAN _ (uQ _) fun _=>?_
  simp only[go_sem,hw2,hwe]
  rw[hz,bu h8',← hg]
  exact APR
 all_goals
  rw[bG (by simp at h8 h9 h10; omega)] at hg
  rw[← hg]
  exact APR
theorem Gg (l:List Int):Jq 1 (l.map byteC)=true:=aS.2 fun r hr=>by
 exact APL
theorem Gh (l:List Int) (h:l.length≤2147483648):Ctr prog 255 [.c (.sl (l.map byteC))] [.own 5 1 (l.map byteC) true]:=by
 refine CM call255 func255 ntmps255 results255 fun hw=>?_
 simp only[go_sem,Gg,ae,h,ak,CE]
 try exact AHA
def dB (n:Int):List Int:=if EN n=true then FX n else []
theorem Lc (out:List Int) (c:Int):(out ++ [c]).map byteC=out.map byteC ++ [[.v (.int .u8 c)]]:=by simp[Py]
theorem zZ (out:List Int) (c:Int):D7 (out.map byteC ++ [[.v (.int .u8 c)]])=true:=by rw[← Lc]; exact CE _
theorem eF:∀ (f:Nat) (x:Int),(jX f x).length≤f+1
 | 0,_=>aI _
 | f+1,x=>by
  rw[jX]
  split
  ·have:=eF f (x/128); simp; omega
  ·simp
theorem Gu (b:List Int) (n:Int) (hl:b.length≤1048576):Ctr prog 392 [.c (.sl (b.map byteC)),.c (.v (.int .i64 (n)))] [.own 5 1 ((b++dB n).map byteC) true]:=by
 refine CM call392 func392 ntmps392 results392 fun hw=>?_
 have hl2:b.length≤2147483648:=AQ2
 simp only[go_sem,Gg,ae,hl2,ak]
 refine AAN _ (Gh b hl2) fun _=>?_
 simp only[go_sem,ae]
 refine AAN _ (OX _) fun _=>?_
 rcases h:EN n with _ | _
 ·simp only[go_sem,h,dB,ay,aY,bK,CE]
  try exact AHA
 have hn:=UY.1 h
 have hz:b_ n=zig n:=by simp only[b_,h,bH]
 have hz0:0≤zig n∧zig n<128 ^ 5:=Yp hn.1 hn.2
 simp only[go_sem,h]
 refine AAN _ (uO _) fun _=>?_
 rw[hz]
 simp only[go_sem,h]
 have hput:dB n=FX n:=by simp only[dB,h,bH]
 rw[hput]
 refine AAU [8] (A:=Nat×Int×List Int) (fun x=>[(6,.c (.v (.int .i64 (x.2.1)))),(5,.c (.ref 0))]) (fun x=>[⟨5,1,x.2.2.map byteC,true,true⟩]) (fun x=>x.1≤4∧0≤x.2.1∧x.2.1<128 ^ (x.1+1)∧x.2.2++jX x.1 x.2.1=b++FX n) (fun x=>x.1) (4,zig n,b) (AAQ [(0,false)] ⟨rfl,rfl,AP byteC.pure,trivial⟩ rfl) ⟨aI _,hz0.1,hz0.2,rfl⟩ ?_
 rintro⟨f,x,out⟩ ⟨hf,hx0,hx1,hb⟩
 dsimp only at hf hx0 hx1 hb
 have hol:out.length≤b.length+5:=by
  exact AP2
 have hol2:out.length+1≤2147483648:=AQ2
 simp only[go_sem,ae]
 have hbig:x<34359738368:=by
  exact APj
 rcases h1:decide (x≥128) with _ | _
 ·have h1':¬ x≥128:=by simp at h1; omega
  have hwx:IntKind.u8.wrap x=x:=wrap_u8 hx0 AQ2
  have hpn:jX f x = [x]:=by
   cases f with
   | zero=>rfl
   | succ f=>rw[jX,bu h1']
  rw[hpn] at hb
  rw[← hb,Lc]
  simp only[go_sem,aW,bn,h1,ae,hwx,hol2,ak,zZ]
  try exact AHA
 ·exact AHo
theorem Kv (b:List Int) (n:Int) (hl:b.length≤1048576):Ctr prog 430 [.c (.sl (b.map byteC)),.c (.v (.int .i64 (n)))] [.own 5 1 ((b++dB n).map byteC) true]:=by
 refine CM call430 func430 ntmps430 results430 fun hw=>?_
 have hl2:b.length≤2147483648:=AQ2
 simp only[go_sem,Gg,ae,hl2,ak]
 refine AAN _ (KT _) fun _=>?_
 rcases h:EN n with _ | _
 ·simp only[go_sem,h,dB,ay,aY,bK,CE]
  try exact AHA
 have hn:=UY.1 h
 have hz:b_ n=zig n:=by simp only[b_,h,bH]
 have hz0:0≤zig n∧zig n<128 ^ 5:=Yp hn.1 hn.2
 simp only[go_sem,h]
 refine AAN _ (uN _) fun _=>?_
 rw[hz]
 simp only[go_sem,h]
 have hput:dB n=FX n:=by simp only[dB,h,bH]
 rw[hput]
 refine AAU [9,7] (A:=Nat×Int×List Int) (fun x=>[(6,.c (.v (.int .i64 (x.2.1)))),(5,.c (.ref 0))]) (fun x=>[⟨5,1,x.2.2.map byteC,true,true⟩]) (fun x=>x.1≤4∧0≤x.2.1∧x.2.1<128 ^ (x.1+1)∧x.2.2++jX x.1 x.2.1=b++FX n) (fun x=>x.1) (4,zig n,b) (AAQ [(1,false)] ⟨rfl,rfl,AP byteC.pure,trivial⟩ rfl) ⟨aI _,hz0.1,hz0.2,rfl⟩ ?_
 rintro⟨f,x,out⟩ ⟨hf,hx0,hx1,hb⟩
 dsimp only at hf hx0 hx1 hb
 have hol:out.length≤b.length+5:=by
  exact AP2
 have hol2:out.length+1≤2147483648:=AQ2
 simp only[go_sem,ae]
 have hbig:x<34359738368:=by
  exact APj
 rcases h1:decide (x>127) with _ | _
 ·have h1':¬ x≥128:=by simp at h1; omega
  have hwx:IntKind.u8.wrap x=x:=wrap_u8 hx0 AQ2
  have hpn:jX f x = [x]:=by
   cases f with
   | zero=>rfl
   | succ f=>rw[jX,bu h1']
  rw[hpn] at hb
  rw[← hb,Lc]
  simp only[go_sem,aW,bn,h1,ae,hwx,hol2,ak,zZ]
  try exact AHA
 ·exact AHo
theorem o8:∀ f:Nat,HY f 0=0
 | 0=>rfl
 | f+1=>by rw[HY,bu AQ2]
theorem Jl (n:Int):Ctr prog 405 [.c (.v (.int .i64 (n)))] [.val (.c (.v (.int .i64 (A8 n))))]:=by
 refine CM call405 func405 ntmps405 results405 fun hw=>?_
 simp only[go_sem]
 refine AAN _ (AQ _ _ _) fun _=>?_
 rcases h:Ad n 0 2147483647 with _ | _
 ·have:¬ (0≤n∧n≤2147483647):=by simp[Ad] at h; omega
  simp only[go_sem,h,A8,bu this]
 have hn:0≤n∧n≤2147483647:=by simp[Ad] at h; omega
 simp only[go_sem,h,A8,bG hn]
 refine AAT 0 (A:=Nat×Int×Int) (fun x=>[(4,.c (.v (.int .i64 (x.2.1)))),(3,.c (.v (.int .i64 (x.2.2))))]) (fun _=>[]) (fun x=>0≤x.2.1∧x.2.1<2 ^ x.1∧x.1≤32∧0≤x.2.2∧x.2.2+x.1≤32∧x.2.2+HY x.1 x.2.1=HY 32 n) (fun x=>x.1) (32,n,0) ⟨⟨rfl,rfl⟩,rfl,AQ4,AQ4,AQ4,AQ4,AQ4,AQ3⟩ ?_
 rintro⟨f,x,c⟩ ⟨hx0,hx1,hf,hc0,hc1,hb⟩
 dsimp only at hx0 hx1 hf hc0 hc1 hb
 refine AQx (fun h=>?_) fun h=>?_
 ·have h':x>0:=by simpa using h
  cases f with
  | zero=>simp at hx1; omega
  | succ f =>
  have hxx:x<4294967296:=by
   have:(2:Int) ^ (f+1)≤2 ^ 32:=AR5
   omega
  rw[HY,bG h'] at hb
  have e1:IntKind.i64.wrap (x.tdiv 2)=x/2:=by rw[aag AQ2,wrap_i64 AQ2 AQ2]
  simp only[go_sem,e1,wrap_i64 (n:=c+1) AQ2 AQ2]
  exact⟨(f,x/2,c+1),⟨rfl,rfl⟩,rfl,⟨AQ4,by simp only; rw[abp] at hx1; omega,AQ4,AQ4,AQ4,AQ4⟩,AQ4⟩
 ·have h':x=0:=by simp at h; omega
  subst h'
  rw[o8] at hb
  simp only[go_sem]
  rw[← hb]; simp
theorem Ti:∀ (f:Nat) (x:Int),0≤HY f x
 | 0,_=>abO _
 | f+1,x=>by
  have:=Ti f (x/2)
  rw[HY]
  split<;>omega
theorem UZ:∀ (f g:Nat) (x:Int),x<2 ^ f→HY (f+g) x=HY f x
 | 0,g,x,h=>by
  have h':¬ x>0:=ARD
  cases g with
  | zero=>rfl
  | succ g=>rw[Ry]; show HY (g+1) x=0; rw[HY,bu h']
 | f+1,g,x,h=>by
  rw[show f+1+g=(f+g)+1 from AQ2,HY,HY]
  split
  ·rw[UZ f g (x/2) (by rw[abp] at h; omega)]
  ·rfl
theorem eG (f:Nat):∀ (s:Nat) (x:Int),x≥2 ^ s→HY (f+s) x=HY f (x/2 ^ s)+s
 | 0,x,h=>AQ3
 | s+1,x,h=>by
  have hp:(0:Int)<2 ^ s:=Int.pow_pos AQ2
  rw[abp] at h
  rw[show f+(s+1)=(f+s)+1 from AQ2,HY,bG AQ2,eG f s (x/2) AQ2,Int.ediv_ediv_of_nonneg AQ2,abp,Int.mul_comm 2]
  omega
theorem uS (T:ByteArray) (hs:T.size=256) (h:(List.range 256).all (fun y=>(T.data.toList.getD y 0).toNat==(HY 8 (y:Int)).toNat)=true) (y:Nat) (hy:y<256):∃ c:UInt8,T[y]?=some c∧(c.toNat:Int)=HY 8 y:=by
 have h1:=aS.1 h y (abJ.2 hy)
 have hlt:y<T.size:=AQ2
 refine⟨T[y],getElem?_pos T y hlt, ?_⟩
 have h2:T.data.toList.getD y 0=T[y]:=by
  rw[abk,Array.getElem?_toList,getElem?_pos T.data y hlt]; rfl
 rw[h2] at h1
 simp only[nz] at h1
 have:=Ti 8 (y:Int)
 omega
@[go_sem] theorem AN3:((8:Int)<0)=False:=AQ3
@[go_sem] theorem ANw:((16:Int)<0)=False:=AQ3
@[go_sem] theorem ANx:Int.toNat 8=8:=rfl
@[go_sem] theorem ANW:Int.toNat 16=16:=rfl
@[go_sem] theorem m8:min 8 64=8:=rfl
@[go_sem] theorem m16:min 16 64=16:=rfl
theorem wrap_u64 {n:Int} (h:0≤n) (h2:n<18446744073709551616):IntKind.u64.wrap n=n:=KC (by
 simp only[Lit.wf,az,bC]
 simp[IntKind.min,IntKind.max,IntKind.bits,IntKind.signed]
 omega)
theorem ABt (x:Nat) (h0:1≤x) (h:x<2147483648):Ctr prog 457 [.c (.v (.int .u64 (x:Int)))] [.val (.c (.v (.int .i64 (HY 32 (x:Int)))))]:=by
 refine CM call457 func457 ntmps457 results457 fun hw=>?_
 have h1:decide ((x:Int)≥4294967296)=false:=AQ5
 have s8:IntKind.u64.wrap ((x:Int).fdiv (2 ^ 8))=((x/256:Nat):Int):=ARf
 have s16:IntKind.u64.wrap ((x:Int).fdiv (2 ^ 16))=((x/65536:Nat):Int):=ARf
 have s24:IntKind.u64.wrap ((((x/65536:Nat):Int)).fdiv (2 ^ 8))=((x/16777216:Nat):Int):=ARf
 have w8 (y:Nat) (hy:y<256):IntKind.u8.wrap (y:Int)=y:=wrap_u8 AQ2 AQ2
 have hwl (y:Nat) (hy:y<256):0≤HY 8 (y:Int)∧HY 8 (y:Int)≤8:=by
  refine⟨Ti _ _, ?_⟩
  have key:∀ (f:Nat) (x:Int),HY f x≤f:=by
   intro f
   induction f with
   | zero=>intro x; exact abO _
   | succ f ih=>intro x; have:=ih (x/2); rw[HY]; split<;>omega
  exact key 8 _
 rcases h2:decide ((x:Int)≥65536) with _ | _
 ·rcases h3:decide ((x:Int)≥256) with _ | _
  ·have hx:x<256:=by simp at h3; omega
   simp only[go_sem,h1,h2,h3,w8 x hx]
   generalize hT:(ByteArray.mk _)=T
   obtain⟨c,hc,hcn⟩:=uS T (by rw[← hT]; rfl) ASj x hx
   have:=hwl x hx
   simp only[go_sem,XB,hc,hcn]
   have e:HY 32 (x:Int)=HY 8 x:=UZ 8 24 _ AQ2
   simp only[Int.zero_add]
   rw[wrap_i64 (n:=HY 8 (x:Int)) AQ2 AQ2,wrap_i64 AQ2 AQ2,e]
  ·have hx:x/256<256:=by simp at h2; omega
   simp only[go_sem,h1,h2,h3,s8,w8 _ hx]
   generalize hT:(ByteArray.mk _)=T
   obtain⟨c,hc,hcn⟩:=uS T (by rw[← hT]; rfl) ASj _ hx
   have:=hwl _ hx
   simp only[go_sem,XB,hc,hcn]
   have e:HY 32 (x:Int)=HY 8 ((x/256:Nat):Int)+8:=by
    rw[show (32:Nat)=24+8 from rfl,eG 24 8 _ ARr,show (x:Int)/2 ^ 8=((x/256:Nat):Int) from AQ2,show (24:Nat)=8+16 from rfl,UZ 8 16 _ AQ2]; rfl
   simp only[Int.zero_add]
   rw[wrap_i64 (n:=HY 8 _) AQ2 AQ2,wrap_i64 (n:=8) AQ2 AQ2,wrap_i64 AQ2 AQ2,e,Int.add_comm]
 ·rcases h3:decide (((x/65536:Nat):Int)≥256) with _ | _
  ·have hx:x/65536<256:=by simp at h3; omega
   simp only[go_sem,h1,h2,h3,s16,w8 _ hx]
   generalize hT:(ByteArray.mk _)=T
   obtain⟨c,hc,hcn⟩:=uS T (by rw[← hT]; rfl) ASj _ hx
   have:=hwl _ hx
   simp only[go_sem,XB,hc,hcn]
   have e:HY 32 (x:Int)=HY 8 ((x/65536:Nat):Int)+16:=by
    rw[show (32:Nat)=16+16 from rfl,eG 16 16 _ ARN,show (x:Int)/2 ^ 16=((x/65536:Nat):Int) from AQ2,show (16:Nat)=8+8 from rfl,UZ 8 8 _ AQ2]; rfl
   simp only[Int.zero_add]
   rw[wrap_i64 (n:=HY 8 _) AQ2 AQ2,wrap_i64 (n:=16) AQ2 AQ2,wrap_i64 AQ2 AQ2,e,Int.add_comm]
  ·have hx:x/16777216<256:=by omega
   simp only[go_sem,h1,h2,h3,s16,s24,w8 _ hx]
   generalize hT:(ByteArray.mk _)=T
   obtain⟨c,hc,hcn⟩:=uS T (by rw[← hT]; rfl) ASj _ hx
   have:=hwl _ hx
   simp only[go_sem,XB,hc,hcn]
   have e:HY 32 (x:Int)=HY 8 ((x/16777216:Nat):Int)+24:=by
    rw[show (32:Nat)=8+24 from rfl,eG 8 24 _ ARr,show (x:Int)/2 ^ 24=((x/16777216:Nat):Int) from AQ2]; rfl
   simp only[Int.zero_add]
   rw[wrap_i64 (n:=HY 8 _) AQ2 AQ2,wrap_i64 (n:=16) AQ2 AQ2,wrap_i64 (n:=16+8) AQ2 AQ2,wrap_i64 AQ2 AQ2,e,show (16:Int)+8=24 from rfl,Int.add_comm]
theorem AGw (x:Nat) (h0:1≤x) (h:x<2147483648):Ctr prog 445 [.c (.v (.int .u64 (x:Int)))] [.val (.c (.v (.int .i64 (HY 32 (x:Int)))))]:=by
 refine CM call445 func445 ntmps445 results445 fun hw=>?_
 simp only[go_sem]
 have e1:IntKind.u64.wrap (x:Int)=x:=KC (by simp only[Lit.wf,az,bC]; simp[IntKind.min,IntKind.max,IntKind.bits,IntKind.signed]; omega)
 try simp only[e1]
 refine AAN _ (ABt x h0 h) fun _=>?_
 exact AIu
theorem L8 (n:Int):Ctr prog 418 [.c (.v (.int .i64 (n)))] [.val (.c (.v (.int .i64 (A8 n))))]:=by
 refine CM call418 func418 ntmps418 results418 fun hw=>?_
 simp only[go_sem]
 refine AAN _ (AL _ _ _) fun _=>?_
 rcases h:Ad n 1 2147483647 with _ | _
 ·have:A8 n=0:=by
   unfold A8
   split
   ·have:n=0:=by simp[Ad] at h; omega
    subst this
    exact o8 _
   ·rfl
  simp only[go_sem,h,this]
 have hn:1≤n∧n≤2147483647:=by simp[Ad] at h; omega
 obtain⟨m,rfl⟩:=aU (show 0≤n from AQ2)
 have e1:IntKind.u64.wrap (m:Int)=m:=KC (by simp only[Lit.wf,az,bC]; simp[IntKind.min,IntKind.max,IntKind.bits,IntKind.signed]; omega)
 simp only[go_sem,h,e1]
 refine AAN _ (AGw m AQ2 AQ2) fun _=>?_
 simp only[go_sem,A8]
 rw[bG AQ2]
theorem jw (k w:Int):Ctr prog 443 [.c (.v (.int .i64 (k))),.c (.v (.int .i64 (w)))] [.val (.c (.v (.int .i64 (GL k w))))]:=by
 refine CM call443 func443 ntmps443 results443 fun hw=>?_
 simp only[go_sem]
 refine AAN _ (AL _ _ _) fun _=>?_
 rcases h:Ad k 0 64 with _ | _
 ·exact AQG
 simp only[go_sem,h]
 refine AAN _ (AL _ _ _) fun _=>?_
 exact AI0
theorem jy (k w:Int):Ctr prog 432 [.c (.v (.int .i64 (k))),.c (.v (.int .i64 (w)))] [.val (.c (.v (.int .i64 (GL k w))))]:=by
 refine CM call432 func432 ntmps432 results432 fun hw=>?_
 simp only[go_sem]
 refine AAN _ (AQ _ _ _) fun _=>?_
 rcases h:Ad k 0 64 with _ | _
 ·exact AQG
 simp only[go_sem,h]
 refine AAN _ (AQ _ _ _) fun _=>?_
 exact AI0
theorem Zk (b:List Int) (n:Int) (hb:Af b) (hl:b.length≤1048576) (hn:n≤1000000000):Ctr prog 444 [.c (.sl (b.map byteC)),.c (.v (.int .i64 (n)))] [.val (.c (.v (.int .i64 (Fb b n))))]:=by
 refine CM call444 func444 ntmps444 results444 fun hw=>?_
 rcases h0:decide (n<0) with _ | _
 rotate_left
 ·have:n<0:=by simpa using h0
  simp only[go_sem,h0,Fb,bG this]
 have hn0:0≤n:=AR8
 obtain⟨m,rfl⟩:=aU hn0
 have e1:IntKind.i64.wrap ((m:Int).tdiv 8)=((m/8:Nat):Int):=ARK
 have e2:IntKind.i64.wrap ((m:Int).tmod 8)=((m%8:Nat):Int):=ARV
 have hba:Fb b (m:Int)=match b[m/8]? with | some c=>c/2 ^ (m%8)%2 | none=>0:=by
  exact APP
 rw[hba]
 rcases h1:decide (((m/8:Nat):Int)≥(b.length:Int)) with _ | _
 rotate_left
 ·exact AQS
 have hlt:m/8<b.length:=by simp at h1; omega
 obtain⟨c0,c1⟩:=hb _ (aj hlt)
 rw[aC hlt]
 generalize hc:b[m/8]=c at c0 c1
 simp only[go_sem,h0,h1,e1,e2,ae,AA _ hlt,hc]
 have hP:0≤c/2 ^ (m%8):=Int.ediv_nonneg AQ2 (aa5 AQ2)
 have hP2:c/2 ^ (m%8)≤c:=Int.ediv_le_self _ AQ2
 rw[aaN _ (aa5 AQ2)]
 rw[show min (m%8) 8=m%8 from AQ2,wrap_u8 hP AQ2,AKj hP AQ2,wrap_u8 AQ2 AQ2,wrap_i64 AQ2 AQ2]
theorem Zl (b:List Int) (n:Int) (hb:Af b) (hl:b.length≤1048576) (hn:n≤1000000000):Ctr prog 433 [.c (.sl (b.map byteC)),.c (.v (.int .i64 (n)))] [.val (.c (.v (.int .i64 (Fb b n))))]:=by
 refine CM call433 func433 ntmps433 results433 fun hw=>?_
 rcases h0:decide (n<0) with _ | _
 rotate_left
 ·have:n<0:=by simpa using h0
  simp only[go_sem,h0,Fb,bG this]
 have hn0:0≤n:=AR8
 obtain⟨m,rfl⟩:=aU hn0
 have e1:IntKind.i64.wrap ((m:Int).tdiv 8)=((m/8:Nat):Int):=ARK
 have e2:IntKind.i64.wrap ((m:Int).tmod 8)=((m%8:Nat):Int):=ARV
 have hba:Fb b (m:Int)=match b[m/8]? with | some c=>c/2 ^ (m%8)%2 | none=>0:=by
  exact APP
 rw[hba]
 rcases h1:decide (((m/8:Nat):Int)≥(b.length:Int)) with _ | _
 rotate_left
 ·exact AQS
 have hlt:m/8<b.length:=by simp at h1; omega
 obtain⟨c0,c1⟩:=hb _ (aj hlt)
 rw[aC hlt]
 generalize hc:b[m/8]=c at c0 c1
 simp only[go_sem,h0,h1,e1,e2,ae,AA _ hlt,hc]
 rw[wrap_i64 (n:=c) AQ2 AQ2]
 have hP:0≤c/2 ^ (m%8):=Int.ediv_nonneg AQ2 (aa5 AQ2)
 have hP2:c/2 ^ (m%8)≤c:=Int.ediv_le_self _ AQ2
 rw[aaN _ (aa5 AQ2)]
 rw[show min (m%8) 64=m%8 from AQ2,wrap_i64 (n:=c/2 ^ (m%8)) AQ2 AQ2,AJM hP AQ2,wrap_i64 AQ2 AQ2]
theorem j_ (l:List Int) (hl:l.length≤1048576):Ctr prog 450 [.c (.sl (l.map intC))] [.val (.c (.v (.int .i64 (DI l))))]:=by
 refine CM call450 func450 ntmps450 results450 fun hw=>?_
 simp only[go_sem,ae]
 refine AAT 0 (A:=Nat×Int) (fun x=>[(8,.c (.v (.int .i64 (x.1)))),(3,.c (.v (.int .i64 (x.2))))]) (fun _=>[]) (fun x=>x.1≤l.length∧(l.drop x.1).foldl (fun w n=>max w (A8 n)) x.2=DI l) (fun x=>l.length-x.1) (0,0) ⟨⟨rfl,rfl⟩,rfl,au _,rfl⟩ ?_
 rintro⟨i,w⟩ ⟨hi,hb⟩
 dsimp only at hi hb
 refine AQy (fun h=>?_) fun h=>?_
 ·have hi':i<l.length:=by simpa using h
  rw[aA hi',aby] at hb
  simp only[go_sem,ae,AA _ hi']
  refine AAN _ (L8 _) fun _=>?_
  simp only[go_sem,ae,wrap_i64 (n:=(i:Int)+1) AQ2 AQ2]
  have hm:(if w<A8 l[i] then A8 l[i] else w)=max w (A8 l[i]):=by split<;>omega
  exact⟨(i+1,if w<A8 l[i] then A8 l[i] else w),⟨rfl,rfl⟩,rfl,⟨hi',by simp only; rw[hm]; exact hb⟩,AQ4⟩
 ·exact APp
theorem kC (l:List Int) (hl:l.length≤1048576):Ctr prog 438 [.c (.sl (l.map intC))] [.val (.c (.v (.int .i64 (DI l))))]:=by
 refine CM call438 func438 ntmps438 results438 fun hw=>?_
 simp only[go_sem,ae]
 refine AAT 0 (A:=Nat×Int) (fun x=>[(4,.c (.v (.int .i64 (x.1)))),(3,.c (.v (.int .i64 (x.2))))]) (fun _=>[]) (fun x=>x.1≤l.length∧(l.drop x.1).foldl (fun w n=>max w (A8 n)) x.2=DI l) (fun x=>l.length-x.1) (0,0) ⟨⟨rfl,rfl⟩,rfl,au _,rfl⟩ ?_
 rintro⟨i,w⟩ ⟨hi,hb⟩
 dsimp only at hi hb
 refine AQy (fun h=>?_) fun h=>?_
 ·have hi':i<l.length:=by simpa using h
  rw[aA hi',aby] at hb
  simp only[go_sem,ae,AA _ hi']
  refine AAN _ (Jl _) fun _=>?_
  rcases h2:decide (A8 l[i]>w) with _ | _
  ·have h2':A8 l[i]≤w:=by simpa using h2
   simp only[go_sem,h2,ae,wrap_i64 (n:=(i:Int)+1) AQ2 AQ2]
   exact⟨(i+1,w),⟨rfl,rfl⟩,rfl,⟨hi',by simp only; rw[← hb,Int.max_eq_left h2']⟩,AQ4⟩
  ·have h2':w≤A8 l[i]:=by simp at h2; omega
   simp only[go_sem,h2,ae,AA _ hi']
   refine AAN _ (Jl _) fun _=>?_
   simp only[go_sem,h2,ae,wrap_i64 (n:=(i:Int)+1) AQ2 AQ2]
   exact⟨(i+1,A8 l[i]),⟨rfl,rfl⟩,rfl,⟨hi',by simp only; rw[← hb,Int.max_eq_right h2']⟩,AQ4⟩
 ·exact APp
end Go.Proofs.YthmifbbmgnhddaaGreat
