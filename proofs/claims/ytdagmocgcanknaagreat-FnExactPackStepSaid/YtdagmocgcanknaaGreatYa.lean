/- A part. -/
import Derived.Test.YtdagmocgcanknaaGreatWe
import Derived.Test.YtdagmocgcanknaaGreatOa
set_option linter.unusedSimpArgs false
set_option linter.unusedVariables false
set_option maxHeartbeats 2000000
set_option maxRecDepth 10000
open Go.Proofs.Tryz
namespace Go.Proofs.YtdagmocgcanknaaGreat
open Go.Vm
theorem fD (k:IntKind) (a b:Nat) (ha:a<2 ^ k.bits) (hb:b<2 ^ k.bits):dF k (a:Int) (b:Int)=((a &&& b:Nat):Int):=by unfold dF;rw[BitVec.ofInt_natCast,BitVec.ofInt_natCast,BitVec.toNat_and,BitVec.toNat_ofNat,BitVec.toNat_ofNat,abG ha,abG hb]
theorem AFy (k:IntKind) (a b:Nat) (ha:a<2 ^ k.bits) (hb:b<2 ^ k.bits):orK k (a:Int) (b:Int)=((a ||| b:Nat):Int):=by unfold orK;rw[BitVec.ofInt_natCast,BitVec.ofInt_natCast,BitVec.toNat_or,BitVec.toNat_ofNat,BitVec.toNat_ofNat,abG ha,abG hb]
theorem AAw {x:Int} (h0:0<=x) (h1:x<9223372036854775808):dF .i64 x 127=x%128:=by obtain⟨n,rfl⟩:=aF h0;have:=fD .i64 n 127 (show n<18446744073709551616 from AOl) AOu;rw[show ((127:Nat):Int)=127 from rfl] at this;rw[this,show (127:Nat)=2 ^ 7-1 from rfl,Nat.and_two_pow_sub_one_eq_mod];omega
theorem AGg {x:Int} (h0:0<=x) (h1:x<9223372036854775808):dF .i64 x 1=x%2:=by obtain⟨n,rfl⟩:=aF h0;have:=fD .i64 n 1 (show n<18446744073709551616 from AOl) AOu;exact AOD
theorem AHh {x:Int} (h0:0<=x) (h1:x<256):dF .u8 x 1=x%2:=by obtain⟨n,rfl⟩:=aF h0;have:=fD .u8 n 1 (show n<256 from AOl) AOu;exact AOD
theorem fE (k:IntKind) {x y:Int} {s:Nat} (h0:0<=x) (h1:x<2 ^ s) (hy:0<=y) (hb:x+y*2 ^ s<2 ^ k.bits):orK k x (y*2 ^ s)=x+y*2 ^ s:=by
 obtain⟨n,rfl⟩:=aF h0;obtain⟨m,rfl⟩:=aF hy;have e:(m:Int)*2 ^ s=((m*2 ^ s:Nat):Int):=by push_cast; rfl
 have h1':n<2 ^ s:=by exact_mod_cast h1
 have hb':n+m*2 ^ s<2 ^ k.bits:=by rw[e] at hb; exact_mod_cast hb
 rw[e,AFy k n (m*2 ^ s) AOl AOl,Nat.or_comm,Nat.mul_comm m,<- Nat.two_pow_add_eq_or_of_lt h1' m];omega
theorem wrap_u8 {n:Int} (h:0<=n) (h2:n<256):IntKind.u8.wrap n=n:=LU (by
 simp only[Lit.wf,ar,aQ];simp[IntKind.min,IntKind.max,IntKind.bits,IntKind.signed];omega)
@[go_sem] theorem ALC:((2:Int)=0)=False:=AOm
@[go_sem] theorem ALD:((8:Int)=0)=False:=AOm
@[go_sem] theorem AKy:((128:Int)=0)=False:=AOm
@[go_sem] theorem AKa (n:Nat):(((n:Int))<0)=False:=AOm
theorem PD (i:Nat):(128:Int) ^ i=2 ^ (7*i):=by rw[Int.pow_mul]; rfl
def ZE (n:Int):Int:=if EE n=true then zig n else 0
theorem Tc {n:Int}:EE n=true↔ -1000000000<=n/\n<=1000000000:=by simp[EE,Ae]
theorem pK (n:Int):Ctr prog 287 [.c (.v (.int .i64 (n)))] [.val (.c (.v (.int .i64 (ZE n))))]:=by refine CM call287 func287 ntmps287 results287 fun hw=>?_;simp only[go_sem];refine AAO _ (JD _) fun _=>?_;exact AKD
theorem pM (n:Int):Ctr prog 303 [.c (.v (.int .i64 (n)))] [.val (.c (.v (.int .i64 (ZE n))))]:=by refine CM call303 func303 ntmps303 results303 fun hw=>?_;simp only[go_sem];refine AAO _ (Nj _) fun _=>?_;exact AKD
def ZF (n:Int):Int:=if Ae n 0 2000000000=true then zag n else 0
theorem pO (n:Int):Ctr prog 306 [.c (.v (.int .i64 (n)))] [.val (.c (.v (.int .i64 (ZF n))))]:=by refine CM call306 func306 ntmps306 results306 fun hw=>?_;simp only[go_sem];refine AAO _ (AP _ _ _) fun _=>?_;exact AHe
theorem pR (n:Int):Ctr prog 319 [.c (.v (.int .i64 (n)))] [.val (.c (.v (.int .i64 (ZF n))))]:=by refine CM call319 func319 ntmps319 results319 fun hw=>?_;simp only[go_sem];refine AAO _ (AL _ _ _) fun _=>?_;exact AHe
def WJ:Option (Int×Nat)->List Res
 | some (n,q)=>[.val (.c (.v (.int .i64 (n)))),.val (.c (.v (.int .i64 ((q:Int))))),.val (.c (.v (.bool (true))))]
 | none=>[.val (.c (.v (.int .i64 (0)))),.val (.c (.v (.int .i64 (0)))),.val (.c (.v (.bool (false))))]
theorem zD {b:List Int} {p:Int} (h:¬ (0<=p/\p<b.length)):Bh b p=none:=by
 unfold Bh;split
 .rename_i hp;have:b[p.toNat+0]?=none:=jq AOl;rw[show (5:Nat)=4+1 from rfl,KL,this]
 .rfl
theorem Gw (b:List Int) (p:Int) (hb:Ai b) (hl:b.length<=1048576):Ctr prog 276 [.c (.sl (b.map byteC)),.c (.v (.int .i64 (p)))] (WJ (Bh b p)):=by
 refine CM call276 func276 ntmps276 results276 fun hw=>?_;simp only[go_sem,aa];refine AAO _ (AP _ _ _) fun _=>?_;rcases h:Ae p 0 (b.length:Int) with _ | _
 .simp only[go_sem,h];rw[zD (by simp[Ae] at h; omega)];exact AMw
 have hp:0<=p/\p<=b.length:=by simpa [Ae] using h
 obtain⟨m,rfl⟩:=aF hp.1;simp only[go_sem,h,aa];have hm5:Bh b m=KL b m 5 0 0:=by unfold Bh; rw[aV AOl]; rfl
 refine AAe 0 (A:=Nat×Int) (fun x=>[(8,.c (.v (.int .i64 (x.1)))),(7,.c (.v (.int .i64 (x.2))))]) (fun _=>[]) (fun x=>x.1<=5/\0<=x.2/\x.2<128 ^ x.1/\KL b m (5-x.1) x.2 x.1=Bh b m) (fun x=>5-x.1) (0,0) ⟨⟨rfl,rfl⟩,rfl,AOl,AOl,AOu,hm5.symm⟩ ?_;rintro⟨i,x⟩ ⟨hi,hx0,hx1,hg⟩;dsimp only at hi hx0 hx1 hg;have hw1:IntKind.i64.wrap ((b.length:Int)-m)=b.length-m:=wrap_i64 AOl AOl;have hw2:IntKind.i64.wrap ((m:Int)+i)=((m+i:Nat):Int):=AOq;rcases h5:decide ((i:Int)<5) with _ | _
 .have hi5:i=5:=by simp at h5; omega
  subst hi5;simp only[jv,KL] at hg;simp only[go_sem,h5];rw[<- hg];exact AMw
 have hi5:i<5:=by simp at h5; omega
 rw[show 5-i=(4-i)+1 from AOl,KL] at hg;rcases h6:decide ((i:Int)<(b.length:Int)-m) with _ | _
 .exact AME
 have h6':m+i<b.length:=by simp at h6; omega
 have hbc:=hb _ (an h6');rw[am h6'] at hg;generalize hc:b[m+i]=c at hg hbc;obtain⟨c0,c1⟩:=hbc;simp only at hg;have hP:(128:Int) ^ i<=268435456:=by exact ANk
 have hP0:(0:Int)<=c%128*128 ^ i:=aaY AOl (aaU AOl);have hP1:c%128*128 ^ i<=127*268435456:=Int.le_trans (aah AOl (aaU AOl)) (abf hP AOl);have hP2:x+c%128*128 ^ i<128 ^ (i+1):=by exact AN8
 have hP3:0<=(c%128*128 ^ i:Int):=hP0;have hwc:IntKind.i64.wrap c=c:=wrap_i64 AOl AOl;have hwa:IntKind.i64.wrap (dF .i64 c 127)=c%128:=by rw[AAw AOl AOl,wrap_i64 AOl AOl]
 have hwt:IntKind.i64.wrap (c.tmod 128)=c%128:=by rw[aat AOl,wrap_i64 AOl AOl]
 have hw7:IntKind.i64.wrap (7*(i:Int))=((7*i:Nat):Int):=AOq;have hws:IntKind.i64.wrap (c%128*2 ^ min (7*i) 64)=c%128*128 ^ i:=by exact AN2
 have hwo:IntKind.i64.wrap (orK .i64 x (c%128*128 ^ i))=x+c%128*128 ^ i:=by exact AMh
 have hwp:IntKind.i64.wrap (x+c%128*128 ^ i)=x+c%128*128 ^ i:=wrap_i64 AOl AOl;have hwi:IntKind.i64.wrap ((i:Int)+1)=((i+1:Nat):Int):=AOq;have hwe:IntKind.i64.wrap (((m+i:Nat):Int)+1)=((m+i+1:Nat):Int):=AOq;refine AOj ?_;rcases h7:decide (c>127) with _ | _;rotate_left
 .exact ALO
 have h7':¬ c>=128:=by simp at h7; omega
 rw[aR h7'] at hg;have hz:ZF (x+c%128*128 ^ i)=if x+c%128*128 ^ i>2000000000 then 0 else zag (x+c%128*128 ^ i):=by exact AMx
 rcases h8:decide (x+c%128*128 ^ i>2000000000) with _ | _<;>rcases h9:c==0 with _ | _<;>rcases h10:decide ((i:Int)>0) with _ | _<;>simp only[go_sem,h7,h8,h9,h10]
 case' false.false.false | false.false.true | false.true.false =>
  have h8':¬ x+c%128*128 ^ i>2000000000:=by simpa using h8
  rw[aR (by simp at h9 h10; omega)] at hg
  refine AAO _ (pO _) fun _=>?_
  simp only[go_sem,hw2,hwe]
  rw[hz,aR h8',<- hg]
  exact AMw
 all_goals
  rw[aV (by simp at h8 h9 h10; omega)] at hg
  rw[<- hg]
  exact AMw
theorem Gx (b:List Int) (p:Int) (hb:Ai b) (hl:b.length<=1048576):Ctr prog 291 [.c (.sl (b.map byteC)),.c (.v (.int .i64 (p)))] (WJ (Bh b p)):=by
 refine CM call291 func291 ntmps291 results291 fun hw=>?_;rcases h0:decide (p<0) with _ | _;rotate_left
 .simp only[go_sem,h0];rw[zD (by simp at h0; omega)];exact AMw
 have hp0:0<=p:=AP0;obtain⟨m,rfl⟩:=aF hp0;rcases h1:decide ((m:Int)>=b.length) with _ | _;rotate_left
 .simp only[go_sem,aa,h0,h1];rw[zD APt];exact AMw
 have hp:(m:Int)<=b.length:=APt;simp only[go_sem,h0,h1,aa];have hm5:Bh b m=KL b m 5 0 0:=by unfold Bh; rw[aV AOl]; rfl
 refine AAe 0 (A:=Nat×Int) (fun x=>[(8,.c (.v (.int .i64 (x.1)))),(7,.c (.v (.int .i64 (x.2))))]) (fun _=>[]) (fun x=>x.1<=5/\0<=x.2/\x.2<128 ^ x.1/\KL b m (5-x.1) x.2 x.1=Bh b m) (fun x=>5-x.1) (0,0) ⟨⟨rfl,rfl⟩,rfl,AOl,AOl,AOu,hm5.symm⟩ ?_;rintro⟨i,x⟩ ⟨hi,hx0,hx1,hg⟩;dsimp only at hi hx0 hx1 hg;have hw1:IntKind.i64.wrap ((b.length:Int)-m)=b.length-m:=wrap_i64 AOl AOl;have hw2:IntKind.i64.wrap ((m:Int)+i)=((m+i:Nat):Int):=AOq;rcases h5:decide ((i:Int)<5) with _ | _
 .have hi5:i=5:=by simp at h5; omega
  subst hi5;simp only[jv,KL] at hg;simp only[go_sem,h5];rw[<- hg];exact AMw
 have hi5:i<5:=by simp at h5; omega
 rw[show 5-i=(4-i)+1 from AOl,KL] at hg;rcases h6:decide (((m+i:Nat):Int)<(b.length:Int)) with _ | _
 .exact AME
 have h6':m+i<b.length:=by simp at h6; omega
 have hbc:=hb _ (an h6');rw[am h6'] at hg;generalize hc:b[m+i]=c at hg hbc;obtain⟨c0,c1⟩:=hbc;simp only at hg;have hP:(128:Int) ^ i<=268435456:=by exact ANk
 have hP0:(0:Int)<=c%128*128 ^ i:=aaY AOl (aaU AOl);have hP1:c%128*128 ^ i<=127*268435456:=Int.le_trans (aah AOl (aaU AOl)) (abf hP AOl);have hP2:x+c%128*128 ^ i<128 ^ (i+1):=by exact AN8
 have hP3:0<=(c%128*128 ^ i:Int):=hP0;have hwc:IntKind.i64.wrap c=c:=wrap_i64 AOl AOl;have hwa:IntKind.i64.wrap (dF .i64 c 127)=c%128:=by rw[AAw AOl AOl,wrap_i64 AOl AOl]
 have hwt:IntKind.i64.wrap (c.tmod 128)=c%128:=by rw[aat AOl,wrap_i64 AOl AOl]
 have hw7:IntKind.i64.wrap (7*(i:Int))=((7*i:Nat):Int):=AOq;have hws:IntKind.i64.wrap (c%128*2 ^ min (7*i) 64)=c%128*128 ^ i:=by exact AN2
 have hwo:IntKind.i64.wrap (orK .i64 x (c%128*128 ^ i))=x+c%128*128 ^ i:=by exact AMh
 have hwp:IntKind.i64.wrap (x+c%128*128 ^ i)=x+c%128*128 ^ i:=wrap_i64 AOl AOl;have hwi:IntKind.i64.wrap ((i:Int)+1)=((i+1:Nat):Int):=AOq;have hwe:IntKind.i64.wrap (((m+i:Nat):Int)+1)=((m+i+1:Nat):Int):=AOq;refine AOj ?_;rcases h7:decide (c>=128) with _ | _;rotate_left
 .exact ALO
 have h7':¬ c>=128:=by simp at h7; omega
 rw[aR h7'] at hg;have hz:ZF (x+c%128*128 ^ i)=if x+c%128*128 ^ i>2000000000 then 0 else zag (x+c%128*128 ^ i):=by exact AMx
 rcases h8:decide (x+c%128*128 ^ i>2000000000) with _ | _<;>rcases h9:c==0 with _ | _<;>rcases h10:decide ((i:Int)>0) with _ | _<;>simp only[go_sem,h7,h8,h9,h10]
 case' false.false.false | false.false.true | false.true.false =>
  have h8':¬ x+c%128*128 ^ i>2000000000:=by simpa using h8
  rw[aR (by simp at h9 h10; omega)] at hg
  refine AAO _ (pR _) fun _=>?_
  simp only[go_sem,hw2,hwe]
  rw[hz,aR h8',<- hg]
  exact AMw
 all_goals
  rw[aV (by simp at h8 h9 h10; omega)] at hg
  rw[<- hg]
  exact AMw
theorem Fh (l:List Int):Ll 1 (l.map byteC)=true:=aC.2 fun r hr=>by obtain⟨x,_,rfl⟩:=jB.1 hr;rfl
theorem GX (l:List Int) (h:l.length<=2147483648):Ctr prog 194 [.c (.sl (l.map byteC))] [.own 5 1 (l.map byteC) true]:=by refine CM call194 func194 ntmps194 results194 fun hw=>?_;simp only[go_sem,Fh,aa,h,au,CQ];try exact AIG
def ZG (n:Int):List Int:=if EE n=true then Ey n else []
theorem LY (out:List Int) (c:Int):(out ++ [c]).map byteC=out.map byteC ++ [[.v (.int .u8 c)]]:=by simp[PI]
theorem vZ (out:List Int) (c:Int):DR (out.map byteC ++ [[.v (.int .u8 c)]])=true:=by rw[<- LY]; exact CQ _
theorem Zj:∀ (f:Nat) (x:Int),(eP f x).length<=f+1
 | 0,_=>aG _
 | f+1,x=>by
  rw[eP];split
  .have:=Zj f (x/128); simp; omega
  .simp
theorem Gy (b:List Int) (n:Int) (hl:b.length<=1048576):Ctr prog 268 [.c (.sl (b.map byteC)),.c (.v (.int .i64 (n)))] [.own 5 1 ((b++ZG n).map byteC) true]:=by
 refine CM call268 func268 ntmps268 results268 fun hw=>?_;have hl2:b.length<=2147483648:=AOl;simp only[go_sem,Fh,aa,hl2,au];refine AAO _ (GX b hl2) fun _=>?_;simp only[go_sem,aa];refine AAO _ (Nj _) fun _=>?_;rcases h:EE n with _ | _
 .simp only[go_sem,h,ZG,ax,aL,bc,CQ];try exact AIG
 have hn:=Tc.1 h;have hz:ZE n=zig n:=by simp only[ZE,h,aO]
 have hz0:0<=zig n/\zig n<128 ^ 5:=Xv hn.1 hn.2;simp only[go_sem,h];refine AAO _ (pM _) fun _=>?_;rw[hz];simp only[go_sem,h];have hput:ZG n=Ey n:=by simp only[ZG,h,aO]
 rw[hput];refine AAv [8] (A:=Nat×Int×List Int) (fun x=>[(6,.c (.v (.int .i64 (x.2.1)))),(5,.c (.ref 0))]) (fun x=>[⟨5,1,x.2.2.map byteC,true,true⟩]) (fun x=>x.1<=4/\0<=x.2.1/\x.2.1<128 ^ (x.1+1)/\x.2.2++eP x.1 x.2.1=b++Ey n) (fun x=>x.1) (4,zig n,b) (AAS [(0,false)] ⟨rfl,rfl,AY byteC.pure,trivial⟩ rfl) ⟨aG _,hz0.1,hz0.2,rfl⟩ ?_;rintro⟨f,x,out⟩ ⟨hf,hx0,hx1,hb⟩;dsimp only at hf hx0 hx1 hb;have hol:out.length<=b.length+5:=by exact ANd
 have hol2:out.length+1<=2147483648:=AOl;simp only[go_sem,aa];have hbig:x<34359738368:=by exact ANG
 rcases h1:decide (x>=128) with _ | _
 .have h1':¬ x>=128:=by simp at h1; omega
  have hwx:IntKind.u8.wrap x=x:=wrap_u8 hx0 AOl
  have hpn:eP f x = [x]:=by
   cases f with
   | zero=>rfl
   | succ f=>rw[eP,aR h1']
  rw[hpn] at hb;rw[<- hb,LY];simp only[go_sem,aI,aM,h1,aa,hwx,hol2,au,vZ];try exact AIG
 .exact AHC
theorem Gz (b:List Int) (n:Int) (hl:b.length<=1048576):Ctr prog 243 [.c (.sl (b.map byteC)),.c (.v (.int .i64 (n)))] [.own 5 1 ((b++ZG n).map byteC) true]:=by
 refine CM call243 func243 ntmps243 results243 fun hw=>?_;have hl2:b.length<=2147483648:=AOl;simp only[go_sem,Fh,aa,hl2,au];refine AAO _ (JD _) fun _=>?_;rcases h:EE n with _ | _
 .simp only[go_sem,h,ZG,ax,aL,bc,CQ];try exact AIG
 have hn:=Tc.1 h;have hz:ZE n=zig n:=by simp only[ZE,h,aO]
 have hz0:0<=zig n/\zig n<128 ^ 5:=Xv hn.1 hn.2;simp only[go_sem,h];refine AAO _ (pK _) fun _=>?_;rw[hz];simp only[go_sem,h];have hput:ZG n=Ey n:=by simp only[ZG,h,aO]
 rw[hput];refine AAv [9,7] (A:=Nat×Int×List Int) (fun x=>[(6,.c (.v (.int .i64 (x.2.1)))),(5,.c (.ref 0))]) (fun x=>[⟨5,1,x.2.2.map byteC,true,true⟩]) (fun x=>x.1<=4/\0<=x.2.1/\x.2.1<128 ^ (x.1+1)/\x.2.2++eP x.1 x.2.1=b++Ey n) (fun x=>x.1) (4,zig n,b) (AAS [(1,false)] ⟨rfl,rfl,AY byteC.pure,trivial⟩ rfl) ⟨aG _,hz0.1,hz0.2,rfl⟩ ?_;rintro⟨f,x,out⟩ ⟨hf,hx0,hx1,hb⟩;dsimp only at hf hx0 hx1 hb;have hol:out.length<=b.length+5:=by exact ANd
 have hol2:out.length+1<=2147483648:=AOl;simp only[go_sem,aa];have hbig:x<34359738368:=by exact ANG
 rcases h1:decide (x>127) with _ | _
 .have h1':¬ x>=128:=by simp at h1; omega
  have hwx:IntKind.u8.wrap x=x:=wrap_u8 hx0 AOl
  have hpn:eP f x = [x]:=by
   cases f with
   | zero=>rfl
   | succ f=>rw[eP,aR h1']
  rw[hpn] at hb;rw[<- hb,LY];simp only[go_sem,aI,aM,h1,aa,hwx,hol2,au,vZ];try exact AIG
 .exact AHC
