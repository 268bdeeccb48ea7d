/- A part. -/
import Derived.Test.YtdagmocgcanknaaGreatYa
set_option linter.unusedSimpArgs false
set_option linter.unusedVariables false
set_option maxHeartbeats 2000000
set_option maxRecDepth 10000
open Go.Proofs.Tryz
namespace Go.Proofs.YtdagmocgcanknaaGreat
open Go.Vm
section
variable {p q r:Prop}
theorem AQj(h:p:=by rw[<- hT]; kernel_rfl):p:=h
end
theorem lG:∀ f:Nat,Hg f 0=0
 | 0=>rfl
 | f+1=>by rw[Hg,aR AOl]
theorem Jd (n:Int):Ctr prog 334 [.c (.v (.int .i64 (n)))] [.val (.c (.v (.int .i64 (BA n))))]:=by
 refine CM call334 func334 ntmps334 results334 fun hw=>?_;simp only[go_sem];refine AAO _ (AP _ _ _) fun _=>?_;rcases h:Ae n 0 2147483647 with _ | _
 .have:¬ (0<=n/\n<=2147483647):=by simp[Ae] at h; omega
  simp only[go_sem,h,BA,aR this]
 have hn:0<=n/\n<=2147483647:=by simp[Ae] at h; omega
 simp only[go_sem,h,BA,aV hn];refine AAe 0 (A:=Nat×Int×Int) (fun x=>[(4,.c (.v (.int .i64 (x.2.1)))),(3,.c (.v (.int .i64 (x.2.2))))]) (fun _=>[]) (fun x=>0<=x.2.1/\x.2.1<2 ^ x.1/\x.1<=32/\0<=x.2.2/\x.2.2+x.1<=32/\x.2.2+Hg x.1 x.2.1=Hg 32 n) (fun x=>x.1) (32,n,0) ⟨⟨rfl,rfl⟩,rfl,AOp,AOp,AOp,AOp,AOp,AOm⟩ ?_;rintro⟨f,x,c⟩ ⟨hx0,hx1,hf,hc0,hc1,hb⟩;dsimp only at hx0 hx1 hf hc0 hc1 hb;refine AOd (fun h=>?_) fun h=>?_
 .have h':x>0:=by simpa using h
  cases f with
  | zero=>simp at hx1; omega
  | succ f =>
  have hxx:x<4294967296:=by have:(2:Int) ^ (f+1)<=2 ^ 32:=APw;omega
  rw[Hg,aV h'] at hb;have e1:IntKind.i64.wrap (x.tdiv 2)=x/2:=by rw[yD AOl,wrap_i64 AOl AOl]
  simp only[go_sem,e1,wrap_i64 (n:=c+1) AOl AOl];exact⟨(f,x/2,c+1),⟨rfl,rfl⟩,rfl,⟨AOp,by simp only; rw[abe] at hx1; omega,AOp,AOp,AOp,AOp⟩,AOp⟩
 .have h':x=0:=by simp at h; omega
  subst h';rw[lG] at hb;simp only[go_sem];rw[<- hb]; simp
theorem SH:∀ (f:Nat) (x:Int),0<=Hg f x
 | 0,_=>aa7 _
 | f+1,x=>by have:=SH f (x/2);rw[Hg];split<;>omega
theorem Td:∀ (f g:Nat) (x:Int),x<2 ^ f->Hg (f+g) x=Hg f x
 | 0,g,x,h=>by
  have h':¬ x>0:=AO1;cases g with
  | zero=>rfl
  | succ g=>rw[nY]; show Hg (g+1) x=0; rw[Hg,aR h']
 | f+1,g,x,h=>by
  rw[show f+1+g=(f+g)+1 from AOl,Hg,Hg];split
  .rw[Td f g (x/2) (by rw[abe] at h; omega)]
  .rfl
theorem Zk (f:Nat):∀ (s:Nat) (x:Int),x>=2 ^ s->Hg (f+s) x=Hg f (x/2 ^ s)+s
 | 0,x,h=>AOm
 | s+1,x,h=>by have hp:(0:Int)<2 ^ s:=Int.pow_pos AOl;rw[abe] at h;rw[show f+(s+1)=(f+s)+1 from AOl,Hg,aV AOl,Zk f s (x/2) AOl,Int.ediv_ediv_of_nonneg AOl,abe,Int.mul_comm 2];omega
theorem pU (T:ByteArray) (hs:T.size=256) (h:(List.range 256).all (fun y=>(T.data.toList.getD y 0).toNat==(Hg 8 (y:Int)).toNat)=true) (y:Nat) (hy:y<256):∃ c:UInt8,T[y]?=some c/\(c.toNat:Int)=Hg 8 y:=by
 have h1:=aC.1 h y (abj.2 hy);have hlt:y<T.size:=AOl;refine⟨T[y],getElem?_pos T y hlt, ?_⟩;have h2:T.data.toList.getD y 0=T[y]:=by rw[List.getD_eq_getElem?_getD,Array.getElem?_toList,getElem?_pos T.data y hlt]; rfl
 rw[h2] at h1;simp only[qX] at h1;have:=SH 8 (y:Int);omega
@[go_sem] theorem AK7:((8:Int)<0)=False:=AOm
@[go_sem] theorem AKz:((16:Int)<0)=False:=AOm
@[go_sem] theorem AK0:Int.toNat 8=8:=rfl
@[go_sem] theorem AKb:Int.toNat 16=16:=rfl
@[go_sem] theorem m8:min 8 64=8:=rfl
@[go_sem] theorem m16:min 16 64=16:=rfl
theorem wrap_u64 {n:Int} (h:0<=n) (h2:n<18446744073709551616):IntKind.u64.wrap n=n:=LU (by
 simp only[Lit.wf,ar,aQ];simp[IntKind.min,IntKind.max,IntKind.bits,IntKind.signed];omega)
theorem zF (x:Nat) (h0:1<=x) (h:x<2147483648):Ctr prog 373 [.c (.v (.int .u64 (x:Int)))] [.val (.c (.v (.int .i64 (Hg 32 (x:Int)))))]:=by
 refine CM call373 func373 ntmps373 results373 fun hw=>?_;have h1:decide ((x:Int)>=4294967296)=false:=AOn;have s8:IntKind.u64.wrap ((x:Int).fdiv (2 ^ 8))=((x/256:Nat):Int):=APT;have s16:IntKind.u64.wrap ((x:Int).fdiv (2 ^ 16))=((x/65536:Nat):Int):=APT;have s24:IntKind.u64.wrap ((((x/65536:Nat):Int)).fdiv (2 ^ 8))=((x/16777216:Nat):Int):=APT;have w8 (y:Nat) (hy:y<256):IntKind.u8.wrap (y:Int)=y:=wrap_u8 AOl AOl
 have hwl (y:Nat) (hy:y<256):0<=Hg 8 (y:Int)/\Hg 8 (y:Int)<=8:=by
  refine⟨SH _ _, ?_⟩
  have key:∀ (f:Nat) (x:Int),Hg f x<=f:=by
   intro f;induction f with
   | zero=>intro x; exact aa7 _
   | succ f ih=>intro x; have:=ih (x/2); rw[Hg]; split<;>omega
  exact key 8 _
 rcases h2:decide ((x:Int)>=65536) with _ | _
 .rcases h3:decide ((x:Int)>=256) with _ | _
  .have hx:x<256:=by simp at h3; omega
   simp only[go_sem,h1,h2,h3,w8 x hx];generalize hT:(ByteArray.mk _)=T;obtain⟨c,hc,hcn⟩:=pU T (by rw[<- hT]; rfl) AQj x hx;have:=hwl x hx;simp only[go_sem,E8,hc,hcn];have e:Hg 32 (x:Int)=Hg 8 x:=Td 8 24 _ AOl;simp only[Int.zero_add];rw[wrap_i64 (n:=Hg 8 (x:Int)) AOl AOl,wrap_i64 AOl AOl,e]
  .have hx:x/256<256:=by simp at h2; omega
   simp only[go_sem,h1,h2,h3,s8,w8 _ hx];generalize hT:(ByteArray.mk _)=T;obtain⟨c,hc,hcn⟩:=pU T (by rw[<- hT]; rfl) AQj _ hx;have:=hwl _ hx;simp only[go_sem,E8,hc,hcn];have e:Hg 32 (x:Int)=Hg 8 ((x/256:Nat):Int)+8:=by rw[show (32:Nat)=24+8 from rfl,Zk 24 8 _ APj,show (x:Int)/2 ^ 8=((x/256:Nat):Int) from AOl,show (24:Nat)=8+16 from rfl,Td 8 16 _ AOl]; rfl
   simp only[Int.zero_add];rw[wrap_i64 (n:=Hg 8 _) AOl AOl,wrap_i64 (n:=8) AOl AOl,wrap_i64 AOl AOl,e,Int.add_comm]
 .rcases h3:decide (((x/65536:Nat):Int)>=256) with _ | _
  .have hx:x/65536<256:=by simp at h3; omega
   simp only[go_sem,h1,h2,h3,s16,w8 _ hx];generalize hT:(ByteArray.mk _)=T;obtain⟨c,hc,hcn⟩:=pU T (by rw[<- hT]; rfl) AQj _ hx;have:=hwl _ hx;simp only[go_sem,E8,hc,hcn];have e:Hg 32 (x:Int)=Hg 8 ((x/65536:Nat):Int)+16:=by rw[show (32:Nat)=16+16 from rfl,Zk 16 16 _ AO3,show (x:Int)/2 ^ 16=((x/65536:Nat):Int) from AOl,show (16:Nat)=8+8 from rfl,Td 8 8 _ AOl]; rfl
   simp only[Int.zero_add];rw[wrap_i64 (n:=Hg 8 _) AOl AOl,wrap_i64 (n:=16) AOl AOl,wrap_i64 AOl AOl,e,Int.add_comm]
  .have hx:x/16777216<256:=by omega
   simp only[go_sem,h1,h2,h3,s16,s24,w8 _ hx];generalize hT:(ByteArray.mk _)=T;obtain⟨c,hc,hcn⟩:=pU T (by rw[<- hT]; rfl) AQj _ hx;have:=hwl _ hx;simp only[go_sem,E8,hc,hcn];have e:Hg 32 (x:Int)=Hg 8 ((x/16777216:Nat):Int)+24:=by rw[show (32:Nat)=8+24 from rfl,Zk 8 24 _ APj,show (x:Int)/2 ^ 24=((x/16777216:Nat):Int) from AOl]; rfl
   simp only[Int.zero_add];rw[wrap_i64 (n:=Hg 8 _) AOl AOl,wrap_i64 (n:=16) AOl AOl,wrap_i64 (n:=16+8) AOl AOl,wrap_i64 AOl AOl,e,show (16:Int)+8=24 from rfl,Int.add_comm]
theorem AEJ (x:Nat) (h0:1<=x) (h:x<2147483648):Ctr prog 367 [.c (.v (.int .u64 (x:Int)))] [.val (.c (.v (.int .i64 (Hg 32 (x:Int)))))]:=by
 refine CM call367 func367 ntmps367 results367 fun hw=>?_;simp only[go_sem];have e1:IntKind.u64.wrap (x:Int)=x:=LU (by simp only[Lit.wf,ar,aQ]; simp[IntKind.min,IntKind.max,IntKind.bits,IntKind.signed]; omega);try simp only[e1]
 refine AAO _ (zF x h0 h) fun _=>?_;exact AJC
theorem Lr (n:Int):Ctr prog 349 [.c (.v (.int .i64 (n)))] [.val (.c (.v (.int .i64 (BA n))))]:=by
 refine CM call349 func349 ntmps349 results349 fun hw=>?_;simp only[go_sem];refine AAO _ (AL _ _ _) fun _=>?_;rcases h:Ae n 1 2147483647 with _ | _
 .have:BA n=0:=by
   unfold BA;split
   .have:n=0:=by simp[Ae] at h; omega
    subst this;exact lG _
   .rfl
  simp only[go_sem,h,this]
 have hn:1<=n/\n<=2147483647:=by simp[Ae] at h; omega
 obtain⟨m,rfl⟩:=aF (show 0<=n from AOl);have e1:IntKind.u64.wrap (m:Int)=m:=LU (by simp only[Lit.wf,ar,aQ]; simp[IntKind.min,IntKind.max,IntKind.bits,IntKind.signed]; omega);simp only[go_sem,h,e1];refine AAO _ (AEJ m AOl AOl) fun _=>?_;simp only[go_sem,BA];rw[aV AOl]
theorem fF (k w:Int):Ctr prog 365 [.c (.v (.int .i64 (k))),.c (.v (.int .i64 (w)))] [.val (.c (.v (.int .i64 (F9 k w))))]:=by
 refine CM call365 func365 ntmps365 results365 fun hw=>?_;simp only[go_sem];refine AAO _ (AL _ _ _) fun _=>?_;rcases h:Ae k 0 64 with _ | _
 .exact ANw
 simp only[go_sem,h];refine AAO _ (AL _ _ _) fun _=>?_;exact AI6
theorem fG (k w:Int):Ctr prog 360 [.c (.v (.int .i64 (k))),.c (.v (.int .i64 (w)))] [.val (.c (.v (.int .i64 (F9 k w))))]:=by
 refine CM call360 func360 ntmps360 results360 fun hw=>?_;simp only[go_sem];refine AAO _ (AP _ _ _) fun _=>?_;rcases h:Ae k 0 64 with _ | _
 .exact ANw
 simp only[go_sem,h];refine AAO _ (AP _ _ _) fun _=>?_;exact AI6
theorem Yr (b:List Int) (n:Int) (hb:Ai b) (hl:b.length<=1048576) (hn:n<=1000000000):Ctr prog 366 [.c (.sl (b.map byteC)),.c (.v (.int .i64 (n)))] [.val (.c (.v (.int .i64 (FT b n))))]:=by
 refine CM call366 func366 ntmps366 results366 fun hw=>?_;rcases h0:decide (n<0) with _ | _;rotate_left
 .have:n<0:=by simpa using h0
  simp only[go_sem,h0,FT,aV this]
 have hn0:0<=n:=AP0;obtain⟨m,rfl⟩:=aF hn0;have e1:IntKind.i64.wrap ((m:Int).tdiv 8)=((m/8:Nat):Int):=AO6;have e2:IntKind.i64.wrap ((m:Int).tmod 8)=((m%8:Nat):Int):=APH;have hba:FT b (m:Int)=match b[m/8]? with | some c=>c/2 ^ (m%8)%2 | none=>0:=by exact AMt
 rw[hba];rcases h1:decide (((m/8:Nat):Int)>=(b.length:Int)) with _ | _;rotate_left
 .exact AN_
 have hlt:m/8<b.length:=APt;obtain⟨c0,c1⟩:=hb _ (an hlt);rw[am hlt];generalize hc:b[m/8]=c at c0 c1;simp only[go_sem,h0,h1,e1,e2,aa,AA _ hlt,hc];have hP:0<=c/2 ^ (m%8):=Int.ediv_nonneg AOl (aaU AOl);have hP2:c/2 ^ (m%8)<=c:=Int.ediv_le_self _ AOl;rw[aaO _ (aaU AOl)];rw[show min (m%8) 8=m%8 from AOl,wrap_u8 hP AOl,AHh hP AOl,wrap_u8 AOl AOl,wrap_i64 AOl AOl]
theorem Yt (b:List Int) (n:Int) (hb:Ai b) (hl:b.length<=1048576) (hn:n<=1000000000):Ctr prog 361 [.c (.sl (b.map byteC)),.c (.v (.int .i64 (n)))] [.val (.c (.v (.int .i64 (FT b n))))]:=by
 refine CM call361 func361 ntmps361 results361 fun hw=>?_;rcases h0:decide (n<0) with _ | _;rotate_left
 .have:n<0:=by simpa using h0
  simp only[go_sem,h0,FT,aV this]
 have hn0:0<=n:=AP0;obtain⟨m,rfl⟩:=aF hn0;have e1:IntKind.i64.wrap ((m:Int).tdiv 8)=((m/8:Nat):Int):=AO6;have e2:IntKind.i64.wrap ((m:Int).tmod 8)=((m%8:Nat):Int):=APH;have hba:FT b (m:Int)=match b[m/8]? with | some c=>c/2 ^ (m%8)%2 | none=>0:=by exact AMt
 rw[hba];rcases h1:decide (((m/8:Nat):Int)>=(b.length:Int)) with _ | _;rotate_left
 .exact AN_
 have hlt:m/8<b.length:=APt;obtain⟨c0,c1⟩:=hb _ (an hlt);rw[am hlt];generalize hc:b[m/8]=c at c0 c1;simp only[go_sem,h0,h1,e1,e2,aa,AA _ hlt,hc];rw[wrap_i64 (n:=c) AOl AOl];have hP:0<=c/2 ^ (m%8):=Int.ediv_nonneg AOl (aaU AOl);have hP2:c/2 ^ (m%8)<=c:=Int.ediv_le_self _ AOl;rw[aaO _ (aaU AOl)];rw[show min (m%8) 64=m%8 from AOl,wrap_i64 (n:=c/2 ^ (m%8)) AOl AOl,AGg hP AOl,wrap_i64 AOl AOl]
theorem fH (l:List Int) (hl:l.length<=1048576):Ctr prog 358 [.c (.sl (l.map intC))] [.val (.c (.v (.int .i64 (DV l))))]:=by
 refine CM call358 func358 ntmps358 results358 fun hw=>?_;simp only[go_sem,aa];refine AAe 0 (A:=Nat×Int) (fun x=>[(8,.c (.v (.int .i64 (x.1)))),(3,.c (.v (.int .i64 (x.2))))]) (fun _=>[]) (fun x=>x.1<=l.length/\(l.drop x.1).foldl (fun w n=>max w (BA n)) x.2=DV l) (fun x=>l.length-x.1) (0,0) ⟨⟨rfl,rfl⟩,rfl,aq _,rfl⟩ ?_;rintro⟨i,w⟩ ⟨hi,hb⟩;dsimp only at hi hb;refine AOe (fun h=>?_) fun h=>?_
 .have hi':i<l.length:=by simpa using h
  rw[aB hi',abB] at hb;simp only[go_sem,aa,AA _ hi'];refine AAO _ (Lr _) fun _=>?_;simp only[go_sem,aa,wrap_i64 (n:=(i:Int)+1) AOl AOl];have hm:(if w<BA l[i] then BA l[i] else w)=max w (BA l[i]):=by split<;>omega
  exact⟨(i+1,if w<BA l[i] then BA l[i] else w),⟨rfl,rfl⟩,rfl,⟨hi',by simp only; rw[hm]; exact hb⟩,AOp⟩
 .exact ANN
theorem fJ (l:List Int) (hl:l.length<=1048576):Ctr prog 343 [.c (.sl (l.map intC))] [.val (.c (.v (.int .i64 (DV l))))]:=by
 refine CM call343 func343 ntmps343 results343 fun hw=>?_;simp only[go_sem,aa];refine AAe 0 (A:=Nat×Int) (fun x=>[(4,.c (.v (.int .i64 (x.1)))),(3,.c (.v (.int .i64 (x.2))))]) (fun _=>[]) (fun x=>x.1<=l.length/\(l.drop x.1).foldl (fun w n=>max w (BA n)) x.2=DV l) (fun x=>l.length-x.1) (0,0) ⟨⟨rfl,rfl⟩,rfl,aq _,rfl⟩ ?_;rintro⟨i,w⟩ ⟨hi,hb⟩;dsimp only at hi hb;refine AOe (fun h=>?_) fun h=>?_
 .have hi':i<l.length:=by simpa using h
  rw[aB hi',abB] at hb;simp only[go_sem,aa,AA _ hi'];refine AAO _ (Jd _) fun _=>?_;rcases h2:decide (BA l[i]>w) with _ | _
  .have h2':BA l[i]<=w:=by simpa using h2
   simp only[go_sem,h2,aa,wrap_i64 (n:=(i:Int)+1) AOl AOl];exact⟨(i+1,w),⟨rfl,rfl⟩,rfl,⟨hi',by simp only; rw[<- hb,Int.max_eq_left h2']⟩,AOp⟩
  .have h2':w<=BA l[i]:=by simp at h2; omega
   simp only[go_sem,h2,aa,AA _ hi'];refine AAO _ (Jd _) fun _=>?_;simp only[go_sem,h2,aa,wrap_i64 (n:=(i:Int)+1) AOl AOl];exact⟨(i+1,BA l[i]),⟨rfl,rfl⟩,rfl,⟨hi',by simp only; rw[<- hb,Int.max_eq_right h2']⟩,AOp⟩
 .exact ANN
