/- A part. -/
import Derived.Test.YtnoldekcdlaahaaGreatPYc
import Derived.Test.YtnoldekcdlaahaaGreatPYb
set_option linter.unusedSimpArgs false
set_option linter.unusedVariables false
set_option maxHeartbeats 2000000
set_option maxRecDepth 10000
open Go.Proofs.Tryz
namespace Go.Proofs.YtnoldekcdlaahaaGreat
open Go.Vm
theorem all1 {p:Ob→Bool} {x:Ob} (h:p x=true) : [x].all p=true:=by simp[h]
def Y0:Option (List Int)→List Res
 | some l=>[.own 3 1 (l.map intC) true,.val (.c (.v (.bool (true))))]
 | none=>[.own 3 1 [] true,.val (.c (.v (.bool (false))))]
def pY (b:List Int) (W i:Nat):List Int:=(List.range i).map fun m:Nat=>NZ b ((m:Int)*W) W
theorem AAa (b:List Int) (W i:Nat):(pY b W i).length=i:=by simp[pY]
theorem eG (b:List Int) (n:Int):0≤FQ b n∧FQ b n≤1:=by
 unfold FQ
 grind
theorem eH (b:List Int) (o:Int):∀ j:Nat,0≤NZ b o j∧NZ b o j<2 ^ j
 | 0=>by simp[NZ]
 | j+1=>by
  have h1:=eH b o j
  have h2:=eG b (o+j)
  have hp:(0:Int)<2 ^ j:=Int.pow_pos AOQ
  have h3:0≤FQ b (o+j)*2 ^ j:=aaZ h2.1 AOQ
  have h4:FQ b (o+j)*2 ^ j≤1*2 ^ j:=aag h2.2 AOQ
  rw[NZ,abe]; omega
theorem Vf (b:List Int) (w k:Int) (hb:Ae b) (hl:b.length≤1048576):Ctr prog 421 [.c (.sl (b.map byteC)),.c (.v (.int .i64 (w))),.c (.v (.int .i64 (k)))] (Y0 (unpack b w k)):=by
 refine CM call421 func421 ntmps421 results421 fun hw=>?_
 simp only[go_sem,ae]
 refine AAM _ (AL _ _ _) fun _=>?_
 rcases h1:Ad w 0 31 with _ | _
 ·exact AMK
 simp only[go_sem,h1]
 refine AAM _ (AL _ _ _) fun _=>?_
 rcases h2:Ad k 0 64 with _ | _
 ·exact AMF
 simp only[go_sem,h1,h2,ae]
 refine AAM _ (dY _ _) fun _=>?_
 rcases h3:(b.length:Int) != Fz k w with _ | _
 rotate_left
 ·exact AMM
 have hlen:(b.length:Int)=Fz k w:=AOm
 have hw0:0≤w∧w≤31:=APq
 have hk0:0≤k∧k≤64:=APq
 simp only[go_sem,h1,h2,h3,ae]
 obtain⟨W,rfl⟩:=aQ hw0.1
 obtain⟨K,rfl⟩:=aQ hk0.1
 have hKW:K*W≤64*31:=aa0 AOQ AOQ
 have hlen8:b.length=(K*W+7)/8:=by
  exact ANX
 have hsucc:∀ i:Nat,(pY b W (i+1)).map intC=(pY b W i).map intC ++ [[.v (.int .i64 (NZ b ((i:Int)*W) W))]]:=fun i=>by
  rw[pY,List.range_succ,WU,WU]; rfl
 refine ABZ [29] (A:=Nat) (fun i=>[(9,.c (.v (.int .i64 (i)))),(8,.c (.ref 0))]) (fun i=>[⟨3,1,(pY b W i).map intC,true,true⟩]) (fun i=>i≤K) (fun i=>K-i) 0 (ABJ [(0,false)] ⟨rfl,rfl,rfl,trivial⟩ rfl) (aA _) ?_
 intro i hi
 refine AOK (fun h=>?_) fun h=>?_
 ·have hi':i<K:=by simp at h; omega
  have hiW:i*W≤64*31:=aa0 AOQ AOQ
  have eiW:(i:Int)*W=((i*W:Nat):Int):=AOR
  have e1:IntKind.i64.wrap ((i:Int)*W)=((i:Int)*W):=wrap_i64 AOQ AOQ
  simp only[go_sem]
  refine ABK 1 (A:=Nat) (fun j=>[(11,.c (.v (.int .i64 (j)))),(10,.c (.v (.int .i64 (NZ b ((i:Int)*W) j))))]) (fun _=>[⟨3,1,(pY b W i).map intC,true,true⟩]) (fun j=>j≤W) (fun j=>W-j) 0 ⟨⟨rfl,all1 (AU (AX _))⟩,rfl,aA _⟩ ?_
  intro j hj
  simp only[go_sem,ae]
  refine ABG (fun h2=>?_) (fun h2=>?_)
  ·have hj':j<W:=by simp at h2; omega
   have e2:IntKind.i64.wrap ((i:Int)*W+j)=(i:Int)*W+j:=wrap_i64 AOQ AOQ
   have h01:=eG b ((i:Int)*W+j)
   have hbd:=eH b ((i:Int)*W) j
   have hp:(0:Int)<2 ^ j:=Int.pow_pos AOQ
   have hp2:(2:Int) ^ j≤2 ^ 31:=APV
   have h3:0≤FQ b ((i:Int)*W+j)*2 ^ j:=aaZ h01.1 AOQ
   have h4:FQ b ((i:Int)*W+j)*2 ^ j≤1*2 ^ j:=aag h01.2 AOQ
   have e3:IntKind.i64.wrap (FQ b ((i:Int)*W+j)*2 ^ min j 64)=FQ b ((i:Int)*W+j)*2 ^ j:=by
    rw[Zl AOQ,wrap_i64 AOQ AOQ]
   have e4:IntKind.i64.wrap (orK .i64 (NZ b ((i:Int)*W) j) (FQ b ((i:Int)*W+j)*2 ^ j))=NZ b ((i:Int)*W) (j+1):=by
    exact AM8
   simp only[go_sem,e1,e2]
   refine AAM _ (X4 b _ hb hl AOQ) fun _=>?_
   exact AMc
  ·exact AK8
 ·have hi':i=K:=by simp at h; omega
  subst hi'
  have ekw:(i:Int)*W=((i*W:Nat):Int):=AOR
  have e1:IntKind.i64.wrap ((i:Int)*W)=((i*W:Nat):Int):=by rw[wrap_i64 AOQ AOQ,ekw]
  have e8:IntKind.i64.wrap (8*(b.length:Int))=((8*b.length:Nat):Int):=AOW
  simp only[go_sem,e1]
  refine ABK 1 (A:=Nat) (fun n=>[(12,.c (.v (.int .i64 ((n:Int)))))]) (fun _=>[⟨3,1,(pY b W i).map intC,true,true⟩]) (fun n=>i*W≤n∧n≤8*b.length∧∀ m,i*W≤m→m<n→FQ b (m:Int)=0) (fun n=>8*b.length-n) (i*W) ⟨⟨rfl,all1 (AU (AX _))⟩,rfl,aT _,AOQ,fun m h1 h2=>AOQ⟩ ?_
  rintro n ⟨hn1,hn2,hz⟩
  simp only[go_sem,ae,e8]
  refine ABG (fun h2=>?_) (fun h2=>?_)
  ·have hn':n<8*b.length:=by simp at h2; omega
   simp only[go_sem]
   refine AAM _ (X4 b _ hb hl AOQ) fun _=>?_
   exact AJ3
  ·exact ALM
theorem Vg (b:List Int) (w k:Int) (hb:Ae b) (hl:b.length≤1048576):Ctr prog 414 [.c (.sl (b.map byteC)),.c (.v (.int .i64 (w))),.c (.v (.int .i64 (k)))] (Y0 (unpack b w k)):=by
 refine CM call414 func414 ntmps414 results414 fun hw=>?_
 simp only[go_sem,ae]
 refine AAM _ (AO _ _ _) fun _=>?_
 rcases h1:Ad k 0 64 with _ | _
 ·exact AMK
 simp only[go_sem,h1]
 refine AAM _ (AO _ _ _) fun _=>?_
 rcases h2:Ad w 0 31 with _ | _
 ·exact AMF
 simp only[go_sem,h1,h2,ae]
 refine AAM _ (dZ _ _) fun _=>?_
 rcases h3:(b.length:Int) != Fz k w with _ | _
 rotate_left
 ·exact AMM
 have hlen:(b.length:Int)=Fz k w:=AOm
 have hw0:0≤w∧w≤31:=APq
 have hk0:0≤k∧k≤64:=APq
 simp only[go_sem,h1,h2,h3,ae]
 obtain⟨W,rfl⟩:=aQ hw0.1
 obtain⟨K,rfl⟩:=aQ hk0.1
 have hKW:K*W≤64*31:=aa0 AOQ AOQ
 have hlen8:b.length=(K*W+7)/8:=by
  exact ANX
 have hsucc:∀ i:Nat,(pY b W (i+1)).map intC=(pY b W i).map intC ++ [[.v (.int .i64 (NZ b ((i:Int)*W) W))]]:=fun i=>by
  rw[pY,List.range_succ,WU,WU]; rfl
 refine ABZ [13] (A:=Nat) (fun i=>[(9,.c (.v (.int .i64 (i)))),(8,.c (.ref 0))]) (fun i=>[⟨3,1,(pY b W i).map intC,true,true⟩]) (fun i=>i≤K) (fun i=>K-i) 0 (ABJ [(0,false)] ⟨rfl,rfl,rfl,trivial⟩ rfl) (aA _) ?_
 intro i hi
 refine AOK (fun h=>?_) fun h=>?_
 ·have hi':i<K:=by simp at h; omega
  have hiW:i*W≤64*31:=aa0 AOQ AOQ
  have eiW:(i:Int)*W=((i*W:Nat):Int):=AOR
  have e1:IntKind.i64.wrap ((i:Int)*W)=((i:Int)*W):=wrap_i64 AOQ AOQ
  simp only[go_sem]
  refine ABK 1 (A:=Nat) (fun j=>[(11,.c (.v (.int .i64 (j)))),(10,.c (.v (.int .i64 (NZ b ((i:Int)*W) j))))]) (fun _=>[⟨3,1,(pY b W i).map intC,true,true⟩]) (fun j=>j≤W) (fun j=>W-j) 0 ⟨⟨rfl,all1 (AU (AX _))⟩,rfl,aA _⟩ ?_
  intro j hj
  simp only[go_sem,ae]
  refine ABG (fun h2=>?_) (fun h2=>?_)
  ·have hj':j<W:=by simp at h2; omega
   have e2:IntKind.i64.wrap ((i:Int)*W+j)=(i:Int)*W+j:=wrap_i64 AOQ AOQ
   have h01:=eG b ((i:Int)*W+j)
   have hbd:=eH b ((i:Int)*W) j
   have hp:(0:Int)<2 ^ j:=Int.pow_pos AOQ
   have hp2:(2:Int) ^ j≤2 ^ 31:=APV
   have h3:0≤FQ b ((i:Int)*W+j)*2 ^ j:=aaZ h01.1 AOQ
   have h4:FQ b ((i:Int)*W+j)*2 ^ j≤1*2 ^ j:=aag h01.2 AOQ
   have e3:IntKind.i64.wrap (FQ b ((i:Int)*W+j)*2 ^ min j 64)=FQ b ((i:Int)*W+j)*2 ^ j:=by
    rw[Zl AOQ,wrap_i64 AOQ AOQ]
   have e4:IntKind.i64.wrap (orK .i64 (NZ b ((i:Int)*W) j) (FQ b ((i:Int)*W+j)*2 ^ j))=NZ b ((i:Int)*W) (j+1):=by
    exact AM8
   simp only[go_sem,e1,e2]
   refine AAM _ (X5 b _ hb hl AOQ) fun _=>?_
   exact AMc
  ·exact AK8
 ·have hi':i=K:=by simp at h; omega
  subst hi'
  have ekw:(i:Int)*W=((i*W:Nat):Int):=AOR
  have e1:IntKind.i64.wrap ((i:Int)*W)=((i*W:Nat):Int):=by rw[wrap_i64 AOQ AOQ,ekw]
  have e8:IntKind.i64.wrap (8*(b.length:Int))=((8*b.length:Nat):Int):=AOW
  simp only[go_sem,e1]
  refine ABK 1 (A:=Nat) (fun n=>[(12,.c (.v (.int .i64 ((n:Int)))))]) (fun _=>[⟨3,1,(pY b W i).map intC,true,true⟩]) (fun n=>i*W≤n∧n≤8*b.length∧∀ m,i*W≤m→m<n→FQ b (m:Int)=0) (fun n=>8*b.length-n) (i*W) ⟨⟨rfl,all1 (AU (AX _))⟩,rfl,aT _,AOQ,fun m h1 h2=>AOQ⟩ ?_
  rintro n ⟨hn1,hn2,hz⟩
  simp only[go_sem,ae,e8]
  refine ABG (fun h2=>?_) (fun h2=>?_)
  ·have hn':n<8*b.length:=by simp at h2; omega
   simp only[go_sem]
   refine AAM _ (X5 b _ hb hl AOQ) fun _=>?_
   exact AJ3
  ·exact ALM
def XF (l:List Int) (w:Int):Prop:=(0≤w∧w≤31)∧∀ n∈l,(0≤n∧n≤2147483647)∧Az n≤w
def pb (l:List Int) (W N m:Nat):Int:=Gg l (W:Int) m (min 8 (N-8*m))
def WE (l:List Int) (W N c:Nat):List Int:=(List.range c).map fun m=>pb l W N m
theorem MQ (l:List Int) (W N c:Nat):(WE l W N c).length=c:=by simp[WE]
theorem UN (l:List Int) (w:Int) (n:Nat):0≤FK l w n∧FK l w n≤1:=by
 unfold FK
 split<;>omega
theorem X6 (l:List Int) (w:Int) (m:Nat):∀ t:Nat,0≤Gg l w m t∧Gg l w m t<2 ^ t
 | 0=>by simp[Gg]
 | t+1=>by
  have h1:=X6 l w m t
  have h2:=UN l w (8*m+t)
  have hp:(0:Int)<2 ^ t:=Int.pow_pos AOQ
  have h3:0≤FK l w (8*m+t)*2 ^ t:=aaZ h2.1 AOQ
  have h4:FK l w (8*m+t)*2 ^ t≤1*2 ^ t:=aag h2.2 AOQ
  rw[Gg,abe]; omega
theorem ul {l:List Int} {W n:Nat} (h:l.length*W≤n) (hW:0<W):FK l (W:Int) n=0:=by
 unfold FK
 rw[bW,mV]
 exact(Nat.le_div_iff_mul_le hW).2 h
theorem Vh {l:List Int} {W m:Nat} (hW:0<W):∀ t s:Nat,l.length*W≤8*m+t→Gg l (W:Int) m (t+s)=Gg l (W:Int) m t
 | t,0,_=>rfl
 | t,s+1,h=>by
  rw[show t+(s+1)=(t+s)+1 from AOQ,Gg,ul AOQ hW,Vh hW t s h]; simp
theorem AHk {l:List Int} {W m:Nat} (hW:0<W):pb l W (l.length*W) m=Gg l (W:Int) m 8:=by
 unfold pb
 rcases bV (l.length*W-8*m) 8 with h | h
 ·rw[Nat.min_eq_right AOQ]
  have:=Vh (l:=l) (m:=m) hW (l.length*W-8*m) (8-(l.length*W-8*m)) AOQ
  rw[← this]; congr 1; omega
 ·rw[Zl h]
theorem X7 {l:List Int} {W:Nat} (h:XF l W):En l W=WE l W (l.length*W) ((l.length*W+7)/8):=by
 unfold En WE
 unfold XF at h
 rw[bF h,bW]
 refine aaK fun m hm=>?_
 have hm':=abD.1 hm
 rcases aa6 W with rfl | hW
 ·omega
 ·exact(AHk hW).symm
theorem OC {l:List Int} {w:Int} (h:¬ XF l w):En l w = []:=by
 unfold En
 exact bz h
theorem eP {l:List Int} {W i k:Nat} (hi:i<l.length) (hk:k<W):FK l (W:Int) (i*W+k)=l[i]/2 ^ k%2:=by
 unfold FK
 have e1:(i*W+k)/W=i:=by rw[Nat.mul_comm,Nat.mul_add_div AOQ,Nat.div_eq_of_lt hk]; rfl
 have e2:(i*W+k)%W=k:=by rw[Nat.mul_comm,Nat.mul_add_mod,abG hk]
 rw[bW,e1,e2,au hi]
theorem Y1 (l:List Int) (W N:Nat):pb l W (N+1) (N/8)=pb l W N (N/8)+FK l (W:Int) N*2 ^ (N%8):=by
 unfold pb
 have e1:min 8 (N+1-8*(N/8))=N%8+1:=AOQ
 have e2:min 8 (N-8*(N/8))=N%8:=AOQ
 rw[e1,e2,Gg]
 have e3:8*(N/8)+N%8=N:=AOQ
 rw[e3]
theorem AAb (l:List Int) (W N m:Nat) (h:m≠N/8):pb l W (N+1) m=pb l W N m:=by
 unfold pb
 have e1:min 8 (N+1-8*m)=min 8 (N-8*m):=AOQ
 rw[e1]
theorem AJp (l:List Int) (W N:Nat):0≤pb l W N (N/8)∧pb l W N (N/8)<2 ^ (N%8):=by
 unfold pb
 have e2:min 8 (N-8*(N/8))=N%8:=AOQ
 rw[e2]
 exact X6 _ _ _ _
theorem oQ (l:List Int) (W N c:Nat) (h:N/8<c):((WE l W N c).map byteC).set (N/8) [.v (.int .u8 (pb l W (N+1) (N/8)))]=(WE l W (N+1) c).map byteC:=by
 apply abk
 intro m
 rw[wE]
 by_cases e:N/8=m
 ·subst e
  simp[WE,h,Oa]
 ·simp only[bz e]
  simp only[WE,List.map_map,mW]
  cases hm:(List.range c)[m]? with
  | none=>rfl
  | some x =>
   have hx:x=m:=by
    rw[List.getElem?_range] at hm
    ·simpa using hm.symm
    ·have:=(aF.1 hm).1
     simpa using this
   subst hx
   simp only[bY,Function.comp,AAb l W N x (fun h=>e h.symm)]
theorem Po (l:List Int) (W N c:Nat) {m:Nat} (h:m<c):((WE l W N c).map byteC)[m]?=some [.v (.int .u8 (pb l W N m))]:=by
 simp[WE,h,Oa]
theorem AD7 (l:List Int) (W c:Nat):List.replicate c [.v (.int .u8 0)]=(WE l W 0 c).map byteC:=by
 apply abk
 intro m
 by_cases h:m<c
 ·rw[Po l W 0 c h,abh,bF h]; simp[pb,Gg]
 ·rw[mV AOS,mV (by simp[MQ]; omega)]
theorem AGd {x:Int} {k:Nat} (h0:0≤x) (h1:x≤2147483647) (hk:k≤31):IntKind.i64.wrap (Zn .i64 (IntKind.i64.wrap (x.fdiv (2 ^ min k 64))) 1)=x/2 ^ k%2:=by
 have hP:0≤x/2 ^ k:=Int.ediv_nonneg h0 (aaU AOQ)
 have hP2:x/2 ^ k≤x:=Int.ediv_le_self _ h0
 rw[aaJ _ (aaU AOQ),Zl AOQ,wrap_i64 (n:=x/2 ^ k) AOQ AOQ,AGc hP AOQ,wrap_i64 AOQ AOQ]
theorem AHl {s:Nat} (h:s≤7):(1:Int)≤2 ^ s∧(2:Int) ^ s≤128:=by
 have:s=0∨s=1∨s=2∨s=3∨s=4∨s=5∨s=6∨s=7:=AOQ
 rcases this with rfl | rfl | rfl | rfl | rfl | rfl | rfl | rfl<;>decide
theorem AGe (l:List Int) (W N:Nat) {x:Int} (h0:0≤x) (h1:x≤1):IntKind.u8.wrap (orK .u8 (pb l W N (N/8)) (x*2 ^ (N%8)))=pb l W N (N/8)+x*2 ^ (N%8):=by
 have hb:=AJp l W N
 obtain⟨p1,p2⟩:=AHl (s:=N%8) AOQ
 have h3:0≤x*2 ^ (N%8):=aaZ h0 AOQ
 have h4:x*2 ^ (N%8)≤1*2 ^ (N%8):=aag h1 AOQ
 rw[dV .u8 hb.1 hb.2 h0 (by simp[IntKind.bits]; omega),wrap_u8 AOQ AOQ]
theorem AD8 {l:List Int} {W i k:Nat} (hi:i<l.length) (hk:k<W) (hW:W≤31) (h0:0≤l[i]) (h1:l[i]≤2147483647) :
  IntKind.u8.wrap (orK .u8 (pb l W (i*W+k) ((i*W+k)/8)) (IntKind.u8.wrap (IntKind.i64.wrap (IntKind.i64.wrap (Zn .i64 (IntKind.i64.wrap (l[i].fdiv (2 ^ min k 64))) 1)*2 ^ min ((i*W+k)%8) 64))))=pb l W (i*W+k+1) ((i*W+k)/8):=by
 have hbit:=eP (l:=l) hi hk
 have h01:=UN l (W:Int) (i*W+k)
 obtain⟨p1,p2⟩:=AHl (s:=(i*W+k)%8) AOQ
 have h3:0≤FK l (W:Int) (i*W+k)*2 ^ ((i*W+k)%8):=aaZ h01.1 AOQ
 have h4:FK l (W:Int) (i*W+k)*2 ^ ((i*W+k)%8)≤1*2 ^ ((i*W+k)%8):=aag h01.2 AOQ
 rw[AGd h0 h1 AOQ,← hbit,Zl AOQ,wrap_i64 AOQ AOQ,wrap_u8 (n:=FK l (W:Int) (i*W+k)*2 ^ ((i*W+k)%8)) AOQ AOQ,AGe l W _ h01.1 h01.2,Y1]
theorem um (l:List Int) (W N c:Nat) (h:FK l (W:Int) N=0):WE l W (N+1) c=WE l W N c:=by
 unfold WE
 refine aaK fun m _=>?_
 by_cases e:m=N/8
 ·subst e; rw[Y1,h]; simp
 ·exact AAb l W N m e
theorem ABy (l:List Int) (W N:Nat) (h:N%8=0):(WE l W N ((N+7)/8)).map byteC ++ [[.v (.int .u8 0)]]=(WE l W N (N/8+1)).map byteC:=by
 have e:(N+7)/8=N/8:=AOQ
 have e2:min 8 (N-8*(N/8))=0:=AOQ
 rw[e,WE,WE,List.range_succ,WU,WU]
 simp[pb,e2,Gg,Oa]
theorem uo (l:List Int) (w:Int) (hl:l.length≤1048576):∃ r:Bool,(r=true↔XF l w)∧Ctr prog 457 [.c (.sl (l.map intC)),.c (.v (.int .i64 (w)))] [.val (.c (.v (.bool (r))))]:=by
 haveI:Decidable (XF l w):=Classical.propDecidable _
 refine⟨decide (XF l w),AOR, ?_⟩
 refine CM call457 func457 ntmps457 results457 fun hw=>?_
 simp only[go_sem,ae]
 refine ABK 0 (A:=Nat) (fun x=>[(5,.c (.v (.int .i64 (x))))]) (fun _=>[]) (fun x=>x≤l.length∧∀ m (h:m<l.length),m<x→(0≤l[m]∧l[m]≤2147483647)∧Az l[m]≤w) (fun x=>l.length-x) 0 ⟨⟨rfl,rfl⟩,rfl,aA _,fun m h h2=>AOQ⟩ ?_
 rintro i ⟨hi,hb⟩
 refine AOK (fun h=>?_) fun h=>?_
 ·have hi':i<l.length:=by simpa using h
  simp only[go_sem,ae,AA _ hi']
  refine AAM _ (AO _ _ _) fun _=>?_
  rcases h1:Ad l[i] 0 2147483647 with _ | _
  ·simp only[go_sem,h1]
   have:¬ XF l w:=by
    rintro⟨_,q⟩
    have:=(q _ (ax hi')).1
    simp[Ad] at h1; omega
   simp only[this,abI]
  simp only[go_sem,h1,ae,AA _ hi']
  refine AAM _ (JI _) fun _=>?_
  rcases h2:decide (Az l[i]>w) with _ | _
  ·exact ALR
  ·simp only[go_sem,h1,h2]
   have:¬ XF l w:=by
    rintro⟨_,q⟩
    have:=(q _ (ax hi')).2
    simp at h2; omega
   simp only[this,abI]
 ·have hi':i=l.length:=by simp at h; omega
  subst hi'
  simp only[go_sem]
  refine AAM _ (AO _ _ _) fun _=>?_
  simp only[go_sem]
  have hall:∀ n∈l,(0≤n∧n≤2147483647)∧Az n≤w:=fun n hn=>by
   obtain⟨m,hm,rfl⟩:=aaC hn
   exact hb m hm hm
  congr 4
  rw[abz]
  simp only[aZ]
  constructor
  ·intro q; exact⟨by simp[Ad] at q; omega,hall⟩
  ·intro q; have:=q.1; simp[Ad]; omega
theorem eQ (l:List Int) (w:Int) (hl:l.length≤64):Ctr prog 437 [.c (.sl (l.map intC)),.c (.v (.int .i64 (w)))] [.own 5 1 ((En l w).map byteC) true]:=by
 refine CM call437 func437 ntmps437 results437 fun hw=>?_
 simp only[go_sem,ae]
 refine AAM _ (AL _ _ _) fun _=>?_
 rcases h1:Ad w 0 31 with _ | _
 ·have:¬ XF l w:=by rintro⟨q,_⟩; simp[Ad] at h1; omega
  simp only[go_sem,h1,OC this,di]
  try simp[BJ]
 have hw0:0≤w∧w≤31:=AO4
 obtain⟨W,rfl⟩:=aQ hw0.1
 simp only[go_sem,h1,ae]
 refine ABK 0 (A:=Nat) (fun x=>[(17,.c (.v (.int .i64 (x))))]) (fun _=>[]) (fun x=>x≤l.length∧∀ m (h:m<l.length),m<x→(0≤l[m]∧l[m]≤2147483647)∧Az l[m]≤W) (fun x=>l.length-x) 0 ⟨⟨rfl,rfl⟩,rfl,aA _,fun m h h2=>AOQ⟩ ?_
 rintro i ⟨hi,hb⟩
 refine AOK (fun h=>?_) fun h=>?_
 ·have hi':i<l.length:=by simpa using h
  simp only[go_sem,ae,AA _ hi']
  refine AAM _ (AL _ _ _) fun _=>?_
  rcases h1:Ad l[i] 0 2147483647 with _ | _
  ·simp only[go_sem,h1]
   have:¬ XF l W:=by
    rintro⟨_,q⟩
    have:=(q _ (ax hi')).1
    simp[Ad] at h1; omega
   rw[OC this]
   simp only[go_sem]
   try simp[BJ]
  simp only[go_sem,h1,ae,AA _ hi']
  refine AAM _ (LC _) fun _=>?_
  rcases h2:decide (Az l[i]>W) with _ | _
  ·exact ALR
  ·simp only[go_sem,h1,h2]
   have:¬ XF l W:=by
    rintro⟨_,q⟩
    have:=(q _ (ax hi')).2
    simp at h2; omega
   rw[OC this]
   simp only[go_sem]
   try simp[BJ]
 have hi':i=l.length:=AOc
 subst hi'
 have hfit:XF l W:=⟨hw0,fun n hn=>by
  obtain⟨m,hm,rfl⟩:=aaC hn
  exact hb m hm hm⟩
 have hLW:l.length*W≤64*31:=aa0 AOQ AOQ
 have eLW:(l.length:Int)*W=((l.length*W:Nat):Int):=AOR
 have e1:IntKind.i64.wrap ((l.length:Int)*W)=((l.length*W:Nat):Int):=by rw[wrap_i64 AOQ AOQ,eLW]
 have e2:IntKind.i64.wrap (((l.length*W:Nat):Int)+7)=((l.length*W+7:Nat):Int):=AOW
 obtain⟨c,hcd⟩:∃ c,c=(l.length*W+7)/8:=⟨_,rfl⟩
 have e3:IntKind.i64.wrap ((((l.length*W+7:Nat):Int)).tdiv 8)=(c:Int):=AOj
 have hf1:(0≤(c:Int))=True:=AOR
 have hf2:((c:Int)≤(c:Int))=True:=AOR
 have hf3:((c:Int)≤2147483648)=True:=AOS
 simp only[go_sem,ae,e1,e2,e3,hf1,hf2,hf3,AD7 l W]
 rw[X7 hfit,← hcd]
 refine ABK 1 (A:=Nat) (fun i=>[(40,.c (.v (.int .i64 (i))))]) (fun i=>[⟨5,1,(WE l W (i*W) c).map byteC,true,true⟩]) (fun i=>i≤l.length) (fun i=>l.length-i) 0 ⟨⟨rfl,all1 (AU (CQ _))⟩,by rw[Nat.zero_mul]; rfl,aA _⟩ ?_
 intro i hi
 refine AOK (fun h=>?_) fun h=>?_
 ·have hi':i<l.length:=by simpa using h
  have hli:=hb i hi' hi'
  simp only[go_sem,ae,AA _ hi']
  refine ABK 1 (A:=Nat) (fun k=>[(10,.c (.v (.int .i64 (k))))]) (fun k=>[⟨5,1,(WE l W (i*W+k) c).map byteC,true,true⟩]) (fun k=>k≤W) (fun k=>W-k) 0 ⟨⟨rfl,all1 (AU (CQ _))⟩,rfl,aA _⟩ ?_
  intro k hk
  refine AOK (fun h=>?_) fun h=>?_
  ·have hk':k<W:=by simp at h; omega
   have hN:i*W+k<l.length*W:=by
    have:(i+1)*W≤l.length*W:=aaE _ hi'
    rw[Zm] at this; omega
   have hNc:(i*W+k)/8<c:=AOQ
   have hiW:i*W≤64*31:=aa0 AOQ AOQ
   have eiW:(i:Int)*W=((i*W:Nat):Int):=AOR
   have q1:IntKind.i64.wrap ((i:Int)*W)=((i*W:Nat):Int):=by rw[wrap_i64 AOQ AOQ,eiW]
   have q2:IntKind.i64.wrap (((i*W:Nat):Int)+k)=((i*W+k:Nat):Int):=AOW
   have q3:IntKind.i64.wrap ((((i*W+k:Nat):Int)).tdiv 8)=(((i*W+k)/8:Nat):Int):=AOj
   have q4:IntKind.i64.wrap ((((i*W+k:Nat):Int)).tmod 8)=(((i*W+k)%8:Nat):Int):=AOt
   simp only[go_sem,ae,q1,q2,q3,q4,MQ,Po l W _ c hNc,hNc]
   refine ABH ?_
   simp only[go_sem,ae,q1,q2,q3,q4,MQ,Po l W _ c hNc,hNc]
   rw[AD8 hi' hk' AOQ hli.1.1 hli.1.2,oQ l W _ c hNc]
   simp only[wrap_i64 (n:=(k:Int)+1) AOQ AOQ]
   exact⟨k+1,⟨rfl,all1 (AU (CQ _))⟩,rfl,hk',AOQ⟩
  ·have hk':k=W:=by simp at h; omega
   subst hk'
   simp only[go_sem,wrap_i64 (n:=(i:Int)+1) AOQ AOQ]
   exact⟨i+1,⟨rfl,all1 (AU (CQ _))⟩,by rw[Zm,Nat.one_mul]; rfl,hi',AOQ⟩
 ·have hi':i=l.length:=by simp at h; omega
  subst hi'
  simp only[go_sem,CQ]
  try exact AII
theorem eU (l:List Int) (w:Int) (hl:l.length≤64):Ctr prog 429 [.c (.sl (l.map intC)),.c (.v (.int .i64 (w)))] [.own 5 1 ((En l w).map byteC) true]:=by
 refine CM call429 func429 ntmps429 results429 fun hw=>?_
 simp only[go_sem,ae]
 obtain⟨r,hr,hc⟩:=uo l w AOQ
 refine AAM _ hc fun _=>?_
 cases r with
 | false =>
  have:¬ XF l w:=fun q=>by have:=hr.2 q; cases this
  simp only[go_sem,OC this,di]
  try simp[BJ]
 | true =>
 have hfit:=hr.1 rfl
 simp only[go_sem,ae]
 obtain⟨W,rfl⟩:=aQ hfit.1.1
 have hW31:W≤31:=by have:=hfit.1.2; omega
 have hLW:l.length*W≤64*31:=aa0 AOQ AOQ
 rw[X7 hfit]
 refine ABZ [9] (A:=Nat) (fun i=>[(7,.c (.v (.int .i64 (i)))),(6,.c (.v (.int .i64 ((i*W:Nat):Int)))),(5,.c (.ref 0))]) (fun i=>[⟨5,1,(WE l W (i*W) ((i*W+7)/8)).map byteC,true,true⟩]) (fun i=>i≤l.length) (fun i=>l.length-i) 0 (ABJ [(0,false)] ⟨rfl,rfl,rfl,trivial⟩ (by rw[Nat.zero_mul]; rfl)) (aA _) ?_
 intro i hi
 refine AOK (fun h=>?_) fun h=>?_
 ·have hi':i<l.length:=by simp at h; omega
  have hli:=hfit.2 _ (ax hi')
  simp only[go_sem,ae]
  refine ABZ [] (A:=Nat) (fun k=>[(8,.c (.v (.int .i64 (k)))),(6,.c (.v (.int .i64 ((i*W+k:Nat):Int)))),(5,.c (.ref 0))]) (fun k=>[⟨5,1,(WE l W (i*W+k) ((i*W+k+7)/8)).map byteC,true,true⟩]) (fun k=>k≤W) (fun k=>W-k) 0 (ABJ [(0,false)] ⟨rfl,rfl,AY byteC.pure,trivial⟩ rfl) (aA _) ?_
  intro k hk
  refine AOK (fun h=>?_) fun h=>?_
  ·have hk':k<W:=by simp at h; omega
   have hN:i*W+k<l.length*W:=by
    have:(i+1)*W≤l.length*W:=aaE _ hi'
    rw[Zm] at this; omega
   have hbit:=eP (l:=l) hi' hk'
   generalize hNN:i*W+k=N at hN hbit
   have q3:IntKind.i64.wrap (((N:Nat):Int).tdiv 8)=((N/8:Nat):Int):=AOj
   have q4:IntKind.i64.wrap (((N:Nat):Int).tmod 8)=((N%8:Nat):Int):=AOt
   have q5:IntKind.i64.wrap ((N:Int)+1)=((N+1:Nat):Int):=AOW
   have q6:IntKind.i64.wrap ((k:Int)+1)=((k+1:Nat):Int):=AOW
   have hNc:N/8<N/8+1:=AOQ
   have hol2:(N+7)/8+1≤2147483648:=AOQ
   have hs1:=AGd (k:=k) hli.1.1 hli.1.2 AOQ
   rw[← hbit] at hs1
   have h01:=UN l (W:Int) N
   obtain⟨p1,p2⟩:=AHl (s:=N%8) AOQ
   have hsh:IntKind.u8.wrap (1*2 ^ min (N%8) 8)=1*2 ^ (N%8):=by rw[Zl AOQ,wrap_u8 AOQ AOQ]
   have hor:=AGe l W N (x:=1) AOQ AOQ
   rcases h8:((N%8:Nat):Int)==0 with _ | _<;>rcases h9:FK l (W:Int) N==1 with _ | _
   all_goals
    have hsn:N%8=0→(WE l W N ((N+7)/8)).map byteC ++ [[.v (.int .u8 0)]]=(WE l W N (N/8+1)).map byteC:=ABy l W N
   case false.false =>
    have e0:FK l (W:Int) N=0:=by simp at h9; omega
    have h8':N%8≠0:=by simp at h8; omega
    simp only[go_sem,ae,q3,q4,q5,q6,h8,h9,hs1,AA _ hi',MQ]
    have hr:WE l W (N+1) ((N+1+7)/8)=WE l W N ((N+7)/8):=by rw[um l W N _ e0,show (N+1+7)/8=(N+7)/8 from AOQ]
    exact⟨k+1,ABJ [(0,false)] ⟨rfl,rfl,AY byteC.pure,trivial⟩ (by rw[show i*W+(k+1)=N+1 from AOQ,hr]; rfl),hk',AOQ⟩
   case true.false =>
    have e0:FK l (W:Int) N=0:=by simp at h9; omega
    have h8':N%8=0:=by simp at h8; omega
    have hsn:=hsn h8'
    simp only[go_sem,ae,bi,bJ,q3,q4,q5,q6,h8,h9,hs1,hsn,hol2,aH,AA _ hi',MQ]
    have hr:WE l W (N+1) ((N+1+7)/8)=WE l W N (N/8+1):=by rw[um l W N _ e0,show (N+1+7)/8=N/8+1 from AOQ]
    exact⟨k+1,ABJ [(2,false)] ⟨rfl,rfl,AY byteC.pure,trivial⟩ (by rw[show i*W+(k+1)=N+1 from AOQ,hr]; rfl),hk',AOQ⟩
   case false.true =>
    have e1:FK l (W:Int) N=1:=by simpa using h9
    have h8':N%8≠0:=by simp at h8; omega
    have ec:(N+7)/8=N/8+1:=AOQ
    have hv:pb l W N (N/8)+1*2 ^ (N%8)=pb l W (N+1) (N/8):=by rw[Y1,e1]
    rw[hv] at hor
    have hset:=oQ l W N (N/8+1) hNc
    simp only[go_sem,ae,q3,q4,q5,q6,h8,h9,hs1,ec,hsh,hor,AA _ hi',MQ,Po l W N _ hNc,hNc]
    refine ABH ?_
    simp only[go_sem,ae,q3,q4,q5,q6,h8,h9,hs1,ec,hsh,hor,AA _ hi',MQ,Po l W N _ hNc,hNc,hset]
    exact⟨k+1,ABJ [(0,false)] ⟨rfl,rfl,AY byteC.pure,trivial⟩ (by rw[show i*W+(k+1)=N+1 from AOQ,show (N+1+7)/8=N/8+1 from AOQ]; rfl),hk',AOQ⟩
   case true.true =>
    have e1:FK l (W:Int) N=1:=by simpa using h9
    have h8':N%8=0:=by simp at h8; omega
    have hsn:=hsn h8'
    have hv:pb l W N (N/8)+1*2 ^ (N%8)=pb l W (N+1) (N/8):=by rw[Y1,e1]
    rw[hv] at hor
    have hset:=oQ l W N (N/8+1) hNc
    simp only[go_sem,ae,bi,bJ,q3,q4,q5,q6,h8,h9,hs1,hsn,hol2,aH,hsh,hor,AA _ hi',MQ,Po l W N _ hNc,hNc]
    refine ABH ?_
    simp only[go_sem,ae,q3,q4,q5,q6,h8,h9,hs1,hsn,hsh,hor,AA _ hi',MQ,Po l W N _ hNc,hNc,hset]
    exact⟨k+1,ABJ [(2,false)] ⟨rfl,rfl,AY byteC.pure,trivial⟩ (by rw[show i*W+(k+1)=N+1 from AOQ,show (N+1+7)/8=N/8+1 from AOQ]; rfl),hk',AOQ⟩
  ·have hk':k=W:=by simp at h; omega
   subst hk'
   simp only[go_sem,wrap_i64 (n:=(i:Int)+1) AOQ AOQ]
   exact⟨i+1,ABJ [(0,false)] ⟨rfl,rfl,AY byteC.pure,trivial⟩ (by rw[Zm,Nat.one_mul]; rfl),hi',AOQ⟩
 ·have hi':i=l.length:=by simp at h; omega
  subst hi'
  simp only[go_sem,CQ]
  try exact AII
end Go.Proofs.YtnoldekcdlaahaaGreat
