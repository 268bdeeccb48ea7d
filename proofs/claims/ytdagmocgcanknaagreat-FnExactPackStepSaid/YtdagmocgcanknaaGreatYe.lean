/- A part. -/
import Derived.Test.YtdagmocgcanknaaGreatYc
import Derived.Test.YtdagmocgcanknaaGreatYb
set_option linter.unusedSimpArgs false
set_option linter.unusedVariables false
set_option maxHeartbeats 2000000
set_option maxRecDepth 10000
open Go.Proofs.Tryz
namespace Go.Proofs.YtdagmocgcanknaaGreat
open Go.Vm
theorem all1 {p:Ob->Bool} {x:Ob} (h:p x=true) : [x].all p=true:=by simp[h]
def Zl:Option (List Int)->List Res
 | some l=>[.own 3 1 (l.map intC) true,.val (.c (.v (.bool (true))))]
 | none=>[.own 3 1 [] true,.val (.c (.v (.bool (false))))]
def qY (b:List Int) (W i:Nat):List Int:=(List.range i).map fun m:Nat=>N9 b ((m:Int)*W) W
theorem AAx (b:List Int) (W i:Nat):(qY b W i).length=i:=by simp[qY]
theorem fK (b:List Int) (n:Int):0<=FT b n/\FT b n<=1:=by unfold FT;grind
theorem fM (b:List Int) (o:Int):∀ j:Nat,0<=N9 b o j/\N9 b o j<2 ^ j
 | 0=>by simp[N9]
 | j+1=>by have h1:=fM b o j;have h2:=fK b (o+j);have hp:(0:Int)<2 ^ j:=Int.pow_pos AOl;have h3:0<=FT b (o+j)*2 ^ j:=aaY h2.1 AOl;have h4:FT b (o+j)*2 ^ j<=1*2 ^ j:=aah h2.2 AOl;rw[N9,abe]; omega
theorem WL (b:List Int) (w k:Int) (hb:Ai b) (hl:b.length<=1048576):Ctr prog 348 [.c (.sl (b.map byteC)),.c (.v (.int .i64 (w))),.c (.v (.int .i64 (k)))] (Zl (unpack b w k)):=by
 refine CM call348 func348 ntmps348 results348 fun hw=>?_;simp only[go_sem,aa];refine AAO _ (AL _ _ _) fun _=>?_;rcases h1:Ae w 0 31 with _ | _
 .exact AMU
 simp only[go_sem,h1];refine AAO _ (AL _ _ _) fun _=>?_;rcases h2:Ae k 0 64 with _ | _
 .exact AMO
 simp only[go_sem,h1,h2,aa];refine AAO _ (fF _ _) fun _=>?_;rcases h3:(b.length:Int) != F9 k w with _ | _;rotate_left
 .exact AMW
 have hlen:(b.length:Int)=F9 k w:=AO7;have hw0:0<=w/\w<=31:=AQM;have hk0:0<=k/\k<=64:=AQM;simp only[go_sem,h1,h2,h3,aa];obtain⟨W,rfl⟩:=aF hw0.1;obtain⟨K,rfl⟩:=aF hk0.1;have hKW:K*W<=64*31:=aaZ AOl AOl;have hlen8:b.length=(K*W+7)/8:=by exact ANl
 have hsucc:∀ i:Nat,(qY b W (i+1)).map intC=(qY b W i).map intC ++ [[.v (.int .i64 (N9 b ((i:Int)*W) W))]]:=fun i=>by rw[qY,List.range_succ,bl,bl]; rfl
 refine AAv [29] (A:=Nat) (fun i=>[(9,.c (.v (.int .i64 (i)))),(8,.c (.ref 0))]) (fun i=>[⟨3,1,(qY b W i).map intC,true,true⟩]) (fun i=>i<=K) (fun i=>K-i) 0 (AAS [(0,false)] ⟨rfl,rfl,rfl,trivial⟩ rfl) (aq _) ?_;intro i hi;refine AOe (fun h=>?_) fun h=>?_
 .have hi':i<K:=by simp at h; omega
  have hiW:i*W<=64*31:=aaZ AOl AOl;have eiW:(i:Int)*W=((i*W:Nat):Int):=AOm;have e1:IntKind.i64.wrap ((i:Int)*W)=((i:Int)*W):=wrap_i64 AOl AOl;simp only[go_sem];refine AAe 1 (A:=Nat) (fun j=>[(11,.c (.v (.int .i64 (j)))),(10,.c (.v (.int .i64 (N9 b ((i:Int)*W) j))))]) (fun _=>[⟨3,1,(qY b W i).map intC,true,true⟩]) (fun j=>j<=W) (fun j=>W-j) 0 ⟨⟨rfl,all1 (AX (AQ _))⟩,rfl,aq _⟩ ?_;intro j hj;simp only[go_sem,aa];refine AAQ (fun h2=>?_) (fun h2=>?_)
  .have hj':j<W:=by simp at h2; omega
   have e2:IntKind.i64.wrap ((i:Int)*W+j)=(i:Int)*W+j:=wrap_i64 AOl AOl;have h01:=fK b ((i:Int)*W+j);have hbd:=fM b ((i:Int)*W) j;have hp:(0:Int)<2 ^ j:=Int.pow_pos AOl;have hp2:(2:Int) ^ j<=2 ^ 31:=APw;have h3:0<=FT b ((i:Int)*W+j)*2 ^ j:=aaY h01.1 AOl;have h4:FT b ((i:Int)*W+j)*2 ^ j<=1*2 ^ j:=aah h01.2 AOl;have e3:IntKind.i64.wrap (FT b ((i:Int)*W+j)*2 ^ min j 64)=FT b ((i:Int)*W+j)*2 ^ j:=by rw[ZW AOl,wrap_i64 AOl AOl]
   have e4:IntKind.i64.wrap (orK .i64 (N9 b ((i:Int)*W) j) (FT b ((i:Int)*W+j)*2 ^ j))=N9 b ((i:Int)*W) (j+1):=by exact ANK
   simp only[go_sem,e1,e2];refine AAO _ (Yr b _ hb hl AOl) fun _=>?_;exact AMn
  .exact ALB
 .have hi':i=K:=by simp at h; omega
  subst hi';have ekw:(i:Int)*W=((i*W:Nat):Int):=AOm;have e1:IntKind.i64.wrap ((i:Int)*W)=((i*W:Nat):Int):=by rw[wrap_i64 AOl AOl,ekw]
  have e8:IntKind.i64.wrap (8*(b.length:Int))=((8*b.length:Nat):Int):=AOq;simp only[go_sem,e1];refine AAe 1 (A:=Nat) (fun n=>[(12,.c (.v (.int .i64 ((n:Int)))))]) (fun _=>[⟨3,1,(qY b W i).map intC,true,true⟩]) (fun n=>i*W<=n/\n<=8*b.length/\∀ m,i*W<=m->m<n->FT b (m:Int)=0) (fun n=>8*b.length-n) (i*W) ⟨⟨rfl,all1 (AX (AQ _))⟩,rfl,aG _,AOl,fun m h1 h2=>AOl⟩ ?_;rintro n ⟨hn1,hn2,hz⟩;simp only[go_sem,aa,e8];refine AAQ (fun h2=>?_) (fun h2=>?_)
  .have hn':n<8*b.length:=by simp at h2; omega
   simp only[go_sem];refine AAO _ (Yr b _ hb hl AOl) fun _=>?_;exact AKB
  .exact ALR
theorem WM (b:List Int) (w k:Int) (hb:Ai b) (hl:b.length<=1048576):Ctr prog 333 [.c (.sl (b.map byteC)),.c (.v (.int .i64 (w))),.c (.v (.int .i64 (k)))] (Zl (unpack b w k)):=by
 refine CM call333 func333 ntmps333 results333 fun hw=>?_;simp only[go_sem,aa];refine AAO _ (AP _ _ _) fun _=>?_;rcases h1:Ae k 0 64 with _ | _
 .exact AMU
 simp only[go_sem,h1];refine AAO _ (AP _ _ _) fun _=>?_;rcases h2:Ae w 0 31 with _ | _
 .exact AMO
 simp only[go_sem,h1,h2,aa];refine AAO _ (fG _ _) fun _=>?_;rcases h3:(b.length:Int) != F9 k w with _ | _;rotate_left
 .exact AMW
 have hlen:(b.length:Int)=F9 k w:=AO7;have hw0:0<=w/\w<=31:=AQM;have hk0:0<=k/\k<=64:=AQM;simp only[go_sem,h1,h2,h3,aa];obtain⟨W,rfl⟩:=aF hw0.1;obtain⟨K,rfl⟩:=aF hk0.1;have hKW:K*W<=64*31:=aaZ AOl AOl;have hlen8:b.length=(K*W+7)/8:=by exact ANl
 have hsucc:∀ i:Nat,(qY b W (i+1)).map intC=(qY b W i).map intC ++ [[.v (.int .i64 (N9 b ((i:Int)*W) W))]]:=fun i=>by rw[qY,List.range_succ,bl,bl]; rfl
 refine AAv [13] (A:=Nat) (fun i=>[(9,.c (.v (.int .i64 (i)))),(8,.c (.ref 0))]) (fun i=>[⟨3,1,(qY b W i).map intC,true,true⟩]) (fun i=>i<=K) (fun i=>K-i) 0 (AAS [(0,false)] ⟨rfl,rfl,rfl,trivial⟩ rfl) (aq _) ?_;intro i hi;refine AOe (fun h=>?_) fun h=>?_
 .have hi':i<K:=by simp at h; omega
  have hiW:i*W<=64*31:=aaZ AOl AOl;have eiW:(i:Int)*W=((i*W:Nat):Int):=AOm;have e1:IntKind.i64.wrap ((i:Int)*W)=((i:Int)*W):=wrap_i64 AOl AOl;simp only[go_sem];refine AAe 1 (A:=Nat) (fun j=>[(11,.c (.v (.int .i64 (j)))),(10,.c (.v (.int .i64 (N9 b ((i:Int)*W) j))))]) (fun _=>[⟨3,1,(qY b W i).map intC,true,true⟩]) (fun j=>j<=W) (fun j=>W-j) 0 ⟨⟨rfl,all1 (AX (AQ _))⟩,rfl,aq _⟩ ?_;intro j hj;simp only[go_sem,aa];refine AAQ (fun h2=>?_) (fun h2=>?_)
  .have hj':j<W:=by simp at h2; omega
   have e2:IntKind.i64.wrap ((i:Int)*W+j)=(i:Int)*W+j:=wrap_i64 AOl AOl;have h01:=fK b ((i:Int)*W+j);have hbd:=fM b ((i:Int)*W) j;have hp:(0:Int)<2 ^ j:=Int.pow_pos AOl;have hp2:(2:Int) ^ j<=2 ^ 31:=APw;have h3:0<=FT b ((i:Int)*W+j)*2 ^ j:=aaY h01.1 AOl;have h4:FT b ((i:Int)*W+j)*2 ^ j<=1*2 ^ j:=aah h01.2 AOl;have e3:IntKind.i64.wrap (FT b ((i:Int)*W+j)*2 ^ min j 64)=FT b ((i:Int)*W+j)*2 ^ j:=by rw[ZW AOl,wrap_i64 AOl AOl]
   have e4:IntKind.i64.wrap (orK .i64 (N9 b ((i:Int)*W) j) (FT b ((i:Int)*W+j)*2 ^ j))=N9 b ((i:Int)*W) (j+1):=by exact ANK
   simp only[go_sem,e1,e2];refine AAO _ (Yt b _ hb hl AOl) fun _=>?_;exact AMn
  .exact ALB
 .have hi':i=K:=by simp at h; omega
  subst hi';have ekw:(i:Int)*W=((i*W:Nat):Int):=AOm;have e1:IntKind.i64.wrap ((i:Int)*W)=((i*W:Nat):Int):=by rw[wrap_i64 AOl AOl,ekw]
  have e8:IntKind.i64.wrap (8*(b.length:Int))=((8*b.length:Nat):Int):=AOq;simp only[go_sem,e1];refine AAe 1 (A:=Nat) (fun n=>[(12,.c (.v (.int .i64 ((n:Int)))))]) (fun _=>[⟨3,1,(qY b W i).map intC,true,true⟩]) (fun n=>i*W<=n/\n<=8*b.length/\∀ m,i*W<=m->m<n->FT b (m:Int)=0) (fun n=>8*b.length-n) (i*W) ⟨⟨rfl,all1 (AX (AQ _))⟩,rfl,aG _,AOl,fun m h1 h2=>AOl⟩ ?_;rintro n ⟨hn1,hn2,hz⟩;simp only[go_sem,aa,e8];refine AAQ (fun h2=>?_) (fun h2=>?_)
  .have hn':n<8*b.length:=by simp at h2; omega
   simp only[go_sem];refine AAO _ (Yt b _ hb hl AOl) fun _=>?_;exact AKB
  .exact ALR
def X0 (l:List Int) (w:Int):Prop:=(0<=w/\w<=31)/\∀ n∈l,(0<=n/\n<=2147483647)/\BA n<=w
def pb (l:List Int) (W N m:Nat):Int:=Gv l (W:Int) m (min 8 (N-8*m))
def XB (l:List Int) (W N c:Nat):List Int:=(List.range c).map fun m=>pb l W N m
theorem NM (l:List Int) (W N c:Nat):(XB l W N c).length=c:=by simp[XB]
theorem Uy (l:List Int) (w:Int) (n:Nat):0<=FN l w n/\FN l w n<=1:=by unfold FN;split<;>omega
theorem Yu (l:List Int) (w:Int) (m:Nat):∀ t:Nat,0<=Gv l w m t/\Gv l w m t<2 ^ t
 | 0=>by simp[Gv]
 | t+1=>by have h1:=Yu l w m t;have h2:=Uy l w (8*m+t);have hp:(0:Int)<2 ^ t:=Int.pow_pos AOl;have h3:0<=FN l w (8*m+t)*2 ^ t:=aaY h2.1 AOl;have h4:FN l w (8*m+t)*2 ^ t<=1*2 ^ t:=aah h2.2 AOl;rw[Gv,abe]; omega
theorem ve {l:List Int} {W n:Nat} (h:l.length*W<=n) (hW:0<W):FN l (W:Int) n=0:=by unfold FN;rw[aZ,jq];exact(Nat.le_div_iff_mul_le hW).2 h
theorem WN {l:List Int} {W m:Nat} (hW:0<W):∀ t s:Nat,l.length*W<=8*m+t->Gv l (W:Int) m (t+s)=Gv l (W:Int) m t
 | t,0,_=>rfl
 | t,s+1,h=>by rw[show t+(s+1)=(t+s)+1 from AOl,Gv,ve AOl hW,WN hW t s h]; simp
theorem AHj {l:List Int} {W m:Nat} (hW:0<W):pb l W (l.length*W) m=Gv l (W:Int) m 8:=by
 unfold pb;rcases bh (l.length*W-8*m) 8 with h | h
 .rw[Nat.min_eq_right AOl];have:=WN (l:=l) (m:=m) hW (l.length*W-8*m) (8-(l.length*W-8*m)) AOl;rw[<- this]; congr 1; omega
 .rw[ZW h]
theorem Yv {l:List Int} {W:Nat} (h:X0 l W):Es l W=XB l W (l.length*W) ((l.length*W+7)/8):=by
 unfold Es XB;unfold X0 at h;rw[aV h,aZ];refine aaP fun m hm=>?_;have hm':=abj.1 hm;rcases abo W with rfl | hW
 .omega
 .exact(AHj hW).symm
theorem Ot {l:List Int} {w:Int} (h:¬ X0 l w):Es l w = []:=by unfold Es;exact aR h
theorem fO {l:List Int} {W i k:Nat} (hi:i<l.length) (hk:k<W):FN l (W:Int) (i*W+k)=l[i]/2 ^ k%2:=by
 unfold FN;have e1:(i*W+k)/W=i:=by rw[Nat.mul_comm,Nat.mul_add_div AOl,Nat.div_eq_of_lt hk]; rfl
 have e2:(i*W+k)%W=k:=by rw[Nat.mul_comm,Nat.mul_add_mod,abG hk]
 rw[aZ,e1,e2,am hi]
theorem Zm (l:List Int) (W N:Nat):pb l W (N+1) (N/8)=pb l W N (N/8)+FN l (W:Int) N*2 ^ (N%8):=by unfold pb;have e1:min 8 (N+1-8*(N/8))=N%8+1:=AOl;have e2:min 8 (N-8*(N/8))=N%8:=AOl;rw[e1,e2,Gv];have e3:8*(N/8)+N%8=N:=AOl;rw[e3]
theorem AAy (l:List Int) (W N m:Nat) (h:m≠N/8):pb l W (N+1) m=pb l W N m:=by unfold pb;have e1:min 8 (N+1-8*m)=min 8 (N-8*m):=AOl;rw[e1]
theorem AJt (l:List Int) (W N:Nat):0<=pb l W N (N/8)/\pb l W N (N/8)<2 ^ (N%8):=by unfold pb;have e2:min 8 (N-8*(N/8))=N%8:=AOl;rw[e2];exact Yu _ _ _ _
theorem pV (l:List Int) (W N c:Nat) (h:N/8<c):((XB l W N c).map byteC).set (N/8) [.v (.int .u8 (pb l W (N+1) (N/8)))]=(XB l W (N+1) c).map byteC:=by
 apply abl;intro m;rw[wu];by_cases e:N/8=m
 .subst e;simp[XB,h,PI]
 .simp only[aR e];simp only[XB,List.map_map,nX];cases hm:(List.range c)[m]? with
  | none=>rfl
  | some x =>
   have hx:x=m:=by
    rw[List.getElem?_range] at hm
    .simpa using hm.symm
    .have:=(az.1 hm).1;simpa using this
   subst hx
   simp only[bi,Function.comp,AAy l W N x (fun h=>e h.symm)]
theorem QZ (l:List Int) (W N c:Nat) {m:Nat} (h:m<c):((XB l W N c).map byteC)[m]?=some [.v (.int .u8 (pb l W N m))]:=by simp[XB,h,PI]
theorem AEK (l:List Int) (W c:Nat):List.replicate c [.v (.int .u8 0)]=(XB l W 0 c).map byteC:=by
 apply abl;intro m;by_cases h:m<c
 .rw[QZ l W 0 c h,abh,aV h]; simp[pb,Gv]
 .rw[jq AOn,jq (by simp[NM]; omega)]
theorem AGh {x:Int} {k:Nat} (h0:0<=x) (h1:x<=2147483647) (hk:k<=31):IntKind.i64.wrap (dF .i64 (IntKind.i64.wrap (x.fdiv (2 ^ min k 64))) 1)=x/2 ^ k%2:=by have hP:0<=x/2 ^ k:=Int.ediv_nonneg h0 (aaU AOl);have hP2:x/2 ^ k<=x:=Int.ediv_le_self _ h0;rw[aaO _ (aaU AOl),ZW AOl,wrap_i64 (n:=x/2 ^ k) AOl AOl,AGg hP AOl,wrap_i64 AOl AOl]
theorem AHk {s:Nat} (h:s<=7):(1:Int)<=2 ^ s/\(2:Int) ^ s<=128:=by have:s=0\/s=1\/s=2\/s=3\/s=4\/s=5\/s=6\/s=7:=AOl;rcases this with rfl | rfl | rfl | rfl | rfl | rfl | rfl | rfl<;>decide
theorem AGi (l:List Int) (W N:Nat) {x:Int} (h0:0<=x) (h1:x<=1):IntKind.u8.wrap (orK .u8 (pb l W N (N/8)) (x*2 ^ (N%8)))=pb l W N (N/8)+x*2 ^ (N%8):=by have hb:=AJt l W N;obtain⟨p1,p2⟩:=AHk (s:=N%8) AOl;have h3:0<=x*2 ^ (N%8):=aaY h0 AOl;have h4:x*2 ^ (N%8)<=1*2 ^ (N%8):=aah h1 AOl;rw[fE .u8 hb.1 hb.2 h0 (by simp[IntKind.bits]; omega),wrap_u8 AOl AOl]
theorem AEL {l:List Int} {W i k:Nat} (hi:i<l.length) (hk:k<W) (hW:W<=31) (h0:0<=l[i]) (h1:l[i]<=2147483647) :
  IntKind.u8.wrap (orK .u8 (pb l W (i*W+k) ((i*W+k)/8)) (IntKind.u8.wrap (IntKind.i64.wrap (IntKind.i64.wrap (dF .i64 (IntKind.i64.wrap (l[i].fdiv (2 ^ min k 64))) 1)*2 ^ min ((i*W+k)%8) 64))))=pb l W (i*W+k+1) ((i*W+k)/8):=by
 have hbit:=fO (l:=l) hi hk
 have h01:=Uy l (W:Int) (i*W+k)
 obtain⟨p1,p2⟩:=AHk (s:=(i*W+k)%8) AOl
 have h3:0<=FN l (W:Int) (i*W+k)*2 ^ ((i*W+k)%8):=aaY h01.1 AOl
 have h4:FN l (W:Int) (i*W+k)*2 ^ ((i*W+k)%8)<=1*2 ^ ((i*W+k)%8):=aah h01.2 AOl
 rw[AGh h0 h1 AOl,<- hbit,ZW AOl,wrap_i64 AOl AOl,wrap_u8 (n:=FN l (W:Int) (i*W+k)*2 ^ ((i*W+k)%8)) AOl AOl,AGi l W _ h01.1 h01.2,Zm]
theorem vg (l:List Int) (W N c:Nat) (h:FN l (W:Int) N=0):XB l W (N+1) c=XB l W N c:=by
 unfold XB;refine aaP fun m _=>?_;by_cases e:m=N/8
 .subst e; rw[Zm,h]; simp
 .exact AAy l W N m e
theorem ACM (l:List Int) (W N:Nat) (h:N%8=0):(XB l W N ((N+7)/8)).map byteC ++ [[.v (.int .u8 0)]]=(XB l W N (N/8+1)).map byteC:=by have e:(N+7)/8=N/8:=AOl;have e2:min 8 (N-8*(N/8))=0:=AOl;rw[e,XB,XB,List.range_succ,bl,bl];simp[pb,e2,Gv,PI]
theorem vk (l:List Int) (w:Int) (hl:l.length<=1048576):∃ r:Bool,(r=true↔X0 l w)/\Ctr prog 364 [.c (.sl (l.map intC)),.c (.v (.int .i64 (w)))] [.val (.c (.v (.bool (r))))]:=by
 haveI:Decidable (X0 l w):=Classical.propDecidable _;refine⟨decide (X0 l w),AOm, ?_⟩;refine CM call364 func364 ntmps364 results364 fun hw=>?_;simp only[go_sem,aa];refine AAe 0 (A:=Nat) (fun x=>[(5,.c (.v (.int .i64 (x))))]) (fun _=>[]) (fun x=>x<=l.length/\∀ m (h:m<l.length),m<x->(0<=l[m]/\l[m]<=2147483647)/\BA l[m]<=w) (fun x=>l.length-x) 0 ⟨⟨rfl,rfl⟩,rfl,aq _,fun m h h2=>AOl⟩ ?_;rintro i ⟨hi,hb⟩;refine AOe (fun h=>?_) fun h=>?_
 .have hi':i<l.length:=by simpa using h
  simp only[go_sem,aa,AA _ hi'];refine AAO _ (AP _ _ _) fun _=>?_;rcases h1:Ae l[i] 0 2147483647 with _ | _
  .simp only[go_sem,h1];have:¬ X0 l w:=by rintro⟨_,q⟩;have:=(q _ (an hi')).1;simp[Ae] at h1; omega
   simp only[this,abJ]
  simp only[go_sem,h1,aa,AA _ hi'];refine AAO _ (Jd _) fun _=>?_;rcases h2:decide (BA l[i]>w) with _ | _
  .exact ALV
  .simp only[go_sem,h1,h2];have:¬ X0 l w:=by rintro⟨_,q⟩;have:=(q _ (an hi')).2;simp at h2; omega
   simp only[this,abJ]
 .have hi':i=l.length:=by simp at h; omega
  subst hi';simp only[go_sem];refine AAO _ (AP _ _ _) fun _=>?_;simp only[go_sem];have hall:∀ n∈l,(0<=n/\n<=2147483647)/\BA n<=w:=fun n hn=>by obtain⟨m,hm,rfl⟩:=aaE hn;exact hb m hm hm
  congr 4;rw[Bool.eq_iff_iff];simp only[aQ];constructor
  .intro q; exact⟨by simp[Ae] at q; omega,hall⟩
  .intro q; have:=q.1; simp[Ae]; omega
theorem fP (l:List Int) (w:Int) (hl:l.length<=64):Ctr prog 356 [.c (.sl (l.map intC)),.c (.v (.int .i64 (w)))] [.own 5 1 ((Es l w).map byteC) true]:=by
 refine CM call356 func356 ntmps356 results356 fun hw=>?_;simp only[go_sem,aa];refine AAO _ (AL _ _ _) fun _=>?_;rcases h1:Ae w 0 31 with _ | _
 .have:¬ X0 l w:=by rintro⟨q,_⟩; simp[Ae] at h1; omega
  simp only[go_sem,h1,Ot this,ap];try simp[DR]
 have hw0:0<=w/\w<=31:=APU;obtain⟨W,rfl⟩:=aF hw0.1;simp only[go_sem,h1,aa];refine AAe 0 (A:=Nat) (fun x=>[(17,.c (.v (.int .i64 (x))))]) (fun _=>[]) (fun x=>x<=l.length/\∀ m (h:m<l.length),m<x->(0<=l[m]/\l[m]<=2147483647)/\BA l[m]<=W) (fun x=>l.length-x) 0 ⟨⟨rfl,rfl⟩,rfl,aq _,fun m h h2=>AOl⟩ ?_;rintro i ⟨hi,hb⟩;refine AOe (fun h=>?_) fun h=>?_
 .have hi':i<l.length:=by simpa using h
  simp only[go_sem,aa,AA _ hi'];refine AAO _ (AL _ _ _) fun _=>?_;rcases h1:Ae l[i] 0 2147483647 with _ | _
  .simp only[go_sem,h1];have:¬ X0 l W:=by rintro⟨_,q⟩;have:=(q _ (an hi')).1;simp[Ae] at h1; omega
   rw[Ot this];simp only[go_sem];try simp[DR]
  simp only[go_sem,h1,aa,AA _ hi'];refine AAO _ (Lr _) fun _=>?_;rcases h2:decide (BA l[i]>W) with _ | _
  .exact ALV
  .simp only[go_sem,h1,h2];have:¬ X0 l W:=by rintro⟨_,q⟩;have:=(q _ (an hi')).2;simp at h2; omega
   rw[Ot this];simp only[go_sem];try simp[DR]
 have hi':i=l.length:=AO1;subst hi'
 have hfit:X0 l W:=⟨hw0,fun n hn=>by
  obtain⟨m,hm,rfl⟩:=aaE hn;exact hb m hm hm⟩
 have hLW:l.length*W<=64*31:=aaZ AOl AOl;have eLW:(l.length:Int)*W=((l.length*W:Nat):Int):=AOm;have e1:IntKind.i64.wrap ((l.length:Int)*W)=((l.length*W:Nat):Int):=by rw[wrap_i64 AOl AOl,eLW]
 have e2:IntKind.i64.wrap (((l.length*W:Nat):Int)+7)=((l.length*W+7:Nat):Int):=AOq;obtain⟨c,hcd⟩:∃ c,c=(l.length*W+7)/8:=⟨_,rfl⟩;have e3:IntKind.i64.wrap ((((l.length*W+7:Nat):Int)).tdiv 8)=(c:Int):=AO6;have hf1:(0<=(c:Int))=True:=AOm;have hf2:((c:Int)<=(c:Int))=True:=AOm;have hf3:((c:Int)<=2147483648)=True:=AOn;simp only[go_sem,aa,e1,e2,e3,hf1,hf2,hf3,AEK l W];rw[Yv hfit,<- hcd];refine AAe 1 (A:=Nat) (fun i=>[(40,.c (.v (.int .i64 (i))))]) (fun i=>[⟨5,1,(XB l W (i*W) c).map byteC,true,true⟩]) (fun i=>i<=l.length) (fun i=>l.length-i) 0 ⟨⟨rfl,all1 (AX (CQ _))⟩,by rw[Nat.zero_mul]; rfl,aq _⟩ ?_;intro i hi;refine AOe (fun h=>?_) fun h=>?_
 .have hi':i<l.length:=by simpa using h
  have hli:=hb i hi' hi';simp only[go_sem,aa,AA _ hi'];refine AAe 1 (A:=Nat) (fun k=>[(10,.c (.v (.int .i64 (k))))]) (fun k=>[⟨5,1,(XB l W (i*W+k) c).map byteC,true,true⟩]) (fun k=>k<=W) (fun k=>W-k) 0 ⟨⟨rfl,all1 (AX (CQ _))⟩,rfl,aq _⟩ ?_;intro k hk;refine AOe (fun h=>?_) fun h=>?_
  .have hk':k<W:=by simp at h; omega
   have hN:i*W+k<l.length*W:=by have:(i+1)*W<=l.length*W:=aaF _ hi';rw[dE] at this; omega
   have hNc:(i*W+k)/8<c:=AOl;have hiW:i*W<=64*31:=aaZ AOl AOl;have eiW:(i:Int)*W=((i*W:Nat):Int):=AOm;have q1:IntKind.i64.wrap ((i:Int)*W)=((i*W:Nat):Int):=by rw[wrap_i64 AOl AOl,eiW]
   have q2:IntKind.i64.wrap (((i*W:Nat):Int)+k)=((i*W+k:Nat):Int):=AOq;have q3:IntKind.i64.wrap ((((i*W+k:Nat):Int)).tdiv 8)=(((i*W+k)/8:Nat):Int):=AO6;have q4:IntKind.i64.wrap ((((i*W+k:Nat):Int)).tmod 8)=(((i*W+k)%8:Nat):Int):=APH;simp only[go_sem,aa,q1,q2,q3,q4,NM,QZ l W _ c hNc,hNc];refine AAR ?_;simp only[go_sem,aa,q1,q2,q3,q4,NM,QZ l W _ c hNc,hNc];rw[AEL hi' hk' AOl hli.1.1 hli.1.2,pV l W _ c hNc];simp only[wrap_i64 (n:=(k:Int)+1) AOl AOl];exact⟨k+1,⟨rfl,all1 (AX (CQ _))⟩,rfl,hk',AOl⟩
  .have hk':k=W:=by simp at h; omega
   subst hk';simp only[go_sem,wrap_i64 (n:=(i:Int)+1) AOl AOl];exact⟨i+1,⟨rfl,all1 (AX (CQ _))⟩,by rw[dE,Nat.one_mul]; rfl,hi',AOl⟩
 .have hi':i=l.length:=by simp at h; omega
  subst hi';simp only[go_sem,CQ];try exact AIG
theorem fQ (l:List Int) (w:Int) (hl:l.length<=64):Ctr prog 341 [.c (.sl (l.map intC)),.c (.v (.int .i64 (w)))] [.own 5 1 ((Es l w).map byteC) true]:=by
 refine CM call341 func341 ntmps341 results341 fun hw=>?_;simp only[go_sem,aa];obtain⟨r,hr,hc⟩:=vk l w AOl;refine AAO _ hc fun _=>?_;cases r with
 | false =>
  have:¬ X0 l w:=fun q=>by have:=hr.2 q; cases this
  simp only[go_sem,Ot this,ap]
  try simp[DR]
 | true =>
 have hfit:=hr.1 rfl;simp only[go_sem,aa];obtain⟨W,rfl⟩:=aF hfit.1.1;have hW31:W<=31:=by have:=hfit.1.2; omega
 have hLW:l.length*W<=64*31:=aaZ AOl AOl;rw[Yv hfit];refine AAv [9] (A:=Nat) (fun i=>[(7,.c (.v (.int .i64 (i)))),(6,.c (.v (.int .i64 ((i*W:Nat):Int)))),(5,.c (.ref 0))]) (fun i=>[⟨5,1,(XB l W (i*W) ((i*W+7)/8)).map byteC,true,true⟩]) (fun i=>i<=l.length) (fun i=>l.length-i) 0 (AAS [(0,false)] ⟨rfl,rfl,rfl,trivial⟩ (by rw[Nat.zero_mul]; rfl)) (aq _) ?_;intro i hi;refine AOe (fun h=>?_) fun h=>?_
 .have hi':i<l.length:=by simp at h; omega
  have hli:=hfit.2 _ (an hi');simp only[go_sem,aa];refine AAv [] (A:=Nat) (fun k=>[(8,.c (.v (.int .i64 (k)))),(6,.c (.v (.int .i64 ((i*W+k:Nat):Int)))),(5,.c (.ref 0))]) (fun k=>[⟨5,1,(XB l W (i*W+k) ((i*W+k+7)/8)).map byteC,true,true⟩]) (fun k=>k<=W) (fun k=>W-k) 0 (AAS [(0,false)] ⟨rfl,rfl,AY byteC.pure,trivial⟩ rfl) (aq _) ?_;intro k hk;refine AOe (fun h=>?_) fun h=>?_
  .have hk':k<W:=by simp at h; omega
   have hN:i*W+k<l.length*W:=by have:(i+1)*W<=l.length*W:=aaF _ hi';rw[dE] at this; omega
   have hbit:=fO (l:=l) hi' hk';generalize hNN:i*W+k=N at hN hbit;have q3:IntKind.i64.wrap (((N:Nat):Int).tdiv 8)=((N/8:Nat):Int):=AO6;have q4:IntKind.i64.wrap (((N:Nat):Int).tmod 8)=((N%8:Nat):Int):=APH;have q5:IntKind.i64.wrap ((N:Int)+1)=((N+1:Nat):Int):=AOq;have q6:IntKind.i64.wrap ((k:Int)+1)=((k+1:Nat):Int):=AOq;have hNc:N/8<N/8+1:=AOl;have hol2:(N+7)/8+1<=2147483648:=AOl;have hs1:=AGh (k:=k) hli.1.1 hli.1.2 AOl;rw[<- hbit] at hs1;have h01:=Uy l (W:Int) N;obtain⟨p1,p2⟩:=AHk (s:=N%8) AOl;have hsh:IntKind.u8.wrap (1*2 ^ min (N%8) 8)=1*2 ^ (N%8):=by rw[ZW AOl,wrap_u8 AOl AOl]
   have hor:=AGi l W N (x:=1) AOl AOl;rcases h8:((N%8:Nat):Int)==0 with _ | _<;>rcases h9:FN l (W:Int) N==1 with _ | _
   all_goals
    have hsn:N%8=0->(XB l W N ((N+7)/8)).map byteC ++ [[.v (.int .u8 0)]]=(XB l W N (N/8+1)).map byteC:=ACM l W N
   case false.false =>
    have e0:FN l (W:Int) N=0:=by simp at h9; omega
    have h8':N%8≠0:=by simp at h8; omega
    simp only[go_sem,aa,q3,q4,q5,q6,h8,h9,hs1,AA _ hi',NM]
    have hr:XB l W (N+1) ((N+1+7)/8)=XB l W N ((N+7)/8):=by rw[vg l W N _ e0,show (N+1+7)/8=(N+7)/8 from AOl]
    exact⟨k+1,AAS [(0,false)] ⟨rfl,rfl,AY byteC.pure,trivial⟩ (by rw[show i*W+(k+1)=N+1 from AOl,hr]; rfl),hk',AOl⟩
   case true.false =>
    have e0:FN l (W:Int) N=0:=by simp at h9; omega
    have h8':N%8=0:=by simp at h8; omega
    have hsn:=hsn h8'
    simp only[go_sem,aa,aI,aM,q3,q4,q5,q6,h8,h9,hs1,hsn,hol2,au,AA _ hi',NM]
    have hr:XB l W (N+1) ((N+1+7)/8)=XB l W N (N/8+1):=by rw[vg l W N _ e0,show (N+1+7)/8=N/8+1 from AOl]
    exact⟨k+1,AAS [(2,false)] ⟨rfl,rfl,AY byteC.pure,trivial⟩ (by rw[show i*W+(k+1)=N+1 from AOl,hr]; rfl),hk',AOl⟩
   case false.true =>
    have e1:FN l (W:Int) N=1:=by simpa using h9
    have h8':N%8≠0:=by simp at h8; omega
    have ec:(N+7)/8=N/8+1:=AOl
    have hv:pb l W N (N/8)+1*2 ^ (N%8)=pb l W (N+1) (N/8):=by rw[Zm,e1]
    rw[hv] at hor
    have hset:=pV l W N (N/8+1) hNc
    simp only[go_sem,aa,q3,q4,q5,q6,h8,h9,hs1,ec,hsh,hor,AA _ hi',NM,QZ l W N _ hNc,hNc]
    refine AAR ?_
    simp only[go_sem,aa,q3,q4,q5,q6,h8,h9,hs1,ec,hsh,hor,AA _ hi',NM,QZ l W N _ hNc,hNc,hset]
    exact⟨k+1,AAS [(0,false)] ⟨rfl,rfl,AY byteC.pure,trivial⟩ (by rw[show i*W+(k+1)=N+1 from AOl,show (N+1+7)/8=N/8+1 from AOl]; rfl),hk',AOl⟩
   case true.true =>
    have e1:FN l (W:Int) N=1:=by simpa using h9
    have h8':N%8=0:=by simp at h8; omega
    have hsn:=hsn h8'
    have hv:pb l W N (N/8)+1*2 ^ (N%8)=pb l W (N+1) (N/8):=by rw[Zm,e1]
    rw[hv] at hor
    have hset:=pV l W N (N/8+1) hNc
    simp only[go_sem,aa,aI,aM,q3,q4,q5,q6,h8,h9,hs1,hsn,hol2,au,hsh,hor,AA _ hi',NM,QZ l W N _ hNc,hNc]
    refine AAR ?_
    simp only[go_sem,aa,q3,q4,q5,q6,h8,h9,hs1,hsn,hsh,hor,AA _ hi',NM,QZ l W N _ hNc,hNc,hset]
    exact⟨k+1,AAS [(2,false)] ⟨rfl,rfl,AY byteC.pure,trivial⟩ (by rw[show i*W+(k+1)=N+1 from AOl,show (N+1+7)/8=N/8+1 from AOl]; rfl),hk',AOl⟩
  .have hk':k=W:=by simp at h; omega
   subst hk';simp only[go_sem,wrap_i64 (n:=(i:Int)+1) AOl AOl];exact⟨i+1,AAS [(0,false)] ⟨rfl,rfl,AY byteC.pure,trivial⟩ (by rw[dE,Nat.one_mul]; rfl),hi',AOl⟩
 .have hi':i=l.length:=by simp at h; omega
  subst hi';simp only[go_sem,CQ];try exact AIG
