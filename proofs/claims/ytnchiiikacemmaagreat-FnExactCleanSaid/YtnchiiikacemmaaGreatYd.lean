/- A part. -/
import Derived.Test.YtnchiiikacemmaaGreatYa
import Derived.Test.YtnchiiikacemmaaGreatWd
set_option linter.unusedSimpArgs false
set_option linter.unusedVariables false
set_option maxHeartbeats 2000000
set_option maxRecDepth 10000
open Go.Proofs.Tryz
namespace Go.Proofs.YtnchiiikacemmaaGreat
open Go.Vm
theorem FM (out:List Int) (c:Int):(out ++ [c]).map intC=out.map intC ++ [[.v (.int .i64 c)]]:=by simp[wF]
theorem AFJ:FT []=true:=rfl
theorem VE (n:Int):CQ (intC n)=true:=rfl
def XA:Option (List Int×Nat)→List Res
 | some (l,q)=>[.own 3 1 (l.map intC) true,.val (.c (.v (.int .i64 ((q:Int))))),.val (.c (.v (.bool (true))))]
 | none=>[.own 3 1 [] true,.val (.c (.v (.int .i64 (0)))),.val (.c (.v (.bool (false))))]
theorem Z4 (b:List Int) (p:Int) (hb:AQ b) (hl:b.length≤1048576):Ctr prog 238 [.c (.sl (b.map byteC)),.c (.v (.int .i64 (p)))] (XA (EY b p)):=by
 refine CM call238 func238 ntmps238 results238 fun hw=>?_
 simp only[go_sem]
 have hg:=FI b p hb hl
 rcases h1:BK b p with _ | ⟨k,q⟩<;>rw[h1] at hg<;>simp only[UH] at hg
 ·refine CallK.mk _ hg fun _=>?_
  simp only[go_sem,EY,h1,XA]
  try simp[FT]
 refine CallK.mk _ hg fun _=>?_
 simp only[go_sem]
 refine CallK.mk _ (AC _ _ _) fun _=>?_
 rcases h2:Ac k 0 64 with _ | _
 ·have:¬ (0≤k∧k≤64):=by simp[Ac] at h2; omega
  simp only[go_sem,EY,h1,XA,this]
  try simp[FT]
 have hk:0≤k∧k≤64:=by simp[Ac] at h2; omega
 obtain⟨K,rfl⟩:=aP hk.1
 have hall:EY b p=G7 b K q:=by simp only[EY,h1,aX hk,bV]
 simp only[go_sem]
 refine LoopH.mk [28] (A:=Nat×Nat×List Int) (fun x=>[(10,.c (.v (.int .i64 (x.1)))),(9,.c (.ref 0)),(1,.c (.v (.int .i64 ((x.2.1:Int)))))]) (fun x=>[⟨3,1,x.2.2.map intC,true,true⟩]) (fun x=>x.1≤K∧x.2.2.length=x.1∧(G7 b (K-x.1) x.2.1).map (fun y=>(x.2.2++y.1,y.2))=EY b p) (fun x=>K-x.1) (0,q,[]) (Head.sel [(0,false)] ⟨rfl,rfl,rfl,trivial⟩ rfl) ⟨ak _,rfl,by rw[hall]; simp⟩ ?_
 rintro⟨i,q',l⟩ ⟨hi,hll,hb2⟩
 dsimp only at hi hll hb2
 simp only[go_sem]
 refine cndC.mk (fun h=>?_) (fun h=>?_)
 ·have hi':i<K:=by simp at h; omega
  rw[show K-i=(K-(i+1))+1 by omega,G7] at hb2
  have hg2:=FI b q' hb hl
  simp only[go_sem]
  rcases h3:BK b q' with _ | ⟨n,q2⟩<;>rw[h3] at hg2 hb2<;>simp only[UH] at hg2
  ·refine CallK.mk _ hg2 fun _=>?_
   simp only[dm] at hb2
   rw[← hb2]
   simp only[go_sem,XA]
   try simp[FT]
  ·refine CallK.mk _ hg2 fun _=>?_
   have hl2:l.length+1≤2147483648:=by omega
   simp only[go_sem,ae,bK,Oo,hl2,aS,wrap_i64 (n:=(i:Int)+1) (by omega) (by omega)]
   exact⟨(i+1,q2,l ++ [n]),Head.sel [(2,false)] ⟨rfl,rfl,by rw[← FM]; exact AO VE,trivial⟩ (by rw[← FM]; rfl),⟨hi',by simp; omega,by rw[← hb2,zI]; congr 1; funext y; simp⟩,by simp only; omega⟩
 ·have hi':i=K:=by simp at h; omega
  subst hi'
  rw[XL,G7] at hb2
  simp only[bU,bz] at hb2
  rw[← hb2]
  simp only[go_sem,XA,Aq]
  try simp
theorem Z5 (b:List Int) (p:Int) (hb:AQ b) (hl:b.length≤1048576):Ctr prog 229 [.c (.sl (b.map byteC)),.c (.v (.int .i64 (p)))] (XA (EY b p)):=by
 refine CM call229 func229 ntmps229 results229 fun hw=>?_
 simp only[go_sem]
 have hg:=FH b p hb hl
 rcases h1:BK b p with _ | ⟨k,q⟩<;>rw[h1] at hg<;>simp only[UH] at hg
 ·refine CallK.mk _ hg fun _=>?_
  simp only[go_sem,EY,h1,XA]
  try simp[FT]
 refine CallK.mk _ hg fun _=>?_
 simp only[go_sem]
 refine CallK.mk _ (AL _ _ _) fun _=>?_
 rcases h2:Ac k 0 64 with _ | _
 ·have:¬ (0≤k∧k≤64):=by simp[Ac] at h2; omega
  simp only[go_sem,EY,h1,XA,this]
  try simp[FT]
 have hk:0≤k∧k≤64:=by simp[Ac] at h2; omega
 obtain⟨K,rfl⟩:=aP hk.1
 have hall:EY b p=G7 b K q:=by simp only[EY,h1,aX hk,bV]
 simp only[go_sem]
 refine LoopH.mk [30] (A:=Nat×Nat×List Int) (fun x=>[(11,.c (.v (.int .i64 (x.1)))),(10,.c (.ref 0)),(8,.c (.v (.int .i64 ((x.2.1:Int)))))]) (fun x=>[⟨3,1,x.2.2.map intC,true,true⟩]) (fun x=>x.1≤K∧x.2.2.length=x.1∧(G7 b (K-x.1) x.2.1).map (fun y=>(x.2.2++y.1,y.2))=EY b p) (fun x=>K-x.1) (0,q,[]) (Head.sel [(0,false)] ⟨rfl,rfl,rfl,trivial⟩ rfl) ⟨ak _,rfl,by rw[hall]; simp⟩ ?_
 rintro⟨i,q',l⟩ ⟨hi,hll,hb2⟩
 dsimp only at hi hll hb2
 simp only[go_sem]
 refine cndC.mk (fun h=>?_) (fun h=>?_)
 ·have hi':i<K:=by simp at h; omega
  rw[show K-i=(K-(i+1))+1 by omega,G7] at hb2
  have hg2:=FH b q' hb hl
  simp only[go_sem]
  rcases h3:BK b q' with _ | ⟨n,q2⟩<;>rw[h3] at hg2 hb2<;>simp only[UH] at hg2
  ·refine CallK.mk _ hg2 fun _=>?_
   simp only[dm] at hb2
   rw[← hb2]
   simp only[go_sem,XA]
   try simp[FT]
  ·refine CallK.mk _ hg2 fun _=>?_
   have hl2:l.length+1≤2147483648:=by omega
   simp only[go_sem,ae,bK,Oo,hl2,aS,wrap_i64 (n:=(i:Int)+1) (by omega) (by omega)]
   exact⟨(i+1,q2,l ++ [n]),Head.sel [(2,false)] ⟨rfl,rfl,by rw[← FM]; exact AO VE,trivial⟩ (by rw[← FM]; rfl),⟨hi',by simp; omega,by rw[← hb2,zI]; congr 1; funext y; simp⟩,by simp only; omega⟩
 ·have hi':i=K:=by simp at h; omega
  subst hi'
  rw[XL,G7] at hb2
  simp only[bU,bz] at hb2
  rw[← hb2]
  simp only[go_sem,XA,Aq]
  try simp
theorem all1 {p:Ob→Bool} {x:Ob} (h:p x=true) : [x].all p=true:=by simp[h]
def XZ:Option (List Int)→List Res
 | some l=>[.own 3 1 (l.map intC) true,.val (.c (.v (.bool (true))))]
 | none=>[.own 3 1 [] true,.val (.c (.v (.bool (false))))]
def lV (b:List Int) (W i:Nat):List Int:=(List.range i).map fun m:Nat=>LM b ((m:Int)*W) W
theorem xm (b:List Int) (W i:Nat):(lV b W i).length=i:=by simp[lV]
theorem Yj (b:List Int) (n:Int):0≤ET b n∧ET b n≤1:=by
 unfold ET
 split
 ·omega
 ·split
  ·omega
  ·omega
theorem Yk (b:List Int) (o:Int):∀ j:Nat,0≤LM b o j∧LM b o j<2 ^ j
 | 0=>by simp[LM]
 | j+1=>by
  have h1:=Yk b o j
  have h2:=Yj b (o+j)
  have hp:(0:Int)<2 ^ j:=Int.pow_pos (by omega)
  have h3:0≤ET b (o+j)*2 ^ j:=aaZ h2.1 (by omega)
  have h4:ET b (o+j)*2 ^ j≤1*2 ^ j:=aae h2.2 (by omega)
  rw[LM,ww]; omega
theorem UI (b:List Int) (w k:Int) (hb:AQ b) (hl:b.length≤1048576):Ctr prog 292 [.c (.sl (b.map byteC)),.c (.v (.int .i64 (w))),.c (.v (.int .i64 (k)))] (XZ (unpack b w k)):=by
 refine CM call292 func292 ntmps292 results292 fun hw=>?_
 simp only[go_sem]
 refine CallK.mk _ (AC _ _ _) fun _=>?_
 rcases h1:Ac w 0 31 with _ | _
 ·have:unpack b w k=none:=by unfold unpack; rw[aV]; rintro⟨⟨q1,q2,_⟩,_⟩; simp[Ac] at h1; omega
  rw[this]
  simp only[go_sem,XZ]
  try simp[FT]
 simp only[go_sem]
 refine CallK.mk _ (AC _ _ _) fun _=>?_
 rcases h2:Ac k 0 64 with _ | _
 ·have:unpack b w k=none:=by unfold unpack; rw[aV]; rintro⟨⟨q1,q2,_⟩,_⟩; simp[Ac] at h2; omega
  rw[this]
  simp only[go_sem,XZ]
  try simp[FT]
 simp only[go_sem,ae]
 refine CallK.mk _ (Yb _ _) fun _=>?_
 rcases h3:(b.length:Int) != Ej k w with _ | _
 rotate_left
 ·have:unpack b w k=none:=by unfold unpack; rw[aV]; rintro⟨⟨_,_,q⟩,_⟩; simp[q] at h3
  rw[this]
  simp only[go_sem,h3,XZ]
  try simp[FT]
 have hlen:(b.length:Int)=Ej k w:=by simpa using h3
 have hw0:0≤w∧w≤31:=by simp[Ac] at h1 h2; omega
 have hk0:0≤k∧k≤64:=by simp[Ac] at h1 h2; omega
 simp only[go_sem,h3]
 obtain⟨W,rfl⟩:=aP hw0.1
 obtain⟨K,rfl⟩:=aP hk0.1
 have hKW:K*W≤64*31:=abg (by omega) (by omega)
 have hlen8:b.length=(K*W+7)/8:=by
  unfold Ej at hlen
  rw[aX ⟨hk0,hw0⟩] at hlen
  have:(K:Int)*W=((K*W:Nat):Int):=by simp
  omega
 have hsucc:∀ i:Nat,(lV b W (i+1)).map intC=(lV b W i).map intC ++ [[.v (.int .i64 (LM b ((i:Int)*W) W))]]:=fun i=>by
  rw[lV,List.range_succ,Uz,Uz]; rfl
 refine LoopH.mk [29] (A:=Nat) (fun i=>[(9,.c (.v (.int .i64 (i)))),(8,.c (.ref 0))]) (fun i=>[⟨3,1,(lV b W i).map intC,true,true⟩]) (fun i=>i≤K) (fun i=>K-i) 0 (Head.sel [(0,false)] ⟨rfl,rfl,rfl,trivial⟩ rfl) (ak _) ?_
 intro i hi
 simp only[go_sem]
 refine cndC.mk (fun h=>?_) (fun h=>?_)
 ·have hi':i<K:=by simp at h; omega
  have hiW:i*W≤64*31:=abg (by omega) (by omega)
  have eiW:(i:Int)*W=((i*W:Nat):Int):=by simp
  have e1:IntKind.i64.wrap ((i:Int)*W)=((i:Int)*W):=wrap_i64 (by omega) (by omega)
  simp only[go_sem]
  refine LoopU.mk 1 (A:=Nat) (fun j=>[(11,.c (.v (.int .i64 (j)))),(10,.c (.v (.int .i64 (LM b ((i:Int)*W) j))))]) (fun _=>[⟨3,1,(lV b W i).map intC,true,true⟩]) (fun j=>j≤W) (fun j=>W-j) 0 ⟨⟨rfl,all1 (AP (Aq _))⟩,rfl,ak _⟩ ?_
  intro j hj
  simp only[go_sem]
  refine cndC.mk (fun h2=>?_) (fun h2=>?_)
  ·have hj':j<W:=by simp at h2; omega
   have e2:IntKind.i64.wrap ((i:Int)*W+j)=(i:Int)*W+j:=wrap_i64 (by omega) (by omega)
   have h01:=Yj b ((i:Int)*W+j)
   have hbd:=Yk b ((i:Int)*W) j
   have hp:(0:Int)<2 ^ j:=Int.pow_pos (by omega)
   have hp2:(2:Int) ^ j≤2 ^ 31:=by exact_mod_cast aaB (by omega) (by omega)
   have h3:0≤ET b ((i:Int)*W+j)*2 ^ j:=aaZ h01.1 (by omega)
   have h4:ET b ((i:Int)*W+j)*2 ^ j≤1*2 ^ j:=aae h01.2 (by omega)
   have e3:IntKind.i64.wrap (ET b ((i:Int)*W+j)*2 ^ min j 64)=ET b ((i:Int)*W+j)*2 ^ j:=by
    rw[Zt (by omega),wrap_i64 (by omega) (by omega)]
   have e4:IntKind.i64.wrap (orK .i64 (LM b ((i:Int)*W) j) (ET b ((i:Int)*W+j)*2 ^ j))=LM b ((i:Int)*W) (j+1):=by
    rw[Yi .i64 hbd.1 hbd.2 h01.1 (by simp[IntKind.bits]; omega),wrap_i64 (by omega) (by omega)]; rfl
   simp only[go_sem,e1,e2]
   refine CallK.mk _ (WG b _ hb hl (by omega)) fun _=>?_
   simp only[go_sem,e3,e4,wrap_i64 (n:=(j:Int)+1) (by omega) (by omega)]
   exact⟨j+1,⟨rfl,all1 (AP (Aq _))⟩,rfl,by omega,by omega⟩
  ·have hj':j=W:=by simp at h2; omega
   subst hj'
   have hol2:i+1≤2147483648:=by omega
   simp only[go_sem,ae,xm,bK,Oo,hol2,aS,wrap_i64 (n:=(i:Int)+1) (by omega) (by omega)]
   exact⟨i+1,Head.sel [(2,false)] ⟨rfl,rfl,by rw[← hsucc]; exact AO (fun _=>rfl),trivial⟩ (by rw[← hsucc]; rfl),hi',by omega⟩
 ·have hi':i=K:=by simp at h; omega
  subst hi'
  have ekw:(i:Int)*W=((i*W:Nat):Int):=by simp
  have e1:IntKind.i64.wrap ((i:Int)*W)=((i*W:Nat):Int):=by rw[wrap_i64 (by omega) (by omega),ekw]
  have e8:IntKind.i64.wrap (8*(b.length:Int))=((8*b.length:Nat):Int):=by rw[wrap_i64 (by omega) (by omega)]; omega
  simp only[go_sem,e1]
  refine LoopU.mk 1 (A:=Nat) (fun n=>[(12,.c (.v (.int .i64 ((n:Int)))))]) (fun _=>[⟨3,1,(lV b W i).map intC,true,true⟩]) (fun n=>i*W≤n∧n≤8*b.length∧∀ m,i*W≤m→m<n→ET b (m:Int)=0) (fun n=>8*b.length-n) (i*W) ⟨⟨rfl,all1 (AP (Aq _))⟩,rfl,aK _,by omega,fun m h1 h2=>by omega⟩ ?_
  rintro n ⟨hn1,hn2,hz⟩
  simp only[go_sem,ae,e8]
  refine cndC.mk (fun h2=>?_) (fun h2=>?_)
  ·have hn':n<8*b.length:=by simp at h2; omega
   simp only[go_sem]
   refine CallK.mk _ (WG b _ hb hl (by omega)) fun _=>?_
   rcases h5:ET b (n:Int) != 0 with _ | _
   ·have h5':ET b (n:Int)=0:=by simpa using h5
    simp only[go_sem,h5,wrap_i64 (n:=(n:Int)+1) (by omega) (by omega)]
    exact⟨n+1,⟨rfl,all1 (AP (Aq _))⟩,rfl,⟨by omega,by omega,fun m h1 h2=>by
     by_cases e:m=n
     ·subst e; exact h5'
     ·exact hz m h1 (by omega)⟩,by omega⟩
   ·have h5':ET b (n:Int)≠0:=by simpa using h5
    have:unpack b W i=none:=by
     unfold unpack
     rw[aV]
     rintro⟨_,q⟩
     exact h5' (q n (aa2.2 hn') (by omega))
    rw[this]
    simp only[go_sem,h5,XZ]
    try simp[FT]
  ·have hn':n=8*b.length:=by simp at h2; omega
   subst hn'
   have:unpack b W i=some (lV b W i):=by
    unfold unpack
    rw[aX ⟨⟨hw0,hk0,hlen⟩,fun n hn h=>hz n (by omega) (aa2.1 hn)⟩]
    simp only[bV,lV]
   rw[this]
   simp only[go_sem,XZ,Aq]
   try simp
theorem UJ (b:List Int) (w k:Int) (hb:AQ b) (hl:b.length≤1048576):Ctr prog 279 [.c (.sl (b.map byteC)),.c (.v (.int .i64 (w))),.c (.v (.int .i64 (k)))] (XZ (unpack b w k)):=by
 refine CM call279 func279 ntmps279 results279 fun hw=>?_
 simp only[go_sem]
 refine CallK.mk _ (AL _ _ _) fun _=>?_
 rcases h1:Ac k 0 64 with _ | _
 ·have:unpack b w k=none:=by unfold unpack; rw[aV]; rintro⟨⟨q1,q2,_⟩,_⟩; simp[Ac] at h1; omega
  rw[this]
  simp only[go_sem,XZ]
  try simp[FT]
 simp only[go_sem]
 refine CallK.mk _ (AL _ _ _) fun _=>?_
 rcases h2:Ac w 0 31 with _ | _
 ·have:unpack b w k=none:=by unfold unpack; rw[aV]; rintro⟨⟨q1,q2,_⟩,_⟩; simp[Ac] at h2; omega
  rw[this]
  simp only[go_sem,XZ]
  try simp[FT]
 simp only[go_sem,ae]
 refine CallK.mk _ (Yc _ _) fun _=>?_
 rcases h3:(b.length:Int) != Ej k w with _ | _
 rotate_left
 ·have:unpack b w k=none:=by unfold unpack; rw[aV]; rintro⟨⟨_,_,q⟩,_⟩; simp[q] at h3
  rw[this]
  simp only[go_sem,h3,XZ]
  try simp[FT]
 have hlen:(b.length:Int)=Ej k w:=by simpa using h3
 have hw0:0≤w∧w≤31:=by simp[Ac] at h1 h2; omega
 have hk0:0≤k∧k≤64:=by simp[Ac] at h1 h2; omega
 simp only[go_sem,h3]
 obtain⟨W,rfl⟩:=aP hw0.1
 obtain⟨K,rfl⟩:=aP hk0.1
 have hKW:K*W≤64*31:=abg (by omega) (by omega)
 have hlen8:b.length=(K*W+7)/8:=by
  unfold Ej at hlen
  rw[aX ⟨hk0,hw0⟩] at hlen
  have:(K:Int)*W=((K*W:Nat):Int):=by simp
  omega
 have hsucc:∀ i:Nat,(lV b W (i+1)).map intC=(lV b W i).map intC ++ [[.v (.int .i64 (LM b ((i:Int)*W) W))]]:=fun i=>by
  rw[lV,List.range_succ,Uz,Uz]; rfl
 refine LoopH.mk [13] (A:=Nat) (fun i=>[(9,.c (.v (.int .i64 (i)))),(8,.c (.ref 0))]) (fun i=>[⟨3,1,(lV b W i).map intC,true,true⟩]) (fun i=>i≤K) (fun i=>K-i) 0 (Head.sel [(0,false)] ⟨rfl,rfl,rfl,trivial⟩ rfl) (ak _) ?_
 intro i hi
 simp only[go_sem]
 refine cndC.mk (fun h=>?_) (fun h=>?_)
 ·have hi':i<K:=by simp at h; omega
  have hiW:i*W≤64*31:=abg (by omega) (by omega)
  have eiW:(i:Int)*W=((i*W:Nat):Int):=by simp
  have e1:IntKind.i64.wrap ((i:Int)*W)=((i:Int)*W):=wrap_i64 (by omega) (by omega)
  simp only[go_sem]
  refine LoopU.mk 1 (A:=Nat) (fun j=>[(11,.c (.v (.int .i64 (j)))),(10,.c (.v (.int .i64 (LM b ((i:Int)*W) j))))]) (fun _=>[⟨3,1,(lV b W i).map intC,true,true⟩]) (fun j=>j≤W) (fun j=>W-j) 0 ⟨⟨rfl,all1 (AP (Aq _))⟩,rfl,ak _⟩ ?_
  intro j hj
  simp only[go_sem]
  refine cndC.mk (fun h2=>?_) (fun h2=>?_)
  ·have hj':j<W:=by simp at h2; omega
   have e2:IntKind.i64.wrap ((i:Int)*W+j)=(i:Int)*W+j:=wrap_i64 (by omega) (by omega)
   have h01:=Yj b ((i:Int)*W+j)
   have hbd:=Yk b ((i:Int)*W) j
   have hp:(0:Int)<2 ^ j:=Int.pow_pos (by omega)
   have hp2:(2:Int) ^ j≤2 ^ 31:=by exact_mod_cast aaB (by omega) (by omega)
   have h3:0≤ET b ((i:Int)*W+j)*2 ^ j:=aaZ h01.1 (by omega)
   have h4:ET b ((i:Int)*W+j)*2 ^ j≤1*2 ^ j:=aae h01.2 (by omega)
   have e3:IntKind.i64.wrap (ET b ((i:Int)*W+j)*2 ^ min j 64)=ET b ((i:Int)*W+j)*2 ^ j:=by
    rw[Zt (by omega),wrap_i64 (by omega) (by omega)]
   have e4:IntKind.i64.wrap (orK .i64 (LM b ((i:Int)*W) j) (ET b ((i:Int)*W+j)*2 ^ j))=LM b ((i:Int)*W) (j+1):=by
    rw[Yi .i64 hbd.1 hbd.2 h01.1 (by simp[IntKind.bits]; omega),wrap_i64 (by omega) (by omega)]; rfl
   simp only[go_sem,e1,e2]
   refine CallK.mk _ (WH b _ hb hl (by omega)) fun _=>?_
   simp only[go_sem,e3,e4,wrap_i64 (n:=(j:Int)+1) (by omega) (by omega)]
   exact⟨j+1,⟨rfl,all1 (AP (Aq _))⟩,rfl,by omega,by omega⟩
  ·have hj':j=W:=by simp at h2; omega
   subst hj'
   have hol2:i+1≤2147483648:=by omega
   simp only[go_sem,ae,xm,bK,Oo,hol2,aS,wrap_i64 (n:=(i:Int)+1) (by omega) (by omega)]
   exact⟨i+1,Head.sel [(2,false)] ⟨rfl,rfl,by rw[← hsucc]; exact AO (fun _=>rfl),trivial⟩ (by rw[← hsucc]; rfl),hi',by omega⟩
 ·have hi':i=K:=by simp at h; omega
  subst hi'
  have ekw:(i:Int)*W=((i*W:Nat):Int):=by simp
  have e1:IntKind.i64.wrap ((i:Int)*W)=((i*W:Nat):Int):=by rw[wrap_i64 (by omega) (by omega),ekw]
  have e8:IntKind.i64.wrap (8*(b.length:Int))=((8*b.length:Nat):Int):=by rw[wrap_i64 (by omega) (by omega)]; omega
  simp only[go_sem,e1]
  refine LoopU.mk 1 (A:=Nat) (fun n=>[(12,.c (.v (.int .i64 ((n:Int)))))]) (fun _=>[⟨3,1,(lV b W i).map intC,true,true⟩]) (fun n=>i*W≤n∧n≤8*b.length∧∀ m,i*W≤m→m<n→ET b (m:Int)=0) (fun n=>8*b.length-n) (i*W) ⟨⟨rfl,all1 (AP (Aq _))⟩,rfl,aK _,by omega,fun m h1 h2=>by omega⟩ ?_
  rintro n ⟨hn1,hn2,hz⟩
  simp only[go_sem,ae,e8]
  refine cndC.mk (fun h2=>?_) (fun h2=>?_)
  ·have hn':n<8*b.length:=by simp at h2; omega
   simp only[go_sem]
   refine CallK.mk _ (WH b _ hb hl (by omega)) fun _=>?_
   rcases h5:ET b (n:Int) != 0 with _ | _
   ·have h5':ET b (n:Int)=0:=by simpa using h5
    simp only[go_sem,h5,wrap_i64 (n:=(n:Int)+1) (by omega) (by omega)]
    exact⟨n+1,⟨rfl,all1 (AP (Aq _))⟩,rfl,⟨by omega,by omega,fun m h1 h2=>by
     by_cases e:m=n
     ·subst e; exact h5'
     ·exact hz m h1 (by omega)⟩,by omega⟩
   ·have h5':ET b (n:Int)≠0:=by simpa using h5
    have:unpack b W i=none:=by
     unfold unpack
     rw[aV]
     rintro⟨_,q⟩
     exact h5' (q n (aa2.2 hn') (by omega))
    rw[this]
    simp only[go_sem,h5,XZ]
    try simp[FT]
  ·have hn':n=8*b.length:=by simp at h2; omega
   subst hn'
   have:unpack b W i=some (lV b W i):=by
    unfold unpack
    rw[aX ⟨⟨hw0,hk0,hlen⟩,fun n hn h=>hz n (by omega) (aa2.1 hn)⟩]
    simp only[bV,lV]
   rw[this]
   simp only[go_sem,XZ,Aq]
   try simp
end Go.Proofs.YtnchiiikacemmaaGreat
