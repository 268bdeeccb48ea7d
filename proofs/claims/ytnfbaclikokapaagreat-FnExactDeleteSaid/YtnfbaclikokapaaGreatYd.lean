/- A part. -/
import Derived.Test.YtnfbaclikokapaaGreatYa
import Derived.Test.YtnfbaclikokapaaGreatWd
set_option linter.unusedSimpArgs false
set_option linter.unusedVariables false
set_option maxHeartbeats 2000000
set_option maxRecDepth 10000
open Go.Proofs.Tryz
namespace Go.Proofs.YtnfbaclikokapaaGreat
open Go.Vm
theorem FK (out:List Int) (c:Int):(out ++ [c]).map intC=out.map intC ++ [[.v (.int .i64 c)]]:=by simp[vP]
theorem AE1:Df []=true:=rfl
theorem VE (n:Int):CB (intC n)=true:=rfl
def Wl:Option (List Int×Nat)→List Res
 | some (l,q)=>[.own 3 1 (l.map intC) true,.val (.c (.v (.int .i64 ((q:Int))))),.val (.c (.v (.bool (true))))]
 | none=>[.own 3 1 [] true,.val (.c (.v (.int .i64 (0)))),.val (.c (.v (.bool (false))))]
theorem Zp (b:List Int) (p:Int) (hb:AY b) (hl:b.length≤1048576):Ctr prog 249 [.c (.sl (b.map byteC)),.c (.v (.int .i64 (p)))] (Wl (ES b p)):=by
 refine CM call249 func249 ntmps249 results249 fun hw=>?_
 simp only[go_sem,ae]
 have hg:=FH b p hb hl
 rcases h1:BN b p with _ | ⟨k,q⟩<;>rw[h1] at hg<;>simp only[UC] at hg
 ·refine CallK.mk _ hg fun _=>?_
  simp only[go_sem,ES,h1,Wl]
  try simp[Df]
 refine CallK.mk _ hg fun _=>?_
 simp only[go_sem]
 refine CallK.mk _ (AC _ _ _) fun _=>?_
 rcases h2:Ac k 0 64 with _ | _
 ·have:¬ (0≤k∧k≤64):=by simp[Ac] at h2; omega
  simp only[go_sem,ES,h1,Wl,h2,this]
  try simp[Df]
 have hk:0≤k∧k≤64:=by simp[Ac] at h2; omega
 obtain⟨K,rfl⟩:=aP hk.1
 have hall:ES b p=Gx b K q:=by simp only[ES,h1,bz hk,bY]
 simp only[go_sem,h2]
 refine LoopH.mk [28] (A:=Nat×Nat×List Int) (fun x=>[(10,.c (.v (.int .i64 (x.1)))),(9,.c (.ref 0)),(1,.c (.v (.int .i64 ((x.2.1:Int)))))]) (fun x=>[⟨3,1,x.2.2.map intC,true,true⟩]) (fun x=>x.1≤K∧x.2.2.length=x.1∧(Gx b (K-x.1) x.2.1).map (fun y=>(x.2.2++y.1,y.2))=ES b p) (fun x=>K-x.1) (0,q,[]) (Head.sel [(0,false)] ⟨rfl,rfl,rfl,trivial⟩ rfl) ⟨ax _,rfl,by rw[hall]; simp⟩ ?_
 rintro⟨i,q',l⟩ ⟨hi,hll,hb2⟩
 dsimp only at hi hll hb2
 simp only[go_sem,ae]
 refine cndC.mk (fun h=>?_) (fun h=>?_)
 ·have hi':i<K:=by simp at h; omega
  rw[show K-i=(K-(i+1))+1 by omega,Gx] at hb2
  have hg2:=FH b q' hb hl
  simp only[go_sem]
  rcases h3:BN b q' with _ | ⟨n,q2⟩<;>rw[h3] at hg2 hb2<;>simp only[UC] at hg2
  ·refine CallK.mk _ hg2 fun _=>?_
   simp only[di] at hb2
   rw[← hb2]
   simp only[go_sem,Wl]
   try simp[Df]
  ·refine CallK.mk _ hg2 fun _=>?_
   have hl2:l.length+1≤2147483648:=by omega
   simp only[go_sem,ae,bK,dm,hl2,aJ,wrap_i64 (n:=(i:Int)+1) (by omega) (by omega)]
   exact⟨(i+1,q2,l ++ [n]),Head.sel [(2,false)] ⟨rfl,rfl,by rw[← FK]; exact AQ VE,trivial⟩ (by rw[← FK]; rfl),⟨hi',by simp; omega,by rw[← hb2,yV]; congr 1; funext y; simp⟩,by simp only; omega⟩
 ·have hi':i=K:=by simp at h; omega
  subst hi'
  rw[dM,Gx] at hb2
  simp only[bP,bF] at hb2
  rw[← hb2]
  simp only[go_sem,Wl,Am]
  try simp[AU,AO]
theorem Zq (b:List Int) (p:Int) (hb:AY b) (hl:b.length≤1048576):Ctr prog 241 [.c (.sl (b.map byteC)),.c (.v (.int .i64 (p)))] (Wl (ES b p)):=by
 refine CM call241 func241 ntmps241 results241 fun hw=>?_
 simp only[go_sem,ae]
 have hg:=FD b p hb hl
 rcases h1:BN b p with _ | ⟨k,q⟩<;>rw[h1] at hg<;>simp only[UC] at hg
 ·refine CallK.mk _ hg fun _=>?_
  simp only[go_sem,ES,h1,Wl]
  try simp[Df]
 refine CallK.mk _ hg fun _=>?_
 simp only[go_sem]
 refine CallK.mk _ (AL _ _ _) fun _=>?_
 rcases h2:Ac k 0 64 with _ | _
 ·have:¬ (0≤k∧k≤64):=by simp[Ac] at h2; omega
  simp only[go_sem,ES,h1,Wl,h2,this]
  try simp[Df]
 have hk:0≤k∧k≤64:=by simp[Ac] at h2; omega
 obtain⟨K,rfl⟩:=aP hk.1
 have hall:ES b p=Gx b K q:=by simp only[ES,h1,bz hk,bY]
 simp only[go_sem,h2]
 refine LoopH.mk [30] (A:=Nat×Nat×List Int) (fun x=>[(11,.c (.v (.int .i64 (x.1)))),(10,.c (.ref 0)),(8,.c (.v (.int .i64 ((x.2.1:Int)))))]) (fun x=>[⟨3,1,x.2.2.map intC,true,true⟩]) (fun x=>x.1≤K∧x.2.2.length=x.1∧(Gx b (K-x.1) x.2.1).map (fun y=>(x.2.2++y.1,y.2))=ES b p) (fun x=>K-x.1) (0,q,[]) (Head.sel [(0,false)] ⟨rfl,rfl,rfl,trivial⟩ rfl) ⟨ax _,rfl,by rw[hall]; simp⟩ ?_
 rintro⟨i,q',l⟩ ⟨hi,hll,hb2⟩
 dsimp only at hi hll hb2
 simp only[go_sem,ae]
 refine cndC.mk (fun h=>?_) (fun h=>?_)
 ·have hi':i<K:=by simp at h; omega
  rw[show K-i=(K-(i+1))+1 by omega,Gx] at hb2
  have hg2:=FD b q' hb hl
  simp only[go_sem]
  rcases h3:BN b q' with _ | ⟨n,q2⟩<;>rw[h3] at hg2 hb2<;>simp only[UC] at hg2
  ·refine CallK.mk _ hg2 fun _=>?_
   simp only[di] at hb2
   rw[← hb2]
   simp only[go_sem,Wl]
   try simp[Df]
  ·refine CallK.mk _ hg2 fun _=>?_
   have hl2:l.length+1≤2147483648:=by omega
   simp only[go_sem,ae,bK,dm,hl2,aJ,wrap_i64 (n:=(i:Int)+1) (by omega) (by omega)]
   exact⟨(i+1,q2,l ++ [n]),Head.sel [(2,false)] ⟨rfl,rfl,by rw[← FK]; exact AQ VE,trivial⟩ (by rw[← FK]; rfl),⟨hi',by simp; omega,by rw[← hb2,yV]; congr 1; funext y; simp⟩,by simp only; omega⟩
 ·have hi':i=K:=by simp at h; omega
  subst hi'
  rw[dM,Gx] at hb2
  simp only[bP,bF] at hb2
  rw[← hb2]
  simp only[go_sem,Wl,Am]
  try simp[AU,AO]
theorem all1 {p:Ob→Bool} {x:Ob} (h:p x=true) : [x].all p=true:=by simp[h]
def XO:Option (List Int)→List Res
 | some l=>[.own 3 1 (l.map intC) true,.val (.c (.v (.bool (true))))]
 | none=>[.own 3 1 [] true,.val (.c (.v (.bool (false))))]
def lF (b:List Int) (W i:Nat):List Int:=(List.range i).map fun m:Nat=>Lp b ((m:Int)*W) W
theorem xA (b:List Int) (W i:Nat):(lF b W i).length=i:=by simp[lF]
theorem Ya (b:List Int) (n:Int):0≤EP b n∧EP b n≤1:=by
 unfold EP
 split
 ·omega
 ·split
  ·omega
  ·omega
theorem Yb (b:List Int) (o:Int):∀ j:Nat,0≤Lp b o j∧Lp b o j<2 ^ j
 | 0=>by simp[Lp]
 | j+1=>by
  have h1:=Yb b o j
  have h2:=Ya b (o+j)
  have hp:(0:Int)<2 ^ j:=Int.pow_pos (by omega)
  have h3:0≤EP b (o+j)*2 ^ j:=aaY h2.1 (by omega)
  have h4:EP b (o+j)*2 ^ j≤1*2 ^ j:=zt h2.2 (by omega)
  rw[Lp,wB]; omega
theorem UD (b:List Int) (w k:Int) (hb:AY b) (hl:b.length≤1048576):Ctr prog 297 [.c (.sl (b.map byteC)),.c (.v (.int .i64 (w))),.c (.v (.int .i64 (k)))] (XO (unpack b w k)):=by
 refine CM call297 func297 ntmps297 results297 fun hw=>?_
 simp only[go_sem,ae]
 refine CallK.mk _ (AC _ _ _) fun _=>?_
 rcases h1:Ac w 0 31 with _ | _
 ·have:unpack b w k=none:=by unfold unpack; rw[aV]; rintro⟨⟨q1,q2,_⟩,_⟩; simp[Ac] at h1; omega
  rw[this]
  simp only[go_sem,h1,XO]
  try simp[Df]
 simp only[go_sem,h1]
 refine CallK.mk _ (AC _ _ _) fun _=>?_
 rcases h2:Ac k 0 64 with _ | _
 ·have:unpack b w k=none:=by unfold unpack; rw[aV]; rintro⟨⟨q1,q2,_⟩,_⟩; simp[Ac] at h2; omega
  rw[this]
  simp only[go_sem,h1,h2,XO]
  try simp[Df]
 simp only[go_sem,h1,h2,ae]
 refine CallK.mk _ (YS _ _) fun _=>?_
 rcases h3:(b.length:Int) != Ed k w with _ | _
 rotate_left
 ·have:unpack b w k=none:=by unfold unpack; rw[aV]; rintro⟨⟨_,_,q⟩,_⟩; simp[q] at h3
  rw[this]
  simp only[go_sem,h1,h2,h3,ae,XO]
  try simp[Df]
 have hlen:(b.length:Int)=Ed k w:=by simpa using h3
 have hw0:0≤w∧w≤31:=by simp[Ac] at h1 h2; omega
 have hk0:0≤k∧k≤64:=by simp[Ac] at h1 h2; omega
 simp only[go_sem,h1,h2,h3,ae]
 obtain⟨W,rfl⟩:=aP hw0.1
 obtain⟨K,rfl⟩:=aP hk0.1
 have hKW:K*W≤64*31:=abh (by omega) (by omega)
 have hlen8:b.length=(K*W+7)/8:=by
  unfold Ed at hlen
  rw[bz ⟨hk0,hw0⟩] at hlen
  have:(K:Int)*W=((K*W:Nat):Int):=by simp
  omega
 have hsucc:∀ i:Nat,(lF b W (i+1)).map intC=(lF b W i).map intC ++ [[.v (.int .i64 (Lp b ((i:Int)*W) W))]]:=fun i=>by
  rw[lF,List.range_succ,Vp,Vp]; rfl
 refine LoopH.mk [29] (A:=Nat) (fun i=>[(9,.c (.v (.int .i64 (i)))),(8,.c (.ref 0))]) (fun i=>[⟨3,1,(lF b W i).map intC,true,true⟩]) (fun i=>i≤K) (fun i=>K-i) 0 (Head.sel [(0,false)] ⟨rfl,rfl,rfl,trivial⟩ rfl) (ax _) ?_
 intro i hi
 simp only[go_sem,ae]
 refine cndC.mk (fun h=>?_) (fun h=>?_)
 ·have hi':i<K:=by simp at h; omega
  have hiW:i*W≤64*31:=abh (by omega) (by omega)
  have eiW:(i:Int)*W=((i*W:Nat):Int):=by simp
  have e1:IntKind.i64.wrap ((i:Int)*W)=((i:Int)*W):=wrap_i64 (by omega) (by omega)
  simp only[go_sem]
  refine LoopU.mk 1 (A:=Nat) (fun j=>[(11,.c (.v (.int .i64 (j)))),(10,.c (.v (.int .i64 (Lp b ((i:Int)*W) j))))]) (fun _=>[⟨3,1,(lF b W i).map intC,true,true⟩]) (fun j=>j≤W) (fun j=>W-j) 0 ⟨⟨rfl,all1 (AP (Am _))⟩,rfl,ax _⟩ ?_
  intro j hj
  simp only[go_sem,ae]
  refine cndC.mk (fun h2=>?_) (fun h2=>?_)
  ·have hj':j<W:=by simp at h2; omega
   have e2:IntKind.i64.wrap ((i:Int)*W+j)=(i:Int)*W+j:=wrap_i64 (by omega) (by omega)
   have h01:=Ya b ((i:Int)*W+j)
   have hbd:=Yb b ((i:Int)*W) j
   have hp:(0:Int)<2 ^ j:=Int.pow_pos (by omega)
   have hp2:(2:Int) ^ j≤2 ^ 31:=by exact_mod_cast z_ (by omega) (by omega)
   have h3:0≤EP b ((i:Int)*W+j)*2 ^ j:=aaY h01.1 (by omega)
   have h4:EP b ((i:Int)*W+j)*2 ^ j≤1*2 ^ j:=zt h01.2 (by omega)
   have e3:IntKind.i64.wrap (EP b ((i:Int)*W+j)*2 ^ min j 64)=EP b ((i:Int)*W+j)*2 ^ j:=by
    rw[X4 (by omega),wrap_i64 (by omega) (by omega)]
   have e4:IntKind.i64.wrap (orK .i64 (Lp b ((i:Int)*W) j) (EP b ((i:Int)*W+j)*2 ^ j))=Lp b ((i:Int)*W) (j+1):=by
    rw[YZ .i64 hbd.1 hbd.2 h01.1 (by simp[IntKind.bits]; omega),wrap_i64 (by omega) (by omega)]; rfl
   simp only[go_sem,e1,e2]
   refine CallK.mk _ (V5 b _ hb hl (by omega)) fun _=>?_
   simp only[go_sem,e3,e4,wrap_i64 (n:=(j:Int)+1) (by omega) (by omega)]
   exact⟨j+1,⟨rfl,all1 (AP (Am _))⟩,rfl,by omega,by omega⟩
  ·have hj':j=W:=by simp at h2; omega
   subst hj'
   have hol2:i+1≤2147483648:=by omega
   simp only[go_sem,ae,xA,bK,dm,hol2,aJ,wrap_i64 (n:=(i:Int)+1) (by omega) (by omega)]
   exact⟨i+1,Head.sel [(2,false)] ⟨rfl,rfl,by rw[← hsucc]; exact AQ (fun _=>rfl),trivial⟩ (by rw[← hsucc]; rfl),hi',by omega⟩
 ·have hi':i=K:=by simp at h; omega
  subst hi'
  have ekw:(i:Int)*W=((i*W:Nat):Int):=by simp
  have e1:IntKind.i64.wrap ((i:Int)*W)=((i*W:Nat):Int):=by rw[wrap_i64 (by omega) (by omega),ekw]
  have e8:IntKind.i64.wrap (8*(b.length:Int))=((8*b.length:Nat):Int):=by rw[wrap_i64 (by omega) (by omega)]; omega
  simp only[go_sem,e1]
  refine LoopU.mk 1 (A:=Nat) (fun n=>[(12,.c (.v (.int .i64 ((n:Int)))))]) (fun _=>[⟨3,1,(lF b W i).map intC,true,true⟩]) (fun n=>i*W≤n∧n≤8*b.length∧∀ m,i*W≤m→m<n→EP b (m:Int)=0) (fun n=>8*b.length-n) (i*W) ⟨⟨rfl,all1 (AP (Am _))⟩,rfl,aN _,by omega,fun m h1 h2=>by omega⟩ ?_
  rintro n ⟨hn1,hn2,hz⟩
  simp only[go_sem,ae,e8]
  refine cndC.mk (fun h2=>?_) (fun h2=>?_)
  ·have hn':n<8*b.length:=by simp at h2; omega
   simp only[go_sem]
   refine CallK.mk _ (V5 b _ hb hl (by omega)) fun _=>?_
   rcases h5:EP b (n:Int) != 0 with _ | _
   ·have h5':EP b (n:Int)=0:=by simpa using h5
    simp only[go_sem,h5,wrap_i64 (n:=(n:Int)+1) (by omega) (by omega)]
    exact⟨n+1,⟨rfl,all1 (AP (Am _))⟩,rfl,⟨by omega,by omega,fun m h1 h2=>by
     by_cases e:m=n
     ·subst e; exact h5'
     ·exact hz m h1 (by omega)⟩,by omega⟩
   ·have h5':EP b (n:Int)≠0:=by simpa using h5
    have:unpack b W i=none:=by
     unfold unpack
     rw[aV]
     rintro⟨_,q⟩
     exact h5' (q n (abC.2 hn') (by omega))
    rw[this]
    simp only[go_sem,h5,XO]
    try simp[Df]
  ·have hn':n=8*b.length:=by simp at h2; omega
   subst hn'
   have:unpack b W i=some (lF b W i):=by
    unfold unpack
    rw[bz ⟨⟨hw0,hk0,hlen⟩,fun n hn h=>hz n (by omega) (abC.1 hn)⟩]
    simp only[bY,lF]
   rw[this]
   simp only[go_sem,XO,Am]
   try simp[AU,AO]
theorem UE (b:List Int) (w k:Int) (hb:AY b) (hl:b.length≤1048576):Ctr prog 284 [.c (.sl (b.map byteC)),.c (.v (.int .i64 (w))),.c (.v (.int .i64 (k)))] (XO (unpack b w k)):=by
 refine CM call284 func284 ntmps284 results284 fun hw=>?_
 simp only[go_sem,ae]
 refine CallK.mk _ (AL _ _ _) fun _=>?_
 rcases h1:Ac k 0 64 with _ | _
 ·have:unpack b w k=none:=by unfold unpack; rw[aV]; rintro⟨⟨q1,q2,_⟩,_⟩; simp[Ac] at h1; omega
  rw[this]
  simp only[go_sem,h1,XO]
  try simp[Df]
 simp only[go_sem,h1]
 refine CallK.mk _ (AL _ _ _) fun _=>?_
 rcases h2:Ac w 0 31 with _ | _
 ·have:unpack b w k=none:=by unfold unpack; rw[aV]; rintro⟨⟨q1,q2,_⟩,_⟩; simp[Ac] at h2; omega
  rw[this]
  simp only[go_sem,h1,h2,XO]
  try simp[Df]
 simp only[go_sem,h1,h2,ae]
 refine CallK.mk _ (YT _ _) fun _=>?_
 rcases h3:(b.length:Int) != Ed k w with _ | _
 rotate_left
 ·have:unpack b w k=none:=by unfold unpack; rw[aV]; rintro⟨⟨_,_,q⟩,_⟩; simp[q] at h3
  rw[this]
  simp only[go_sem,h1,h2,h3,ae,XO]
  try simp[Df]
 have hlen:(b.length:Int)=Ed k w:=by simpa using h3
 have hw0:0≤w∧w≤31:=by simp[Ac] at h1 h2; omega
 have hk0:0≤k∧k≤64:=by simp[Ac] at h1 h2; omega
 simp only[go_sem,h1,h2,h3,ae]
 obtain⟨W,rfl⟩:=aP hw0.1
 obtain⟨K,rfl⟩:=aP hk0.1
 have hKW:K*W≤64*31:=abh (by omega) (by omega)
 have hlen8:b.length=(K*W+7)/8:=by
  unfold Ed at hlen
  rw[bz ⟨hk0,hw0⟩] at hlen
  have:(K:Int)*W=((K*W:Nat):Int):=by simp
  omega
 have hsucc:∀ i:Nat,(lF b W (i+1)).map intC=(lF b W i).map intC ++ [[.v (.int .i64 (Lp b ((i:Int)*W) W))]]:=fun i=>by
  rw[lF,List.range_succ,Vp,Vp]; rfl
 refine LoopH.mk [13] (A:=Nat) (fun i=>[(9,.c (.v (.int .i64 (i)))),(8,.c (.ref 0))]) (fun i=>[⟨3,1,(lF b W i).map intC,true,true⟩]) (fun i=>i≤K) (fun i=>K-i) 0 (Head.sel [(0,false)] ⟨rfl,rfl,rfl,trivial⟩ rfl) (ax _) ?_
 intro i hi
 simp only[go_sem,ae]
 refine cndC.mk (fun h=>?_) (fun h=>?_)
 ·have hi':i<K:=by simp at h; omega
  have hiW:i*W≤64*31:=abh (by omega) (by omega)
  have eiW:(i:Int)*W=((i*W:Nat):Int):=by simp
  have e1:IntKind.i64.wrap ((i:Int)*W)=((i:Int)*W):=wrap_i64 (by omega) (by omega)
  simp only[go_sem]
  refine LoopU.mk 1 (A:=Nat) (fun j=>[(11,.c (.v (.int .i64 (j)))),(10,.c (.v (.int .i64 (Lp b ((i:Int)*W) j))))]) (fun _=>[⟨3,1,(lF b W i).map intC,true,true⟩]) (fun j=>j≤W) (fun j=>W-j) 0 ⟨⟨rfl,all1 (AP (Am _))⟩,rfl,ax _⟩ ?_
  intro j hj
  simp only[go_sem,ae]
  refine cndC.mk (fun h2=>?_) (fun h2=>?_)
  ·have hj':j<W:=by simp at h2; omega
   have e2:IntKind.i64.wrap ((i:Int)*W+j)=(i:Int)*W+j:=wrap_i64 (by omega) (by omega)
   have h01:=Ya b ((i:Int)*W+j)
   have hbd:=Yb b ((i:Int)*W) j
   have hp:(0:Int)<2 ^ j:=Int.pow_pos (by omega)
   have hp2:(2:Int) ^ j≤2 ^ 31:=by exact_mod_cast z_ (by omega) (by omega)
   have h3:0≤EP b ((i:Int)*W+j)*2 ^ j:=aaY h01.1 (by omega)
   have h4:EP b ((i:Int)*W+j)*2 ^ j≤1*2 ^ j:=zt h01.2 (by omega)
   have e3:IntKind.i64.wrap (EP b ((i:Int)*W+j)*2 ^ min j 64)=EP b ((i:Int)*W+j)*2 ^ j:=by
    rw[X4 (by omega),wrap_i64 (by omega) (by omega)]
   have e4:IntKind.i64.wrap (orK .i64 (Lp b ((i:Int)*W) j) (EP b ((i:Int)*W+j)*2 ^ j))=Lp b ((i:Int)*W) (j+1):=by
    rw[YZ .i64 hbd.1 hbd.2 h01.1 (by simp[IntKind.bits]; omega),wrap_i64 (by omega) (by omega)]; rfl
   simp only[go_sem,e1,e2]
   refine CallK.mk _ (V6 b _ hb hl (by omega)) fun _=>?_
   simp only[go_sem,e3,e4,wrap_i64 (n:=(j:Int)+1) (by omega) (by omega)]
   exact⟨j+1,⟨rfl,all1 (AP (Am _))⟩,rfl,by omega,by omega⟩
  ·have hj':j=W:=by simp at h2; omega
   subst hj'
   have hol2:i+1≤2147483648:=by omega
   simp only[go_sem,ae,xA,bK,dm,hol2,aJ,wrap_i64 (n:=(i:Int)+1) (by omega) (by omega)]
   exact⟨i+1,Head.sel [(2,false)] ⟨rfl,rfl,by rw[← hsucc]; exact AQ (fun _=>rfl),trivial⟩ (by rw[← hsucc]; rfl),hi',by omega⟩
 ·have hi':i=K:=by simp at h; omega
  subst hi'
  have ekw:(i:Int)*W=((i*W:Nat):Int):=by simp
  have e1:IntKind.i64.wrap ((i:Int)*W)=((i*W:Nat):Int):=by rw[wrap_i64 (by omega) (by omega),ekw]
  have e8:IntKind.i64.wrap (8*(b.length:Int))=((8*b.length:Nat):Int):=by rw[wrap_i64 (by omega) (by omega)]; omega
  simp only[go_sem,e1]
  refine LoopU.mk 1 (A:=Nat) (fun n=>[(12,.c (.v (.int .i64 ((n:Int)))))]) (fun _=>[⟨3,1,(lF b W i).map intC,true,true⟩]) (fun n=>i*W≤n∧n≤8*b.length∧∀ m,i*W≤m→m<n→EP b (m:Int)=0) (fun n=>8*b.length-n) (i*W) ⟨⟨rfl,all1 (AP (Am _))⟩,rfl,aN _,by omega,fun m h1 h2=>by omega⟩ ?_
  rintro n ⟨hn1,hn2,hz⟩
  simp only[go_sem,ae,e8]
  refine cndC.mk (fun h2=>?_) (fun h2=>?_)
  ·have hn':n<8*b.length:=by simp at h2; omega
   simp only[go_sem]
   refine CallK.mk _ (V6 b _ hb hl (by omega)) fun _=>?_
   rcases h5:EP b (n:Int) != 0 with _ | _
   ·have h5':EP b (n:Int)=0:=by simpa using h5
    simp only[go_sem,h5,wrap_i64 (n:=(n:Int)+1) (by omega) (by omega)]
    exact⟨n+1,⟨rfl,all1 (AP (Am _))⟩,rfl,⟨by omega,by omega,fun m h1 h2=>by
     by_cases e:m=n
     ·subst e; exact h5'
     ·exact hz m h1 (by omega)⟩,by omega⟩
   ·have h5':EP b (n:Int)≠0:=by simpa using h5
    have:unpack b W i=none:=by
     unfold unpack
     rw[aV]
     rintro⟨_,q⟩
     exact h5' (q n (abC.2 hn') (by omega))
    rw[this]
    simp only[go_sem,h5,XO]
    try simp[Df]
  ·have hn':n=8*b.length:=by simp at h2; omega
   subst hn'
   have:unpack b W i=some (lF b W i):=by
    unfold unpack
    rw[bz ⟨⟨hw0,hk0,hlen⟩,fun n hn h=>hz n (by omega) (abC.1 hn)⟩]
    simp only[bY,lF]
   rw[this]
   simp only[go_sem,XO,Am]
   try simp[AU,AO]
end Go.Proofs.YtnfbaclikokapaaGreat
