/- A part. -/
import Derived.Test.YtnfbaclikokapaaGreatYd
set_option linter.unusedSimpArgs false
set_option linter.unusedVariables false
set_option maxHeartbeats 2000000
set_option maxRecDepth 10000
open Go.Proofs.Tryz
namespace Go.Proofs.YtnfbaclikokapaaGreat
open Go.Vm
def VF (l:List Int) (w:Int):Prop:=(0≤w∧w≤31)∧∀ n∈l,(0≤n∧n≤2147483647)∧Aj n≤w
def pb (l:List Int) (W N m:Nat):Int:=FN l (W:Int) m (min 8 (N-8*m))
def Uk (l:List Int) (W N c:Nat):List Int:=(List.range c).map fun m=>pb l W N m
theorem Kr (l:List Int) (W N c:Nat):(Uk l W N c).length=c:=by simp[Uk]
theorem SA (l:List Int) (w:Int) (n:Nat):0≤EH l w n∧EH l w n≤1:=by
 unfold EH
 split<;>omega
theorem V7 (l:List Int) (w:Int) (m:Nat):∀ t:Nat,0≤FN l w m t∧FN l w m t<2 ^ t
 | 0=>by simp[FN]
 | t+1=>by
  have h1:=V7 l w m t
  have h2:=SA l w (8*m+t)
  have hp:(0:Int)<2 ^ t:=Int.pow_pos (by omega)
  have h3:0≤EH l w (8*m+t)*2 ^ t:=aaY h2.1 (by omega)
  have h4:EH l w (8*m+t)*2 ^ t≤1*2 ^ t:=zt h2.2 (by omega)
  rw[FN,wB]; omega
theorem pO {l:List Int} {W n:Nat} (h:l.length*W≤n) (hW:0<W):EH l (W:Int) n=0:=by
 unfold EH
 rw[bY,nR]
 exact(Nat.le_div_iff_mul_le hW).2 h
theorem UF {l:List Int} {W m:Nat} (hW:0<W):∀ t s:Nat,l.length*W≤8*m+t→FN l (W:Int) m (t+s)=FN l (W:Int) m t
 | t,0,_=>rfl
 | t,s+1,h=>by
  rw[show t+(s+1)=(t+s)+1 by omega,FN,pO (by omega) hW,UF hW t s h]; simp
theorem AE2 {l:List Int} {W m:Nat} (hW:0<W):pb l W (l.length*W) m=FN l (W:Int) m 8:=by
 unfold pb
 rcases bI (l.length*W-8*m) 8 with h | h
 ·rw[Nat.min_eq_right (by omega)]
  have:=UF (l:=l) (m:=m) hW (l.length*W-8*m) (8-(l.length*W-8*m)) (by omega)
  rw[← this]; congr 1; omega
 ·rw[X4 h]
theorem V8 {l:List Int} {W:Nat} (h:VF l W):Dx l W=Uk l W (l.length*W) ((l.length*W+7)/8):=by
 unfold Dx Uk
 unfold VF at h
 rw[bz h,bY]
 refine aaM fun m hm=>?_
 have hm':=abC.1 hm
 rcases abo W with rfl | hW
 ·omega
 ·exact(AE2 hW).symm
theorem MX {l:List Int} {w:Int} (h:¬ VF l w):Dx l w = []:=by
 unfold Dx
 exact aV h
theorem Yc {l:List Int} {W i k:Nat} (hi:i<l.length) (hk:k<W):EH l (W:Int) (i*W+k)=l[i]/2 ^ k%2:=by
 unfold EH
 have e1:(i*W+k)/W=i:=by rw[Nat.mul_comm,Nat.mul_add_div (by omega),Nat.div_eq_of_lt hk]; rfl
 have e2:(i*W+k)%W=k:=by rw[Nat.mul_comm,Nat.mul_add_mod,abE hk]
 rw[bY,e1,e2,aA hi]
theorem XP (l:List Int) (W N:Nat):pb l W (N+1) (N/8)=pb l W N (N/8)+EH l (W:Int) N*2 ^ (N%8):=by
 unfold pb
 have e1:min 8 (N+1-8*(N/8))=N%8+1:=by omega
 have e2:min 8 (N-8*(N/8))=N%8:=by omega
 rw[e1,e2,FN]
 have e3:8*(N/8)+N%8=N:=by omega
 rw[e3]
theorem xB (l:List Int) (W N m:Nat) (h:m≠N/8):pb l W (N+1) m=pb l W N m:=by
 unfold pb
 have e1:min 8 (N+1-8*m)=min 8 (N-8*m):=by omega
 rw[e1]
theorem AG0 (l:List Int) (W N:Nat):0≤pb l W N (N/8)∧pb l W N (N/8)<2 ^ (N%8):=by
 unfold pb
 have e2:min 8 (N-8*(N/8))=N%8:=by omega
 rw[e2]
 exact V7 _ _ _ _
theorem jk (l:List Int) (W N c:Nat) (h:N/8<c):((Uk l W N c).map byteC).set (N/8) [.v (.int .u8 (pb l W (N+1) (N/8)))]=(Uk l W (N+1) c).map byteC:=by
 apply List.ext_getElem?
 intro m
 rw[bZ]
 by_cases e:N/8=m
 ·subst e
  simp[Uk,h,NM]
 ·simp only[aV e]
  simp only[Uk,List.map_map,lD]
  cases hm:(List.range c)[m]? with
  | none=>rfl
  | some x =>
   have hx:x=m:=by
    rw[List.getElem?_range] at hm
    ·simpa using hm.symm
    ·have:=(az.1 hm).1
     simpa using this
   subst hx
   simp only[bP,Function.comp,xB l W N x (fun h=>e h.symm)]
theorem OV (l:List Int) (W N c:Nat) {m:Nat} (h:m<c):((Uk l W N c).map byteC)[m]?=some [.v (.int .u8 (pb l W N m))]:=by
 simp[Uk,h,NM]
theorem ABi (l:List Int) (W c:Nat):List.replicate c [.v (.int .u8 0)]=(Uk l W 0 c).map byteC:=by
 apply List.ext_getElem?
 intro m
 by_cases h:m<c
 ·rw[OV l W 0 c h,List.getElem?_replicate,bz h]; simp[pb,FN]
 ·rw[nR (by simp; omega),nR (by simp[Kr]; omega)]
theorem AD4 {x:Int} {k:Nat} (h0:0≤x) (h1:x≤2147483647) (hk:k≤31):IntKind.i64.wrap (X7 .i64 (IntKind.i64.wrap (x.fdiv (2 ^ min k 64))) 1)=x/2 ^ k%2:=by
 have hP:0≤x/2 ^ k:=Int.ediv_nonneg h0 (yX (by omega))
 have hP2:x/2 ^ k≤x:=Int.ediv_le_self _ h0
 rw[aaL _ (yX (by omega)),X4 (by omega),wrap_i64 (n:=x/2 ^ k) (by omega) (by omega),AD3 hP (by omega),wrap_i64 (by omega) (by omega)]
theorem AE3 {s:Nat} (h:s≤7):(1:Int)≤2 ^ s∧(2:Int) ^ s≤128:=by
 have:s=0∨s=1∨s=2∨s=3∨s=4∨s=5∨s=6∨s=7:=by omega
 rcases this with rfl | rfl | rfl | rfl | rfl | rfl | rfl | rfl<;>decide
theorem AD5 (l:List Int) (W N:Nat) {x:Int} (h0:0≤x) (h1:x≤1):IntKind.u8.wrap (orK .u8 (pb l W N (N/8)) (x*2 ^ (N%8)))=pb l W N (N/8)+x*2 ^ (N%8):=by
 have hb:=AG0 l W N
 obtain⟨p1,p2⟩:=AE3 (s:=N%8) (by omega)
 have h3:0≤x*2 ^ (N%8):=aaY h0 (by omega)
 have h4:x*2 ^ (N%8)≤1*2 ^ (N%8):=zt h1 (by omega)
 rw[YZ .u8 hb.1 hb.2 h0 (by simp[IntKind.bits]; omega),wrap_u8 (by omega) (by omega)]
theorem ABj {l:List Int} {W i k:Nat} (hi:i<l.length) (hk:k<W) (hW:W≤31) (h0:0≤l[i]) (h1:l[i]≤2147483647) :
  IntKind.u8.wrap (orK .u8 (pb l W (i*W+k) ((i*W+k)/8)) (IntKind.u8.wrap (IntKind.i64.wrap (IntKind.i64.wrap (X7 .i64 (IntKind.i64.wrap (l[i].fdiv (2 ^ min k 64))) 1)*2 ^ min ((i*W+k)%8) 64))))=pb l W (i*W+k+1) ((i*W+k)/8):=by
 have hbit:=Yc (l:=l) hi hk
 have h01:=SA l (W:Int) (i*W+k)
 obtain⟨p1,p2⟩:=AE3 (s:=(i*W+k)%8) (by omega)
 have h3:0≤EH l (W:Int) (i*W+k)*2 ^ ((i*W+k)%8):=aaY h01.1 (by omega)
 have h4:EH l (W:Int) (i*W+k)*2 ^ ((i*W+k)%8)≤1*2 ^ ((i*W+k)%8):=zt h01.2 (by omega)
 rw[AD4 h0 h1 (by omega),← hbit,X4 (by omega),wrap_i64 (by omega) (by omega),wrap_u8 (n:=EH l (W:Int) (i*W+k)*2 ^ ((i*W+k)%8)) (by omega) (by omega),AD5 l W _ h01.1 h01.2,XP]
theorem pR (l:List Int) (W N c:Nat) (h:EH l (W:Int) N=0):Uk l W (N+1) c=Uk l W N c:=by
 unfold Uk
 refine aaM fun m _=>?_
 by_cases e:m=N/8
 ·subst e; rw[XP,h]; simp
 ·exact xB l W N m e
theorem zO (l:List Int) (W N:Nat) (h:N%8=0):(Uk l W N ((N+7)/8)).map byteC ++ [[.v (.int .u8 0)]]=(Uk l W N (N/8+1)).map byteC:=by
 have e:(N+7)/8=N/8:=by omega
 have e2:min 8 (N-8*(N/8))=0:=by omega
 rw[e,Uk,Uk,List.range_succ,Vp,Vp]
 simp[pb,e2,FN,NM]
theorem pU (l:List Int) (w:Int) (hl:l.length≤1048576):∃ r:Bool,(r=true↔VF l w)∧Ctr prog 332 [.c (.sl (l.map intC)),.c (.v (.int .i64 (w)))] [.val (.c (.v (.bool (r))))]:=by
 haveI:Decidable (VF l w):=Classical.propDecidable _
 refine⟨decide (VF l w),by simp, ?_⟩
 refine CM call332 func332 ntmps332 results332 fun hw=>?_
 simp only[go_sem,ae]
 refine LoopU.mk 0 (A:=Nat) (fun x=>[(5,.c (.v (.int .i64 (x))))]) (fun _=>[]) (fun x=>x≤l.length∧∀ m (h:m<l.length),m<x→(0≤l[m]∧l[m]≤2147483647)∧Aj l[m]≤w) (fun x=>l.length-x) 0 ⟨⟨rfl,rfl⟩,rfl,ax _,fun m h h2=>by omega⟩ ?_
 rintro i ⟨hi,hb⟩
 simp only[go_sem,ae]
 refine cndC.mk (fun h=>?_) (fun h=>?_)
 ·have hi':i<l.length:=by simpa using h
  simp only[go_sem,ae,AA _ hi']
  refine CallK.mk _ (AL _ _ _) fun _=>?_
  rcases h1:Ac l[i] 0 2147483647 with _ | _
  ·simp only[go_sem,h1]
   have:¬ VF l w:=by
    rintro⟨_,q⟩
    have:=(q _ (aj hi')).1
    simp[Ac] at h1; omega
   simp only[this,abH]
  simp only[go_sem,h1,ae,AA _ hi']
  refine CallK.mk _ (IK _) fun _=>?_
  rcases h2:decide (Aj l[i]>w) with _ | _
  ·simp only[go_sem,h1,h2,wrap_i64 (n:=(i:Int)+1) (by omega) (by omega)]
   exact⟨i+1,⟨rfl,rfl⟩,rfl,⟨hi',fun m h3 h4=>by
    by_cases e:m=i
    ·subst e; simp[Ac] at h1; simp at h2; exact⟨h1,h2⟩
    ·exact hb m h3 (by omega)⟩,by omega⟩
  ·simp only[go_sem,h1,h2]
   have:¬ VF l w:=by
    rintro⟨_,q⟩
    have:=(q _ (aj hi')).2
    simp at h2; omega
   simp only[this,abH]
 ·have hi':i=l.length:=by simp at h; omega
  subst hi'
  simp only[go_sem]
  refine CallK.mk _ (AL _ _ _) fun _=>?_
  simp only[go_sem]
  have hall:∀ n∈l,(0≤n∧n≤2147483647)∧Aj n≤w:=fun n hn=>by
   obtain⟨m,hm,rfl⟩:=aaI hn
   exact hb m hm hm
  congr 4
  rw[Bool.eq_iff_iff]
  simp only[bf]
  constructor
  ·intro q; exact⟨by simp[Ac] at q; omega,hall⟩
  ·intro q; have:=q.1; simp[Ac]; omega
theorem Yd (l:List Int) (w:Int) (hl:l.length≤64):Ctr prog 325 [.c (.sl (l.map intC)),.c (.v (.int .i64 (w)))] [.own 5 1 ((Dx l w).map byteC) true]:=by
 refine CM call325 func325 ntmps325 results325 fun hw=>?_
 simp only[go_sem,ae]
 refine CallK.mk _ (AC _ _ _) fun _=>?_
 rcases h1:Ac w 0 31 with _ | _
 ·have:¬ VF l w:=by rintro⟨q,_⟩; simp[Ac] at h1; omega
  simp only[go_sem,h1,MX this,dh]
  try simp[Df]
 have hw0:0≤w∧w≤31:=by simp[Ac] at h1; omega
 obtain⟨W,rfl⟩:=aP hw0.1
 simp only[go_sem,h1,ae]
 refine LoopU.mk 0 (A:=Nat) (fun x=>[(17,.c (.v (.int .i64 (x))))]) (fun _=>[]) (fun x=>x≤l.length∧∀ m (h:m<l.length),m<x→(0≤l[m]∧l[m]≤2147483647)∧Aj l[m]≤W) (fun x=>l.length-x) 0 ⟨⟨rfl,rfl⟩,rfl,ax _,fun m h h2=>by omega⟩ ?_
 rintro i ⟨hi,hb⟩
 simp only[go_sem,ae]
 refine cndC.mk (fun h=>?_) (fun h=>?_)
 ·have hi':i<l.length:=by simpa using h
  simp only[go_sem,ae,AA _ hi']
  refine CallK.mk _ (AC _ _ _) fun _=>?_
  rcases h1:Ac l[i] 0 2147483647 with _ | _
  ·simp only[go_sem,h1]
   have:¬ VF l W:=by
    rintro⟨_,q⟩
    have:=(q _ (aj hi')).1
    simp[Ac] at h1; omega
   rw[MX this]
   simp only[go_sem]
   try simp[Df]
  simp only[go_sem,h1,ae,AA _ hi']
  refine CallK.mk _ (Jk _) fun _=>?_
  rcases h2:decide (Aj l[i]>W) with _ | _
  ·simp only[go_sem,h1,h2,wrap_i64 (n:=(i:Int)+1) (by omega) (by omega)]
   exact⟨i+1,⟨rfl,rfl⟩,rfl,⟨hi',fun m h3 h4=>by
    by_cases e:m=i
    ·subst e; simp[Ac] at h1; simp at h2; exact⟨h1,h2⟩
    ·exact hb m h3 (by omega)⟩,by omega⟩
  ·simp only[go_sem,h1,h2]
   have:¬ VF l W:=by
    rintro⟨_,q⟩
    have:=(q _ (aj hi')).2
    simp at h2; omega
   rw[MX this]
   simp only[go_sem]
   try simp[Df]
 have hi':i=l.length:=by simp at h; omega
 subst hi'
 have hfit:VF l W:=⟨hw0,fun n hn=>by
  obtain⟨m,hm,rfl⟩:=aaI hn
  exact hb m hm hm⟩
 have hLW:l.length*W≤64*31:=abh (by omega) (by omega)
 have eLW:(l.length:Int)*W=((l.length*W:Nat):Int):=by simp
 have e1:IntKind.i64.wrap ((l.length:Int)*W)=((l.length*W:Nat):Int):=by rw[wrap_i64 (by omega) (by omega),eLW]
 have e2:IntKind.i64.wrap (((l.length*W:Nat):Int)+7)=((l.length*W+7:Nat):Int):=by rw[wrap_i64 (by omega) (by omega)]; omega
 obtain⟨c,hcd⟩:∃ c,c=(l.length*W+7)/8:=⟨_,rfl⟩
 have e3:IntKind.i64.wrap ((((l.length*W+7:Nat):Int)).tdiv 8)=(c:Int):=by rw[df (by omega),wrap_i64 (by omega) (by omega)]; omega
 have hf1:(0≤(c:Int))=True:=by simp
 have hf2:((c:Int)≤(c:Int))=True:=by simp
 have hf3:((c:Int)≤2147483648)=True:=by simp; omega
 simp only[go_sem,ae,e1,e2,e3,hf1,hf2,hf3,ABi l W]
 rw[V8 hfit,← hcd]
 refine LoopU.mk 1 (A:=Nat) (fun i=>[(40,.c (.v (.int .i64 (i))))]) (fun i=>[⟨5,1,(Uk l W (i*W) c).map byteC,true,true⟩]) (fun i=>i≤l.length) (fun i=>l.length-i) 0 ⟨⟨rfl,all1 (AP (Bg _))⟩,by rw[Nat.zero_mul]; rfl,ax _⟩ ?_
 intro i hi
 simp only[go_sem,ae]
 refine cndC.mk (fun h=>?_) (fun h=>?_)
 ·have hi':i<l.length:=by simpa using h
  have hli:=hb i hi' hi'
  simp only[go_sem,ae,AA _ hi']
  refine LoopU.mk 1 (A:=Nat) (fun k=>[(10,.c (.v (.int .i64 (k))))]) (fun k=>[⟨5,1,(Uk l W (i*W+k) c).map byteC,true,true⟩]) (fun k=>k≤W) (fun k=>W-k) 0 ⟨⟨rfl,all1 (AP (Bg _))⟩,rfl,ax _⟩ ?_
  intro k hk
  simp only[go_sem,ae]
  refine cndC.mk (fun h=>?_) (fun h=>?_)
  ·have hk':k<W:=by simp at h; omega
   have hN:i*W+k<l.length*W:=by
    have:(i+1)*W≤l.length*W:=aaE _ hi'
    rw[iW] at this; omega
   have hNc:(i*W+k)/8<c:=by omega
   have hiW:i*W≤64*31:=abh (by omega) (by omega)
   have eiW:(i:Int)*W=((i*W:Nat):Int):=by simp
   have q1:IntKind.i64.wrap ((i:Int)*W)=((i*W:Nat):Int):=by rw[wrap_i64 (by omega) (by omega),eiW]
   have q2:IntKind.i64.wrap (((i*W:Nat):Int)+k)=((i*W+k:Nat):Int):=by rw[wrap_i64 (by omega) (by omega)]; omega
   have q3:IntKind.i64.wrap ((((i*W+k:Nat):Int)).tdiv 8)=(((i*W+k)/8:Nat):Int):=by rw[df (by omega),wrap_i64 (by omega) (by omega)]; omega
   have q4:IntKind.i64.wrap ((((i*W+k:Nat):Int)).tmod 8)=(((i*W+k)%8:Nat):Int):=by rw[aat (by omega),wrap_i64 (by omega) (by omega)]; omega
   simp only[go_sem,ae,q1,q2,q3,q4,Kr,OV l W _ c hNc,hNc]
   refine DrawK.mkE ?_
   simp only[go_sem,ae,q1,q2,q3,q4,Kr,OV l W _ c hNc,hNc]
   rw[ABj hi' hk' (by omega) hli.1.1 hli.1.2,jk l W _ c hNc]
   simp only[wrap_i64 (n:=(k:Int)+1) (by omega) (by omega)]
   exact⟨k+1,⟨rfl,all1 (AP (Bg _))⟩,rfl,hk',by omega⟩
  ·have hk':k=W:=by simp at h; omega
   subst hk'
   simp only[go_sem,wrap_i64 (n:=(i:Int)+1) (by omega) (by omega)]
   exact⟨i+1,⟨rfl,all1 (AP (Bg _))⟩,by rw[iW,Nat.one_mul]; rfl,hi',by omega⟩
 ·have hi':i=l.length:=by simp at h; omega
  subst hi'
  simp only[go_sem,Bg]
  try simp[AU,AO]
theorem Ye (l:List Int) (w:Int) (hl:l.length≤64):Ctr prog 313 [.c (.sl (l.map intC)),.c (.v (.int .i64 (w)))] [.own 5 1 ((Dx l w).map byteC) true]:=by
 refine CM call313 func313 ntmps313 results313 fun hw=>?_
 simp only[go_sem,ae]
 obtain⟨r,hr,hc⟩:=pU l w (by omega)
 refine CallK.mk _ hc fun _=>?_
 cases r with
 | false =>
  have:¬ VF l w:=fun q=>by have:=hr.2 q; cases this
  simp only[go_sem,MX this,dh]
  try simp[Df]
 | true =>
 have hfit:=hr.1 rfl
 simp only[go_sem,ae]
 obtain⟨W,rfl⟩:=aP hfit.1.1
 have hW31:W≤31:=by have:=hfit.1.2; omega
 have hLW:l.length*W≤64*31:=abh (by omega) (by omega)
 rw[V8 hfit]
 refine LoopH.mk [9] (A:=Nat) (fun i=>[(7,.c (.v (.int .i64 (i)))),(6,.c (.v (.int .i64 ((i*W:Nat):Int)))),(5,.c (.ref 0))]) (fun i=>[⟨5,1,(Uk l W (i*W) ((i*W+7)/8)).map byteC,true,true⟩]) (fun i=>i≤l.length) (fun i=>l.length-i) 0 (Head.sel [(0,false)] ⟨rfl,rfl,rfl,trivial⟩ (by rw[Nat.zero_mul]; rfl)) (ax _) ?_
 intro i hi
 simp only[go_sem,ae]
 refine cndC.mk (fun h=>?_) (fun h=>?_)
 ·have hi':i<l.length:=by simp at h; omega
  have hli:=hfit.2 _ (aj hi')
  simp only[go_sem,ae]
  refine LoopH.mk [] (A:=Nat) (fun k=>[(8,.c (.v (.int .i64 (k)))),(6,.c (.v (.int .i64 ((i*W+k:Nat):Int)))),(5,.c (.ref 0))]) (fun k=>[⟨5,1,(Uk l W (i*W+k) ((i*W+k+7)/8)).map byteC,true,true⟩]) (fun k=>k≤W) (fun k=>W-k) 0 (Head.sel [(0,false)] ⟨rfl,rfl,AQ byteC.pure,trivial⟩ rfl) (ax _) ?_
  intro k hk
  simp only[go_sem,ae]
  refine cndC.mk (fun h=>?_) (fun h=>?_)
  ·have hk':k<W:=by simp at h; omega
   have hN:i*W+k<l.length*W:=by
    have:(i+1)*W≤l.length*W:=aaE _ hi'
    rw[iW] at this; omega
   have hbit:=Yc (l:=l) hi' hk'
   generalize hNN:i*W+k=N at hN hbit
   have q3:IntKind.i64.wrap (((N:Nat):Int).tdiv 8)=((N/8:Nat):Int):=by rw[df (by omega),wrap_i64 (by omega) (by omega)]; omega
   have q4:IntKind.i64.wrap (((N:Nat):Int).tmod 8)=((N%8:Nat):Int):=by rw[aat (by omega),wrap_i64 (by omega) (by omega)]; omega
   have q5:IntKind.i64.wrap ((N:Int)+1)=((N+1:Nat):Int):=by rw[wrap_i64 (by omega) (by omega)]; omega
   have q6:IntKind.i64.wrap ((k:Int)+1)=((k+1:Nat):Int):=by rw[wrap_i64 (by omega) (by omega)]; omega
   have hNc:N/8<N/8+1:=by omega
   have hol2:(N+7)/8+1≤2147483648:=by omega
   have hs1:=AD4 (k:=k) hli.1.1 hli.1.2 (by omega)
   rw[← hbit] at hs1
   have h01:=SA l (W:Int) N
   obtain⟨p1,p2⟩:=AE3 (s:=N%8) (by omega)
   have hsh:IntKind.u8.wrap (1*2 ^ min (N%8) 8)=1*2 ^ (N%8):=by rw[X4 (by omega),wrap_u8 (by omega) (by omega)]
   have hor:=AD5 l W N (x:=1) (by omega) (by omega)
   rcases h8:((N%8:Nat):Int)==0 with _ | _<;>rcases h9:EH l (W:Int) N==1 with _ | _
   all_goals
    have hsn:N%8=0→(Uk l W N ((N+7)/8)).map byteC ++ [[.v (.int .u8 0)]]=(Uk l W N (N/8+1)).map byteC:=zO l W N
   case false.false =>
    have e0:EH l (W:Int) N=0:=by simp at h9; omega
    have h8':N%8≠0:=by simp at h8; omega
    simp only[go_sem,ae,q3,q4,q5,q6,h8,h9,hs1,AA _ hi',Kr]
    have hr:Uk l W (N+1) ((N+1+7)/8)=Uk l W N ((N+7)/8):=by rw[pR l W N _ e0,show (N+1+7)/8=(N+7)/8 by omega]
    exact⟨k+1,Head.sel [(0,false)] ⟨rfl,rfl,AQ byteC.pure,trivial⟩ (by rw[show i*W+(k+1)=N+1 by omega,hr]; rfl),hk',by omega⟩
   case true.false =>
    have e0:EH l (W:Int) N=0:=by simp at h9; omega
    have h8':N%8=0:=by simp at h8; omega
    have hsn:=hsn h8'
    simp only[go_sem,ae,bK,dm,q3,q4,q5,q6,h8,h9,hs1,hsn,hol2,aJ,AA _ hi',Kr]
    have hr:Uk l W (N+1) ((N+1+7)/8)=Uk l W N (N/8+1):=by rw[pR l W N _ e0,show (N+1+7)/8=N/8+1 by omega]
    exact⟨k+1,Head.sel [(2,false)] ⟨rfl,rfl,AQ byteC.pure,trivial⟩ (by rw[show i*W+(k+1)=N+1 by omega,hr]; rfl),hk',by omega⟩
   case false.true =>
    have e1:EH l (W:Int) N=1:=by simpa using h9
    have h8':N%8≠0:=by simp at h8; omega
    have ec:(N+7)/8=N/8+1:=by omega
    have hv:pb l W N (N/8)+1*2 ^ (N%8)=pb l W (N+1) (N/8):=by rw[XP,e1]
    rw[hv] at hor
    have hset:=jk l W N (N/8+1) hNc
    simp only[go_sem,ae,q3,q4,q5,q6,h8,h9,hs1,ec,hsh,hor,AA _ hi',Kr,OV l W N _ hNc,hNc]
    refine DrawK.mkE ?_
    simp only[go_sem,ae,q3,q4,q5,q6,h8,h9,hs1,ec,hsh,hor,AA _ hi',Kr,OV l W N _ hNc,hNc,hset]
    exact⟨k+1,Head.sel [(0,false)] ⟨rfl,rfl,AQ byteC.pure,trivial⟩ (by rw[show i*W+(k+1)=N+1 by omega,show (N+1+7)/8=N/8+1 by omega]; rfl),hk',by omega⟩
   case true.true =>
    have e1:EH l (W:Int) N=1:=by simpa using h9
    have h8':N%8=0:=by simp at h8; omega
    have hsn:=hsn h8'
    have hv:pb l W N (N/8)+1*2 ^ (N%8)=pb l W (N+1) (N/8):=by rw[XP,e1]
    rw[hv] at hor
    have hset:=jk l W N (N/8+1) hNc
    simp only[go_sem,ae,bK,dm,q3,q4,q5,q6,h8,h9,hs1,hsn,hol2,aJ,hsh,hor,AA _ hi',Kr,OV l W N _ hNc,hNc]
    refine DrawK.mkE ?_
    simp only[go_sem,ae,q3,q4,q5,q6,h8,h9,hs1,hsn,hsh,hor,AA _ hi',Kr,OV l W N _ hNc,hNc,hset]
    exact⟨k+1,Head.sel [(2,false)] ⟨rfl,rfl,AQ byteC.pure,trivial⟩ (by rw[show i*W+(k+1)=N+1 by omega,show (N+1+7)/8=N/8+1 by omega]; rfl),hk',by omega⟩
  ·have hk':k=W:=by simp at h; omega
   subst hk'
   simp only[go_sem,wrap_i64 (n:=(i:Int)+1) (by omega) (by omega)]
   exact⟨i+1,Head.sel [(0,false)] ⟨rfl,rfl,AQ byteC.pure,trivial⟩ (by rw[iW,Nat.one_mul]; rfl),hi',by omega⟩
 ·have hi':i=l.length:=by simp at h; omega
  subst hi'
  simp only[go_sem,Bg]
  try simp[AU,AO]
theorem Qm {l:List DVal} (h0:0<l.length) {i:Nat} (hi:i<l.length) (h:¬ (BD l[i]=true∧l[i].ty=l[0].ty)):typeOf l=0:=by
 cases l with
 | nil=>simp at h0
 | cons v r =>
  show (if(v::r).length≤64∧_ then v.ty else 0)=0
  rw[aV]
  rintro⟨_,q⟩
  exact h (q _ (aj hi))
theorem EG (l:List Int):F5 (l.map byteC)=true:=AQ byteC.pure
theorem Be (l:List Int):F5 (l.map intC)=true:=AQ VE
theorem OW (l:List DVal):F5 (l.map DVal.c)=true:=AQ DVal.pure
theorem uP (s:ByteArray):MQ s=(o8 s).map byteC:=by simp only[MQ,o8,List.map_map]; rfl
attribute [go_sem] bK dm aW bU X5 ae uP aJ Nat.zero_lt_succ bD
theorem P6 (a b:List Int):a.map byteC++b.map byteC=(a++b).map byteC:=Vp.symm
theorem Bz (l:List DVal) (hl:l.length≤1048576):Ctr prog 274 [.c (.sl (l.map DVal.c))] [.val (.c (.v (.int .i64 (typeOf l))))]:=by
 refine CM call274 func274 ntmps274 results274 fun hw=>?_
 simp only[go_sem,ae]
 refine CallK.mk _ (AC _ _ _) fun _=>?_
 rcases h1:Ac (l.length:Int) 1 64 with _ | _
 ·have:typeOf l=0:=by
   cases l with
   | nil=>rfl
   | cons v r =>
    show (if(v::r).length≤64∧_ then v.ty else 0)=0
    rw[aV]
    rintro⟨q,_⟩
    simp[Ac] at h1 q; omega
  simp only[go_sem,h1,this]
 have hlen:1≤l.length∧l.length≤64:=by simp[Ac] at h1; omega
 have h0:0<l.length:=by omega
 simp only[go_sem,h1,ae]
 refine LoopU.mk 0 (A:=Nat) (fun x=>[(11,.c (.v (.int .i64 (x))))]) (fun _=>[]) (fun x=>x≤l.length∧∀ m (h:m<l.length),m<x→BD l[m]=true∧l[m].ty=l[0].ty) (fun x=>l.length-x) 0 ⟨⟨rfl,rfl⟩,rfl,ax _,fun m h h2=>by omega⟩ ?_
 rintro i ⟨hi,hb⟩
 simp only[go_sem,ae]
 refine cndC.mk (fun h=>?_) (fun h=>?_)
 ·have hi':i<l.length:=by simp at h; omega
  simp only[go_sem,ae,AA _ hi',AA _ h0,aJ]
  refine DrawK.mk ?_
  simp only[go_sem,ae,AA _ hi',AA _ h0,aJ]
  refine CY (C9 l[i]) ?_
  simp only[go_sem,ae,AA _ hi',AA _ h0,aJ]
  rcases h2:BD l[i] with _ | _
  ·rw[Qm h0 (i:=i) hi' (fun q=>by rw[h2] at q; cases q.1)]
   simp only[go_sem,h2]
  rcases h3:l[i].ty != l[0].ty with _ | _
  ·have h3':l[i].ty=l[0].ty:=by simpa using h3
   simp only[go_sem,ae,AA _ hi',AA _ h0,h2,h3,wrap_i64 (n:=(i:Int)+1) (by omega) (by omega)]
   exact⟨i+1,⟨rfl,rfl⟩,rfl,⟨hi',fun m h4 h5=>by
    by_cases e:m=i
    ·subst e; exact⟨h2,h3'⟩
    ·exact hb m h4 (by omega)⟩,by omega⟩
  ·have h3':l[i].ty≠l[0].ty:=by simpa using h3
   rw[Qm h0 (i:=i) hi' (fun q=>h3' q.2)]
   simp only[go_sem,ae,AA _ hi',AA _ h0,h2,h3]
 ·have hi':i=l.length:=by simp at h; omega
  subst hi'
  have:typeOf l=l[0].ty:=Qj hlen.1 hlen.2 fun v hv=>by
   obtain⟨m,hm,rfl⟩:=aaI hv
   exact hb m hm hm
  rw[this]
  simp only[go_sem,ae,AA _ h0]
theorem D8 (l:List DVal) (hl:l.length≤1048576):Ctr prog 265 [.c (.sl (l.map DVal.c))] [.val (.c (.v (.int .i64 (typeOf l))))]:=by
 refine CM call265 func265 ntmps265 results265 fun hw=>?_
 simp only[go_sem,ae]
 refine CallK.mk _ (AL _ _ _) fun _=>?_
 rcases h1:Ac (l.length:Int) 1 64 with _ | _
 ·have:typeOf l=0:=by
   cases l with
   | nil=>rfl
   | cons v r =>
    show (if(v::r).length≤64∧_ then v.ty else 0)=0
    rw[aV]
    rintro⟨q,_⟩
    simp[Ac] at h1 q; omega
  simp only[go_sem,h1,this]
 have hlen:1≤l.length∧l.length≤64:=by simp[Ac] at h1; omega
 have h0:0<l.length:=by omega
 simp only[go_sem,h1,ae]
 refine LoopU.mk 0 (A:=Nat) (fun x=>[(3,.c (.v (.int .i64 (x))))]) (fun _=>[]) (fun x=>x≤l.length∧∀ m (h:m<l.length),m<x→BD l[m]=true∧l[m].ty=l[0].ty) (fun x=>l.length-x) 0 ⟨⟨rfl,rfl⟩,rfl,ax _,fun m h h2=>by omega⟩ ?_
 rintro i ⟨hi,hb⟩
 simp only[go_sem,ae]
 refine cndC.mk (fun h=>?_) (fun h=>?_)
 ·have hi':i<l.length:=by simp at h; omega
  simp only[go_sem,ae,AA _ hi',AA _ h0,aJ]
  refine DrawK.mk ?_
  simp only[go_sem,ae,AA _ hi',AA _ h0,aJ]
  refine CY (G_ l[i]) ?_
  simp only[go_sem,ae,AA _ hi',AA _ h0,aJ]
  rcases h2:BD l[i] with _ | _
  ·rw[Qm h0 (i:=i) hi' (fun q=>by rw[h2] at q; cases q.1)]
   simp only[go_sem,h2]
  rcases h3:l[i].ty != l[0].ty with _ | _
  ·have h3':l[i].ty=l[0].ty:=by simpa using h3
   simp only[go_sem,ae,AA _ hi',AA _ h0,h2,h3,wrap_i64 (n:=(i:Int)+1) (by omega) (by omega)]
   exact⟨i+1,⟨rfl,rfl⟩,rfl,⟨hi',fun m h4 h5=>by
    by_cases e:m=i
    ·subst e; exact⟨h2,h3'⟩
    ·exact hb m h4 (by omega)⟩,by omega⟩
  ·have h3':l[i].ty≠l[0].ty:=by simpa using h3
   rw[Qm h0 (i:=i) hi' (fun q=>h3' q.2)]
   simp only[go_sem,ae,AA _ hi',AA _ h0,h2,h3]
 ·have hi':i=l.length:=by simp at h; omega
  subst hi'
  have:typeOf l=l[0].ty:=Qj hlen.1 hlen.2 fun v hv=>by
   obtain⟨m,hm,rfl⟩:=aaI hv
   exact hb m hm hm
  rw[this]
  simp only[go_sem,ae,AA _ h0]
def Zr (v:DVal):List Int:=if BD v=true then UB v else []
theorem pV {v:DVal} (h:BD v=true) (h2:v.ty=1):Zr v=Wj v.n:=by
 have:DX v.n=true:=by
  simp only[BD,bz h2,ak] at h
  exact h.1
 simp only[Zr,Wj,h,this,bD,UB,bz h2]
theorem pW {v:DVal} (h:BD v=true) (h2:v.ty=2):Zr v=(v.s.size:Int)::o8 v.s∧v.s.size≤6:=by
 have h3:¬ v.ty=1:=by omega
 have:v.s.size≤6:=by
  simp only[BD,aV h3,ak,bf] at h
  exact h.1.2
 exact⟨by simp only[Zr,h,bD,UB,aV h3],this⟩
theorem OX (b:List Int) (v:DVal) (hl:b.length≤1048576):Ctr prog 318 [.c (.sl (b.map byteC)),.agg v.c] [.own 5 1 ((b++Zr v).map byteC) true]:=by
 refine CM call318 func318 ntmps318 results318 fun hw=>?_
 have hl2:b.length≤2147483648:=by omega
 simp only[go_sem,ae]
 refine CallK.mk _ (C9 v) fun _=>?_
 rcases h1:BD v with _ | _
 ·simp only[go_sem,h1,Zr]
  refine CallK.mk _ (Et b hl2) fun _=>?_
  simp only[go_sem,h1,Bg,bF]
  try simp[AU,AO]
 have hty:=Y0 h1
 rcases h2:v.ty==1 with _ | _
 rotate_left
 ·have h2':v.ty=1:=by simpa using h2
  simp only[go_sem,h1,h2]
  refine CallK.mk _ (FI b v.n hl) fun _=>?_
  rw[pV h1 h2']
  simp only[go_sem,Bg]
  try simp[AU,AO]
 have h2':v.ty=2:=by simp at h2; omega
 obtain⟨e1,e2⟩:=pW h1 h2'
 have w1:IntKind.u8.wrap (v.s.size:Int)=v.s.size:=wrap_u8 (by omega) (by omega)
 have g1:b.length+1≤2147483648:=by omega
 have g2:b.length+1+v.s.size≤2147483648:=by omega
 rw[e1]
 simp only[go_sem,h1,h2]
 refine DrawK.split 1 6 [0,1,2,3,4,5,6,7,8,9,10,11] [0,2,3,4,5,6,1,7,8,9,10,11] rfl (by kernel_rfl) (by kernel_rfl) ?_ ?_
 ·simp only[go_sem]
  refine DrawK.mkE ?_
  simp only[go_sem]
  refine CallE.mk _ (Et b hl2) ?_
  simp only[go_sem,w1,g1,g2,Bg,bM]
  try simp[AU,AO,byteC]
 ·simp only[go_sem]
  refine DrawK.mkE ?_
  simp only[go_sem,w1]
  refine CallE.mk _ (Et b hl2) ?_
  simp only[go_sem,w1,g1,g2,Bg,bM]
  try simp[AU,AO,byteC]
theorem OY (b:List Int) (v:DVal) (hl:b.length≤1048576):Ctr prog 308 [.c (.sl (b.map byteC)),.agg v.c] [.own 5 1 ((b++Zr v).map byteC) true]:=by
 refine CM call308 func308 ntmps308 results308 fun hw=>?_
 have hl2:b.length≤2147483648:=by omega
 simp only[go_sem,ae,Es,hl2,aJ]
 refine CallK.mk _ (G_ v) fun _=>?_
 rcases h1:BD v with _ | _
 ·simp only[go_sem,h1,Zr,Bg,bF]
  try simp[AU,AO]
 have hty:=Y0 h1
 rcases h2:v.ty==1 with _ | _
 rotate_left
 ·have h2':v.ty=1:=by simpa using h2
  simp only[go_sem,h1,h2,EG]
  refine CallK.mk _ (JA b v.n hl) fun _=>?_
  rw[pV h1 h2']
  simp only[go_sem,Bg]
  try simp[AU,AO]
 have h2':v.ty=2:=by simp at h2; omega
 obtain⟨e1,e2⟩:=pW h1 h2'
 have w1:IntKind.u8.wrap (v.s.size:Int)=v.s.size:=wrap_u8 (by omega) (by omega)
 have g1:b.length+1≤2147483648:=by omega
 have g2:b.length+1+v.s.size≤2147483648:=by omega
 rw[e1]
 simp only[go_sem,h1,h2]
 refine DrawK.mkE ?_
 simp only[go_sem,w1,g1,g2]
 simp only[Bg,bM]
 try simp[AU,AO,byteC]
def O1:DVal:=⟨0,0,ByteArray.empty⟩
def Yf:Option (DVal×Nat)→List Res
 | some (v,q)=>[.val (.agg v.c),.val (.c (.v (.int .i64 ((q:Int))))),.val (.c (.v (.bool (true))))]
 | none=>[.val (.agg O1.c),.val (.c (.v (.int .i64 (0)))),.val (.c (.v (.bool (false))))]
theorem Lh:∀ l:List Int,PY (l.map byteC)=some l
 | []=>rfl
 | c::l=>by
  show (match PY (l.map byteC) with | some ns=>some (c::ns) | none=>none)=_
  rw[Lh l]
theorem Gy {k:IntKind} {n:Int} {m:Nat} (h:n=(m:Int)):TT (.c (.v (.int k n)))=some m:=by
 subst h
 show (if(0:Int)≤(m:Int) then some (m:Int).toNat else none)=_
 rw[bz (by omega),bY]
theorem BC (l:List Int):((l.map byteC).all fun r=>r.length==1)=true:=aF.2 fun r hr=>by
 obtain⟨x,_,rfl⟩:=WY.1 hr
 rfl
theorem AD6 (b:List Int) (p ty:Int) (h1:ty≠1) (h2:ty≠2):Ec b p ty=none:=by
 unfold Ec
 rw[aV h1,aV (fun h=>h2 h.1)]
theorem uQ (b:List Int) (p:Int) (h:¬ (0≤p∧p<b.length)):Ec b p 2=none:=by
 unfold Ec
 rw[aV (by omega)]
 split
 ·rename_i h2
  have:b[p.toNat]?=none:=by rw[abp]; omega
  rw[this]
 ·rfl
theorem AD7 {b:List Int} {p:Nat} (h:p<b.length):Ec b (p:Int) 2=if p+1+b[p].toNat≤b.length then(if BD ⟨2,0,strOfNums ((b.drop (p+1)).take b[p].toNat)⟩=true then some (⟨2,0,strOfNums ((b.drop (p+1)).take b[p].toNat)⟩,p+1+b[p].toNat) else none) else none:=by
 unfold Ec
 rw[aV (by omega),bz ⟨rfl,by omega⟩]
 simp only[bY,aA h]
theorem UG (b:List Int) (p ty:Int) (hb:AY b) (hl:b.length≤1048576):Ctr prog 294 [.c (.sl (b.map byteC)),.c (.v (.int .i64 (p))),.c (.v (.int .i64 (ty)))] (Yf (Ec b p ty)):=by
 refine CM call294 func294 ntmps294 results294 fun hw=>?_
 rcases h1:ty==1 with _ | _
 ·have h1':ty≠1:=by simpa using h1
  simp only[go_sem,h1]
  rcases h2:ty==2 with _ | _
  ·have h2':ty≠2:=by simpa using h2
   rw[AD6 b p ty h1' h2']
   simp only[go_sem,h2]
   refine CallK.mk _ (C9 ⟨ty,0,ByteArray.empty⟩) fun _=>?_
   have hv:BD ⟨ty,0,ByteArray.empty⟩=false:=by simp[BD,h1',h2']
   simp only[go_sem,hv,Yf,O1]
  ·have:ty=2:=by simpa using h2
   subst this
   simp only[go_sem,h2]
   rcases h3:decide (p≥0) with _ | _
   ·rw[uQ b p (by simp at h3; omega)]
    simp only[go_sem,h3]
    refine CallK.mk _ (C9 ⟨2,0,ByteArray.empty⟩) fun _=>?_
    have e7:((0:Int)==0)=true:=rfl
    rcases hv:BD ⟨2,0,ByteArray.empty⟩ with _ | _<;>simp only[go_sem,hv,e7,Yf,O1]
   have h3':0≤p:=by simpa using h3
   obtain⟨p,rfl⟩:=aP h3'
   rcases h4:decide ((p:Int)<(b.length:Int)) with _ | _
   ·rw[uQ b p (by simp at h4; omega)]
    simp only[go_sem,h3,h4]
    refine CallK.mk _ (C9 ⟨2,0,ByteArray.empty⟩) fun _=>?_
    have e7:((0:Int)==0)=true:=rfl
    rcases hv:BD ⟨2,0,ByteArray.empty⟩ with _ | _<;>simp only[go_sem,hv,e7,Yf,O1]
   have hp:p<b.length:=by simpa using h4
   have hc:isByte b[p]:=hb _ (aj hp)
   obtain⟨c,hc2⟩:=aP hc.1
   have hc3:c<256:=by have:=hc.2; omega
   rw[AD7 hp]
   simp only[go_sem,h3,h4,AA _ hp,hc2,bY,wrap_i64 (n:=(p:Int)+1) (by omega) (by omega),wrap_i64 (n:=(p:Int)+1+(c:Int)) (by omega) (by omega),wrap_i64 (n:=(c:Int)) (by omega) (by omega)]
   rcases h5:decide ((p:Int)+1+(c:Int)>(b.length:Int)) with _ | _
   ·have h6:p+1+c≤b.length:=by simp at h5; omega
    have q1:=Gy (k:=.i64) (n:=(p:Int)+1) (m:=p+1) (by omega)
    have q2:=Gy (k:=.i64) (n:=(p:Int)+1+(c:Int)) (m:=p+1+c) (by omega)
    have q5:p+1≤p+1+c:=by omega
    have q6:p+1+c-(p+1)=c:=by omega
    rw[bz h6]
    simp only[go_sem,h5,wrap_i64 (n:=(p:Int)+1) (by omega) (by omega),q1,q2,q5,q6,h6,BC,← bW,← bV,Lh]
    refine CallK.mk _ (C9 ⟨2,0,strOfNums ((b.drop (p+1)).take c)⟩) fun _=>?_
    have e7:((p:Int)+1+(c:Int)==0)=false:=by simp; omega
    have e8:((p+1+c:Nat):Int)=(p:Int)+1+(c:Int):=by omega
    rcases hv:BD ⟨2,0,strOfNums ((b.drop (p+1)).take c)⟩ with _ | _
    ·simp only[go_sem,hv,Yf,O1,aC,aT]
    ·simp only[go_sem,hv,e7,Yf,e8,wrap_i64 (n:=(p:Int)+1) (by omega) (by omega),wrap_i64 (n:=(p:Int)+1+(c:Int)) (by omega) (by omega)]
   ·rw[aV (by simp at h5; omega)]
    simp only[go_sem,h5,Yf,O1]
 ·have:ty=1:=by simpa using h1
  subst this
  simp only[go_sem,h1]
  have hg:=FH b p hb hl
  rcases h2:BN b p with _ | ⟨n,q⟩<;>rw[h2] at hg<;>simp only[UC] at hg
  ·refine CallK.mk _ hg fun _=>?_
   simp only[go_sem,Ec,h2,Yf,di,O1]
  refine CallK.mk _ hg fun _=>?_
  obtain⟨e1,e2,e3,e4,e5,e6⟩:=Gm hb h2
  have hv:=eQ n ⟨e4,e5⟩
  simp only[go_sem]
  refine CallK.mk _ (C9 ⟨1,n,ByteArray.empty⟩) fun _=>?_
  have e7:((q:Int)==0)=false:=by simp; omega
  simp only[go_sem,hv,Ec,h2,Yf,bP,e7]
theorem Kt (b:List Int) (p ty:Int) (hb:AY b) (hl:b.length≤1048576):Ctr prog 281 [.c (.sl (b.map byteC)),.c (.v (.int .i64 (p))),.c (.v (.int .i64 (ty)))] (Yf (Ec b p ty)):=by
 refine CM call281 func281 ntmps281 results281 fun hw=>?_
 rcases h1:ty==1 with _ | _
 ·have h1':ty≠1:=by simpa using h1
  simp only[go_sem,h1]
  rcases h2:ty==2 with _ | _
  ·have h2':ty≠2:=by simpa using h2
   rw[AD6 b p ty h1' h2']
   have h3:(ty != 2)=true:=by simpa using h2'
   simp only[go_sem,h3,Yf,O1]
  ·have:ty=2:=by simpa using h2
   subst this
   have h3:((2:Int) != 2)=false:=by simp
   simp only[go_sem,h3]
   refine CallK.mk _ (AL _ _ _) fun _=>?_
   simp only[go_sem,wrap_i64 (n:=(b.length:Int)-1) (by omega) (by omega)]
   rcases h4:Ac p 0 ((b.length:Int)-1) with _ | _
   ·rw[uQ b p (by simp[Ac] at h4; omega)]
    simp only[go_sem,h4,Yf,O1]
   have h4':0≤p∧p<b.length:=by simp[Ac] at h4; omega
   obtain⟨p,rfl⟩:=aP h4'.1
   have hp:p<b.length:=by omega
   have hc:isByte b[p]:=hb _ (aj hp)
   obtain⟨c,hc2⟩:=aP hc.1
   have hc3:c<256:=by have:=hc.2; omega
   rw[AD7 hp]
   simp only[go_sem,h4,AA _ hp,hc2,bY,wrap_i64 (n:=(p:Int)+1) (by omega) (by omega),wrap_i64 (n:=(p:Int)+1+(c:Int)) (by omega) (by omega),wrap_i64 (n:=(c:Int)) (by omega) (by omega),wrap_i64 (n:=(b.length:Int)-(p:Int)) (by omega) (by omega),wrap_i64 (n:=(b.length:Int)-(p:Int)-1) (by omega) (by omega)]
   rcases h5:decide ((c:Int)>(b.length:Int)-(p:Int)-1) with _ | _
   ·have h6:p+1+c≤b.length:=by simp at h5; omega
    have q1:=Gy (k:=.i64) (n:=(p:Int)+1) (m:=p+1) (by omega)
    have q2:=Gy (k:=.i64) (n:=(p:Int)+1+(c:Int)) (m:=p+1+c) (by omega)
    have q5:p+1≤p+1+c:=by omega
    have q6:p+1+c-(p+1)=c:=by omega
    rw[bz h6]
    simp only[go_sem,h5,wrap_i64 (n:=(p:Int)+1) (by omega) (by omega),wrap_i64 (n:=(p:Int)+1+(c:Int)) (by omega) (by omega),q1,q2,q5,q6,h6,BC,← bW,← bV,Lh]
    refine CallK.mk _ (G_ ⟨2,0,strOfNums ((b.drop (p+1)).take c)⟩) fun _=>?_
    have e7:((p:Int)+1+(c:Int)==0)=false:=by simp; omega
    have e8:((p+1+c:Nat):Int)=(p:Int)+1+(c:Int):=by omega
    rcases hv:BD ⟨2,0,strOfNums ((b.drop (p+1)).take c)⟩ with _ | _
    ·simp only[go_sem,hv,Yf,O1,aC,aT]
    ·simp only[go_sem,hv,e7,Yf,e8,wrap_i64 (n:=(p:Int)+1) (by omega) (by omega),wrap_i64 (n:=(p:Int)+1+(c:Int)) (by omega) (by omega)]
   ·rw[aV (by simp at h5; omega)]
    simp only[go_sem,h5,Yf,O1]
 ·have:ty=1:=by simpa using h1
  subst this
  simp only[go_sem,h1]
  have hg:=FD b p hb hl
  rcases h2:BN b p with _ | ⟨n,q⟩<;>rw[h2] at hg<;>simp only[UC] at hg
  ·refine CallK.mk _ hg fun _=>?_
   simp only[go_sem,Ec,h2,Yf,di,O1]
  refine CallK.mk _ hg fun _=>?_
  simp only[go_sem,Ec,h2,Yf,bP]
end Go.Proofs.YtnfbaclikokapaaGreat
