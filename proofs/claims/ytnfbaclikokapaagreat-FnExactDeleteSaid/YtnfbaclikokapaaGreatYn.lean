/- A part. -/
import Derived.Test.YtnfbaclikokapaaGreatYl
import Derived.Test.YtnfbaclikokapaaGreatYf
import Derived.Test.YtnfbaclikokapaaGreatYk
set_option linter.unusedSimpArgs false
set_option linter.unusedVariables false
set_option maxHeartbeats 2000000
set_option maxRecDepth 10000
open Go.Proofs.Tryz
namespace Go.Proofs.YtnfbaclikokapaaGreat
open Go.Vm
theorem Qr {b:List Int} {w k:Int} {o:List Int} (h:unpack b w k=some o):o.length≤64:=by
 have h1:=Lr h
 unfold unpack at h
 split at h
 ·rename_i h2
  omega
 ·cases h
theorem xJ:∀ (f:Nat) (x:Int),0≤FW f x∧FW f x≤f
 | 0,_=>by simp[FW]
 | f+1,x=>by
  have:=xJ f (x/2)
  rw[FW]
  split<;>omega
theorem uf (n:Int):0≤Aj n∧Aj n≤32:=by
 unfold Aj
 split
 ·exact xJ 32 n
 ·omega
theorem WB (l:List Int):0≤CE l∧CE l≤32:=by
 have key:∀ (l:List Int) (w:Int),0≤w∧w≤32→0≤l.foldl (fun w n=>max w (Aj n)) w∧l.foldl (fun w n=>max w (Aj n)) w≤32:=by
  intro l
  induction l with
  | nil=>intro w h; exact h
  | cons n l ih =>
   intro w h
   have:=uf n
   exact ih (max w (Aj n)) ⟨by omega,by omega⟩
 exact key l 0 (by omega)
theorem Hz (l:List Int) (w:Int):(Dx l w).length≤4*l.length+1:=by
 unfold Dx
 split
 ·rename_i h
  simp only[ae,List.length_range]
  have:l.length*w.toNat≤l.length*31:=Nat.mul_le_mul_left _ (by omega)
  omega
 ·simp
theorem Lm (l:List DVal) (hl:l.length≤1048576):Ctr prog 302 [.c (.sl (l.map DVal.c))] [.own 5 1 ((CU l).map byteC) true]:=by
 refine CM call302 func302 ntmps302 results302 fun hw=>?_
 simp only[go_sem]
 refine CallK.mk _ (Bz l hl) fun _=>?_
 rcases h1:typeOf l != 1 with _ | _
 rotate_left
 ·have h1':typeOf l≠1:=by simpa using h1
  have e:CU l = []:=bz h1'
  rw[e]
  simp only[go_sem,h1]
  try simp[AU,AO,Df]
 have h1':typeOf l=1:=by simpa using h1
 obtain⟨q1,q2,q3⟩:=Cc (l:=l) (by omega)
 have e:CU l=EM (Bq l)++(CE (offsets l)::Dx (offsets l) (CE (offsets l))):=aV (by omega)
 have hol:(offsets l).length=l.length:=by rw[offsets,aV (by omega)]; simp
 rw[e]
 simp only[go_sem,h1]
 refine CallK.mk _ (Zy l hl) fun _=>?_
 simp only[go_sem]
 refine CallK.mk _ (YU (offsets l) (by omega)) fun _=>?_
 simp only[go_sem]
 refine CallK.mk _ (Ym l hl) fun _=>?_
 have hw:=WB (offsets l)
 have hpl:=Hz (offsets l) (CE (offsets l))
 have hq:=DR (Bq l)
 have hbn:DX (Bq l)=true:=by
  have h0:0<l.length:=by omega
  obtain⟨_,x,hx,e2⟩:=VI (aj h0)
  have:=XQ (q3 x hx).1 ((q3 x hx).2.trans h1')
  rw[DL,e2]; exact this
 have hw1:IntKind.u8.wrap (CE (offsets l))=CE (offsets l):=wrap_u8 (by omega) (by omega)
 simp only[go_sem]
 refine CallK.mk _ (FI [] (Bq l) (by simp)) fun _=>?_
 rw[JB hbn,aI]
 have hl2:(EM (Bq l)).length+1≤2147483648:=by omega
 simp only[go_sem,hw1,hl2]
 refine CallK.mk _ (Yd (offsets l) (CE (offsets l)) (by omega)) fun _=>?_
 have hl3:(EM (Bq l)).length+1+(Dx (offsets l) (CE (offsets l))).length≤2147483648:=by omega
 simp only[go_sem,hl3,Es]
 try simp[AU,AO,byteC]
theorem P9 (l:List DVal) (hl:l.length≤1048576):Ctr prog 289 [.c (.sl (l.map DVal.c))] [.own 5 1 ((CU l).map byteC) true]:=by
 refine CM call289 func289 ntmps289 results289 fun hw=>?_
 simp only[go_sem]
 refine CallK.mk _ (D8 l hl) fun _=>?_
 rcases h1:typeOf l != 1 with _ | _
 rotate_left
 ·have h1':typeOf l≠1:=by simpa using h1
  have e:CU l = []:=bz h1'
  rw[e]
  simp only[go_sem,h1]
  try simp[AU,AO,Df]
 have h1':typeOf l=1:=by simpa using h1
 obtain⟨q1,q2,q3⟩:=Cc (l:=l) (by omega)
 have e:CU l=EM (Bq l)++(CE (offsets l)::Dx (offsets l) (CE (offsets l))):=aV (by omega)
 have hol:(offsets l).length=l.length:=by rw[offsets,aV (by omega)]; simp
 rw[e]
 simp only[go_sem,h1]
 refine CallK.mk _ (Zz l hl) fun _=>?_
 simp only[go_sem]
 refine CallK.mk _ (YV (offsets l) (by omega)) fun _=>?_
 simp only[go_sem]
 refine CallK.mk _ (Yl l hl) fun _=>?_
 have hw:=WB (offsets l)
 have hpl:=Hz (offsets l) (CE (offsets l))
 have hq:=DR (Bq l)
 have hbn:DX (Bq l)=true:=by
  have h0:0<l.length:=by omega
  obtain⟨_,x,hx,e2⟩:=VI (aj h0)
  have:=XQ (q3 x hx).1 ((q3 x hx).2.trans h1')
  rw[DL,e2]; exact this
 have hw1:IntKind.u8.wrap (CE (offsets l))=CE (offsets l):=wrap_u8 (by omega) (by omega)
 simp only[go_sem]
 refine CallK.mk _ (JA [] (Bq l) (by simp)) fun _=>?_
 rw[JB hbn,aI]
 have hl2:(EM (Bq l)).length+1≤2147483648:=by omega
 simp only[go_sem,hw1,hl2]
 refine CallK.mk _ (Ye (offsets l) (CE (offsets l)) (by omega)) fun _=>?_
 have hl3:(EM (Bq l)).length+1+(Dx (offsets l) (CE (offsets l))).length≤2147483648:=by omega
 simp only[go_sem,hl3,Es]
 try simp[AU,AO,byteC]
theorem Yp (b:List Int) (k:Int) (hb:AY b) (hl:b.length≤1048576):Ctr prog 273 [.c (.sl (b.map byteC)),.c (.v (.int .i64 (k)))] (Cj (Dy b k)):=by
 rw[← WF]
 refine CM call273 func273 ntmps273 results273 fun hw=>?_
 simp only[go_sem]
 have hg:=FH b 0 hb hl
 rcases h1:BN b 0 with _ | ⟨n,q⟩<;>rw[h1] at hg<;>simp only[UC] at hg
 ·have e:H5 b k=none:=by simp only[H5,h1]
  rw[e]
  refine CallK.mk _ hg fun _=>?_
  simp only[go_sem,Cj]
 refine CallK.mk _ hg fun _=>?_
 rcases h2:decide ((q:Int)≥(b.length:Int)) with _ | _
 rotate_left
 ·have e:H5 b k=none:=by
   have:b[q]?=none:=by rw[abp]; simp at h2; omega
   simp only[H5,h1,this]
  rw[e]
  simp only[go_sem,h2,Cj]
 have hq:q<b.length:=by simp at h2; omega
 have hc:isByte b[q]:=hb _ (aj hq)
 have hall:H5 b k=match unpack (b.drop (q+1)) b[q] k with
    | none=>none
    | some o=>again b k ((raised n o).getD []) (CU ((raised n o).getD [])):=by simp only[H5,h1,aA hq]; rfl
 rw[hall]
 have q1:=Gy (k:=.i64) (n:=(q:Int)+1) (m:=q+1) (by omega)
 have q5:q+1≤b.length:=hq
 have hc2:=hc.1
 have hc3:=hc.2
 have q7:(b.map byteC).length-(q+1)=(b.drop (q+1)).length:=by simp
 simp only[go_sem,h2,AA _ hq,q1,q5,BC,aN,wrap_i64 (n:=(q:Int)+1) (by omega) (by omega),wrap_i64 (n:=b[q]) (by omega) (by omega),← bW,← bV]
 have htk:(b.drop (q+1)).take (b.length-(q+1))=b.drop (q+1):=aaC (by simp)
 have hbd:AY (b.drop (q+1)):=fun c hc=>hb c (aaJ hc)
 have hu:=UD (b.drop (q+1)) b[q] k hbd (by simp; omega)
 refine DrawK.mkE ?_
 simp only[go_sem,h2,AA _ hq,q1,q5,BC,aN,wrap_i64 (n:=(q:Int)+1) (by omega) (by omega),wrap_i64 (n:=b[q]) (by omega) (by omega),← bW,← bV,htk]
 rcases h3:unpack (b.drop (q+1)) b[q] k with _ | o<;>rw[h3] at hu<;>simp only[XO] at hu
 ·refine CallE.mk _ hu ?_
  simp only[go_sem,Cj,AA _ hq,q1,q5,BC,aN,← bW,← bV,htk,wrap_i64 (n:=b[q]) (by omega) (by omega),wrap_i64 (n:=(q:Int)+1) (by omega) (by omega)]
 refine CallE.mk _ hu ?_
 have hol:=Qr h3
 simp only[go_sem,AA _ hq,q1,q5,BC,aN,← bW,← bV,htk,wrap_i64 (n:=b[q]) (by omega) (by omega),wrap_i64 (n:=(q:Int)+1) (by omega) (by omega)]
 have hr:=kD n o (by omega)
 rcases h4:raised n o with _ | l<;>rw[h4] at hr<;>simp only[Cj] at hr
 ·refine CallK.mk _ hr fun _=>?_
  simp only[go_sem,qy]
  refine CallK.mk _ (Lm [] (by simp)) fun _=>?_
  simp only[go_sem]
  refine CallK.mk _ (Bh b k [] (CU [])) fun _=>?_
  rcases h5:again b k [] (CU []) with _ | l'<;>simp only[go_sem,Cj]
 ·have hll:=Oh h4
  refine CallK.mk _ hr fun _=>?_
  simp only[go_sem]
  refine CallK.mk _ (Lm l (by omega)) fun _=>?_
  simp only[go_sem]
  refine CallK.mk _ (Bh b k l (CU l)) fun _=>?_
  rcases h5:again b k l (CU l) with _ | l'<;>simp only[go_sem,Cj]
theorem Yq (b:List Int) (k:Int) (hb:AY b) (hl:b.length≤1048576):Ctr prog 264 [.c (.sl (b.map byteC)),.c (.v (.int .i64 (k)))] (Cj (Dy b k)):=by
 refine CM call264 func264 ntmps264 results264 fun hw=>?_
 simp only[go_sem]
 have hg:=FD b 0 hb hl
 rcases h1:BN b 0 with _ | ⟨n,q⟩<;>rw[h1] at hg<;>simp only[UC] at hg
 ·have e:Dy b k=none:=by simp only[Dy,h1]
  rw[e]
  refine CallK.mk _ hg fun _=>?_
  simp only[go_sem,Cj]
 refine CallK.mk _ hg fun _=>?_
 rcases h2:decide ((q:Int)≥(b.length:Int)) with _ | _
 rotate_left
 ·have e:Dy b k=none:=by
   have:b[q]?=none:=by rw[abp]; simp at h2; omega
   simp only[Dy,h1,this]
  rw[e]
  simp only[go_sem,h2,Cj]
 have hq:q<b.length:=by simp at h2; omega
 have hc:isByte b[q]:=hb _ (aj hq)
 simp only[go_sem,h2]
 refine CallK.mk _ (AL _ _ _) fun _=>?_
 rcases h6:Ac k 1 64 with _ | _
 ·have e:Dy b k=none:=by
   simp only[Dy,h1,aA hq]
   exact aV (by simp[Ac] at h6; omega)
  rw[e]
  simp only[go_sem,h6,Cj]
 have hk:1≤k∧k≤64:=by simp[Ac] at h6; omega
 have hall:Dy b k=match unpack (b.drop (q+1)) b[q] k with
    | none=>none
    | some o=>match raised n o with
     | none=>none
     | some l=>if CU l=b then some l else none:=by
  simp only[Dy,h1,aA hq]
  exact bz hk
 rw[hall]
 have q1:=Gy (k:=.i64) (n:=(q:Int)+1) (m:=q+1) (by omega)
 have q5:q+1≤b.length:=hq
 have hc2:=hc.1
 have hc3:=hc.2
 have htk:(b.drop (q+1)).take (b.length-(q+1))=b.drop (q+1):=aaC (by simp)
 have hbd:AY (b.drop (q+1)):=fun c hc=>hb c (aaJ hc)
 have hu:=UE (b.drop (q+1)) b[q] k hbd (by simp; omega)
 simp only[go_sem,h6,AA _ hq,q1,q5,BC,aN,wrap_i64 (n:=(q:Int)+1) (by omega) (by omega),wrap_i64 (n:=b[q]) (by omega) (by omega),← bW,← bV]
 refine DrawK.mkE ?_
 simp only[go_sem,AA _ hq,q1,q5,BC,aN,wrap_i64 (n:=(q:Int)+1) (by omega) (by omega),wrap_i64 (n:=b[q]) (by omega) (by omega),← bW,← bV,htk]
 rcases h3:unpack (b.drop (q+1)) b[q] k with _ | o<;>rw[h3] at hu<;>simp only[XO] at hu
 ·refine CallE.mk _ hu ?_
  simp only[go_sem,AA _ hq,q1,q5,BC,aN,← bW,← bV,htk,wrap_i64 (n:=b[q]) (by omega) (by omega),wrap_i64 (n:=(q:Int)+1) (by omega) (by omega)]
  have hr:=UK n [] (by simp)
  rcases h4:raised n [] with _ | l<;>rw[h4] at hr<;>simp only[Cj] at hr
  ·refine CallK.mk _ hr fun _=>?_
   simp only[go_sem,Cj]
  ·refine CallK.mk _ hr fun _=>?_
   simp only[go_sem,Cj]
 refine CallE.mk _ hu ?_
 have hol:=Qr h3
 simp only[go_sem,AA _ hq,q1,q5,BC,aN,← bW,← bV,htk,wrap_i64 (n:=b[q]) (by omega) (by omega),wrap_i64 (n:=(q:Int)+1) (by omega) (by omega)]
 have hr:=UK n o (by omega)
 rcases h4:raised n o with _ | l<;>rw[h4] at hr<;>simp only[Cj] at hr
 ·refine CallK.mk _ hr fun _=>?_
  simp only[go_sem,Cj]
 have hll:=Oh h4
 refine CallK.mk _ hr fun _=>?_
 simp only[go_sem]
 refine CallK.mk _ (P9 l (by omega)) fun _=>?_
 simp only[go_sem]
 refine CallK.mk _ (Hq (CU l) b) fun _=>?_
 rcases h5:decide (CU l=b) with _ | _
 ·have e:¬ CU l=b:=by simpa using h5
  simp only[go_sem,h5,aV e,Cj]
 ·have e:CU l=b:=by simpa using h5
  simp only[go_sem,h5,bz e,Cj]
theorem P_ (l:List DVal):∃ p,places (CG l) l=some p∧p.length=l.length:=by
 have key:∀ (d l:List DVal),(∀ x∈l,x∈d)→∃ p,places d l=some p∧p.length=l.length:=by
  intro d l
  induction l with
  | nil=>intro _; exact⟨[],rfl,rfl⟩
  | cons v l ih =>
   intro h
   obtain⟨p,h1,h2⟩:=ih fun x hx=>h x (abf v hx)
   have key2:∀ (d:List DVal) (k:Nat),v∈d→∃ i,placeOf v d k=some i:=by
    intro d
    induction d with
    | nil=>intro k hk; cases hk
    | cons x r ih =>
     intro k hk
     rw[Kv]
     split
     ·exact⟨_,rfl⟩
     ·rename_i hne
      rcases cZ.1 hk with rfl | hk
      ·exact absurd ((JD v v).2 rfl) hne
      ·exact ih (k+1) hk
   obtain⟨i,hi⟩:=key2 d 0 (h v (by simp))
   exact⟨i::p,by rw[places_cons,hi,h1],by simp[h2]⟩
 exact key _ _ fun x hx=>(J5 l x).2 hx
theorem SH {l:List DVal} (h:typeOf l≠0) {p:List Int} (hp:places (CG l) l=some p):DV l=EM (CG l).length++(I_ (CG l)++Dx p (Aj ((CG l).length-1))):=by
 unfold DV
 rw[aV h,hp]; rfl
theorem RN (l:List DVal) (hl:l.length≤1048576):Ctr prog 287 [.c (.sl (l.map DVal.c))] [.own 5 1 ((DV l).map byteC) true]:=by
 refine CM call287 func287 ntmps287 results287 fun hw=>?_
 simp only[go_sem]
 refine CallK.mk _ (D8 l hl) fun _=>?_
 rcases h1:typeOf l==0 with _ | _
 rotate_left
 ·have h1':typeOf l=0:=by simpa using h1
  have e:DV l = []:=bz h1'
  rw[e]
  simp only[go_sem,h1]
  try simp[AU,AO,Df]
 have h1':typeOf l≠0:=by simpa using h1
 obtain⟨q1,q2,q3⟩:=Cc h1'
 have hdl:=Nr l
 obtain⟨p,hp,hpl⟩:=P_ l
 rw[SH h1' hp]
 simp only[go_sem,h1]
 refine CallK.mk _ (uZ l hl) fun _=>?_
 simp only[go_sem]
 have hps:=j_ (CG l) l hl (by omega)
 rw[hp] at hps
 simp only[XO] at hps
 refine CallK.mk _ hps fun _=>?_
 have hd0:0<(CG l).length:=by
  have:l[0]∈CG l:=(J5 l _).2 (aj (by omega))
  exact List.length_pos_of_mem this
 have hq:=DR ((CG l).length:Int)
 have hdv:∀ v∈CG l,BD v=true:=fun v hv=>(q3 v ((J5 l v).1 hv)).1
 simp only[go_sem]
 refine CallK.mk _ (JA [] ((CG l).length:Int) (by simp)) fun _=>?_
 rw[JB (by rw[DL]; omega),aI]
 simp only[go_sem]
 have hvl:=fun i=>Ja (l:=(CG l).take i) fun v hv=>hdv v (yR hv)
 refine LoopH.mk [20,23] (A:=Nat) (fun x=>[(7,.c (.v (.int .i64 (x)))),(6,.c (.ref 1))]) (fun x=>[⟨3,1,p.map intC,true,true⟩,⟨5,1,(EM (CG l).length++I_ ((CG l).take x)).map byteC,true,true⟩]) (fun x=>x≤(CG l).length) (fun x=>(CG l).length-x) 0 (Head.sel [(0,false),(2,false)] ⟨rfl,rfl,Be _,EG _,trivial⟩ (by simp only[abj,I_,dh,Zh,bF]; rfl)) (ax _) ?_
 rintro i hi
 simp only[go_sem]
 refine cndC.mk (fun h=>?_) (fun h=>?_)
 ·have hi':i<(CG l).length:=by simp at h; omega
  have hvi:=hvl i
  rw[bC] at hvi
  simp only[go_sem,AA _ hi']
  refine CallK.mk _ (OY _ _ (by simp only[aW]; omega)) fun _=>?_
  rw[Qn (hdv _ (aj hi')),bM,← OZ hi']
  simp only[go_sem,wrap_i64 (n:=(i:Int)+1) (by omega) (by omega)]
  exact⟨i+1,Head.sel [(0,false),(2,false)] ⟨rfl,rfl,Be _,EG _,trivial⟩ rfl,hi',by omega⟩
 ·have hpb:=Hz p (Aj ((CG l).length-1))
  have hw1:IntKind.i64.wrap (((CG l).length:Int)-1)=((CG l).length:Int)-1:=wrap_i64 (by omega) (by omega)
  have hvi:=hvl (CG l).length
  rw[bC] at hvi
  have hl3:(EM (CG l).length).length+(I_ (CG l)).length+(Dx p (Aj ((CG l).length-1))).length≤2147483648:=by
   rw[bG] at hvi; omega
  have hi':i=(CG l).length:=by simp at h; omega
  subst hi'
  simp only[go_sem,bG,hw1]
  refine CallK.mk _ (IK _) fun _=>?_
  simp only[go_sem,hw1]
  refine CallK.mk _ (Ye p (Aj ((CG l).length-1)) (by omega)) fun _=>?_
  simp only[go_sem,hl3,Es,bM,P6]
  try simp[AU,AO]
theorem NJ (l:List DVal) (hl:l.length≤1048576):Ctr prog 300 [.c (.sl (l.map DVal.c))] [.own 5 1 ((DV l).map byteC) true]:=by
 refine CM call300 func300 ntmps300 results300 fun hw=>?_
 simp only[go_sem]
 refine CallK.mk _ (Bz l hl) fun _=>?_
 rcases h1:typeOf l==0 with _ | _
 rotate_left
 ·have h1':typeOf l=0:=by simpa using h1
  have e:DV l = []:=bz h1'
  rw[e]
  simp only[go_sem,h1]
  try simp[AU,AO,Df]
 have h1':typeOf l≠0:=by simpa using h1
 obtain⟨q1,q2,q3⟩:=Cc h1'
 have hdl:=Nr l
 obtain⟨p,hp,hpl⟩:=P_ l
 rw[SH h1' hp]
 simp only[go_sem,h1]
 refine CallK.mk _ (uX l hl) fun _=>?_
 have hd0:0<(CG l).length:=by
  have:l[0]∈CG l:=(J5 l _).2 (aj (by omega))
  exact List.length_pos_of_mem this
 have hq:=DR ((CG l).length:Int)
 have hdv:∀ v∈CG l,BD v=true:=fun v hv=>(q3 v ((J5 l v).1 hv)).1
 have hps:=jy (CG l) l hl (by omega)
 rw[hp] at hps
 simp only[XO] at hps
 simp only[go_sem]
 refine CallK.mk _ (FI [] ((CG l).length:Int) (by simp)) fun _=>?_
 rw[JB (by rw[DL]; omega),aI]
 simp only[go_sem]
 have hvl:=fun i=>Ja (l:=(CG l).take i) fun v hv=>hdv v (yR hv)
 refine LoopH.mk [9,16,19] (A:=Nat) (fun x=>[(22,.c (.v (.int .i64 (x)))),(3,.c (.ref 0))]) (fun x=>[⟨5,1,(EM (CG l).length++I_ ((CG l).take x)).map byteC,true,true⟩]) (fun x=>x≤(CG l).length) (fun x=>(CG l).length-x) 0 (Head.sel [(1,false)] ⟨rfl,rfl,EG _,trivial⟩ (by simp only[abj,I_,dh,Zh,bF]; rfl)) (ax _) ?_
 rintro i hi
 simp only[go_sem]
 refine cndC.mk (fun h=>?_) (fun h=>?_)
 ·have hi':i<(CG l).length:=by simp at h; omega
  have hvi:=hvl i
  rw[bC] at hvi
  simp only[go_sem,AA _ hi']
  refine CallK.mk _ (OX _ _ (by simp only[aW]; omega)) fun _=>?_
  rw[Qn (hdv _ (aj hi')),bM,← OZ hi']
  simp only[go_sem,wrap_i64 (n:=(i:Int)+1) (by omega) (by omega)]
  exact⟨i+1,Head.sel [(2,false)] ⟨rfl,rfl,EG _,trivial⟩ rfl,hi',by omega⟩
 ·have hpb:=Hz p (Aj ((CG l).length-1))
  have hw1:IntKind.i64.wrap (((CG l).length:Int)-1)=((CG l).length:Int)-1:=wrap_i64 (by omega) (by omega)
  have hvi:=hvl (CG l).length
  rw[bC] at hvi
  have hl3:(EM (CG l).length).length+(I_ (CG l)).length+(Dx p (Aj ((CG l).length-1))).length≤2147483648:=by
   rw[bG] at hvi; omega
  have hi':i=(CG l).length:=by simp at h; omega
  subst hi'
  simp only[go_sem,bG]
  refine CallK.mk _ hps fun _=>?_
  simp only[go_sem,hw1]
  refine CallK.mk _ (Jk _) fun _=>?_
  simp only[go_sem,hw1]
  refine CallK.mk _ (Yd p (Aj ((CG l).length-1)) (by omega)) fun _=>?_
  simp only[go_sem,hl3,Es,bM,P6]
  try simp[AU,AO]
theorem WC (kind:Int) (l:List DVal) (hl:l.length≤1048576):Ctr prog 291 [.c (.v (.int .i64 (kind))),.c (.sl (l.map DVal.c))] [.own 5 1 ((Dl kind l).map byteC) true]:=by
 refine CM call291 func291 ntmps291 results291 fun hw=>?_
 unfold Dl
 rcases h0:kind==0 with _ | _
 rotate_left
 ·rw[bz (by simpa using h0)]
  simp only[go_sem,h0]
  refine CallK.mk _ (P7 l hl) fun _=>?_
  simp only[go_sem]
  try simp[AU,AO]
 rw[aV (by simpa using h0)]
 rcases h1:kind==1 with _ | _
 rotate_left
 ·rw[bz (by simpa using h1)]
  simp only[go_sem,h0,h1]
  refine CallK.mk _ (RJ l hl) fun _=>?_
  simp only[go_sem]
  try simp[AU,AO]
 rw[aV (by simpa using h1)]
 rcases h2:kind==2 with _ | _
 rotate_left
 ·rw[bz (by simpa using h2)]
  simp only[go_sem,h0,h1,h2]
  refine CallK.mk _ (RN l hl) fun _=>?_
  simp only[go_sem]
  try simp[AU,AO]
 rw[aV (by simpa using h2)]
 rcases h3:kind==3 with _ | _
 rotate_left
 ·rw[bz (by simpa using h3)]
  simp only[go_sem,h0,h1,h2,h3]
  refine CallK.mk _ (P9 l hl) fun _=>?_
  simp only[go_sem]
  try simp[AU,AO]
 rw[aV (by simpa using h3)]
 simp only[go_sem,h0,h1,h2,h3]
 try simp[AU,AO,Df]
theorem J4 (kind:Int) (l:List DVal) (hl:l.length≤1048576):Ctr prog 304 [.c (.v (.int .i64 (kind))),.c (.sl (l.map DVal.c))] [.own 5 1 ((Dl kind l).map byteC) true]:=by
 refine CM call304 func304 ntmps304 results304 fun hw=>?_
 unfold Dl
 rcases h0:kind==0 with _ | _
 rotate_left
 ·rw[bz (by simpa using h0)]
  simp only[go_sem,h0]
  refine CallK.mk _ (Ll l hl) fun _=>?_
  simp only[go_sem]
  try simp[AU,AO]
 rw[aV (by simpa using h0)]
 rcases h1:kind==1 with _ | _
 rotate_left
 ·rw[bz (by simpa using h1)]
  simp only[go_sem,h0,h1]
  refine CallK.mk _ (RI l hl) fun _=>?_
  simp only[go_sem]
  try simp[AU,AO]
 rw[aV (by simpa using h1)]
 rcases h2:kind==2 with _ | _
 rotate_left
 ·rw[bz (by simpa using h2)]
  simp only[go_sem,h0,h1,h2]
  refine CallK.mk _ (NJ l hl) fun _=>?_
  simp only[go_sem]
  try simp[AU,AO]
 rw[aV (by simpa using h2)]
 rcases h3:kind==3 with _ | _
 rotate_left
 ·rw[bz (by simpa using h3)]
  simp only[go_sem,h0,h1,h2,h3]
  refine CallK.mk _ (Lm l hl) fun _=>?_
  simp only[go_sem]
  try simp[AU,AO]
 rw[aV (by simpa using h3)]
 simp only[go_sem,h0,h1,h2,h3]
 try simp[AU,AO,Df]
noncomputable def KH (l:List DVal):Nat→Int
 | 0=>0
 | x+1=>if(x=2→typeOf l=1)∧(Dl ((x:Int)+1) l).length<(Dl (KH l x) l).length then(x:Int)+1 else KH l x
theorem ug (l:List DVal):bk3 l=KH l 3:=by
 have h1:bk1 l=KH l 1:=by simp[KH,bk1]
 have h2:bk2 l=KH l 2:=by
  rw[bk2,h1]
  show _=(if((1:Nat)=2→typeOf l=1)∧(Dl (((1:Nat):Int)+1) l).length<(Dl (KH l 1) l).length then((1:Nat):Int)+1 else KH l 1)
  simp
 rw[bk3,h2]
 show _=(if((2:Nat)=2→typeOf l=1)∧(Dl (((2:Nat):Int)+1) l).length<(Dl (KH l 2) l).length then((2:Nat):Int)+1 else KH l 2)
 simp
theorem UL {l:List DVal} {x:Nat} (h1:x=2→typeOf l=1) (h2:(Dl ((x:Int)+1) l).length<(Dl (KH l x) l).length):KH l (x+1)=(x:Int)+1:=bz ⟨h1,h2⟩
theorem kE {l:List DVal} {x:Nat} (h1:x=2) (h2:typeOf l≠1):KH l (x+1)=KH l x:=aV fun q=>h2 (q.1 h1)
theorem UM {l:List DVal} {x:Nat} (h2:¬ (Dl ((x:Int)+1) l).length<(Dl (KH l x) l).length):KH l (x+1)=KH l x:=aV fun q=>h2 q.2
theorem Yr (l:List DVal) (hl:l.length≤1048576):Ctr prog 290 [.c (.sl (l.map DVal.c))] [.val (.c (.v (.int .i64 (Au l))))]:=by
 refine CM call290 func290 ntmps290 results290 fun hw=>?_
 simp only[go_sem]
 refine CallK.mk _ (D8 l hl) fun _=>?_
 rcases h1:typeOf l==0 with _ | _
 rotate_left
 ·have h1':typeOf l=0:=by simpa using h1
  have e:Au l = -1:=bz h1'
  rw[e]
  simp only[go_sem,h1]
 have e:Au l=KH l 3:=by rw[← ug]; exact aV (by simpa using h1)
 have e0:Dw l=Dl 0 l:=rfl
 rw[e]
 simp only[go_sem,h1]
 refine CallK.mk _ (P7 l hl) fun _=>?_
 simp only[go_sem]
 refine LoopH.mk [13] (A:=Nat) (fun x=>[(6,.c (.v (.int .i64 ((x:Int)+1)))),(5,.c (.v (.int .i64 ((Dl (KH l x) l).length:Int)))),(4,.c (.v (.int .i64 (KH l x))))]) (fun _=>[]) (fun x=>x≤3) (fun x=>3-x) 0 (Head.sel [] ⟨rfl,rfl,trivial⟩ rfl) (ax _) ?_
 rintro x hx
 simp only[go_sem]
 refine cndC.mk (fun h=>?_) (fun h=>?_)
 ·have hx':x<3:=by simp at h; omega
  simp only[go_sem]
  refine CallK.mk _ (WC _ l hl) fun _=>?_
  rcases h2:((x:Int)+1 != 3) with _ | _<;>rcases h3:(typeOf l==1) with _ | _<;>rcases h4:decide (((Dl ((x:Int)+1) l).length:Int)<((Dl (KH l x) l).length:Int)) with _ | _<;>simp only[go_sem,h2,h3,h4,wrap_i64 (n:=(x:Int)+1+1) (by omega) (by omega)]
  ·have hb:KH l (x+1)=KH l x:=kE (by simp at h2; omega) (by simpa using h3)
   exact⟨x+1,Head.sel [] ⟨rfl,rfl,trivial⟩ (by rw[hb]; rfl),hx',by omega⟩
  ·have hb:KH l (x+1)=KH l x:=kE (by simp at h2; omega) (by simpa using h3)
   exact⟨x+1,Head.sel [] ⟨rfl,rfl,trivial⟩ (by rw[hb]; rfl),hx',by omega⟩
  ·have hb:KH l (x+1)=KH l x:=UM (by simpa using h4)
   exact⟨x+1,Head.sel [] ⟨rfl,rfl,trivial⟩ (by rw[hb]; rfl),hx',by omega⟩
  ·have hb:KH l (x+1)=(x:Int)+1:=UL (fun _=>by simpa using h3) (by simpa using h4)
   exact⟨x+1,Head.sel [] ⟨rfl,rfl,trivial⟩ (by rw[hb]; rfl),hx',by omega⟩
  ·have hb:KH l (x+1)=KH l x:=UM (by simpa using h4)
   exact⟨x+1,Head.sel [] ⟨rfl,rfl,trivial⟩ (by rw[hb]; rfl),hx',by omega⟩
  ·have hb:KH l (x+1)=(x:Int)+1:=UL (fun q=>by simp at h2; omega) (by simpa using h4)
   exact⟨x+1,Head.sel [] ⟨rfl,rfl,trivial⟩ (by rw[hb]; rfl),hx',by omega⟩
  ·have hb:KH l (x+1)=KH l x:=UM (by simpa using h4)
   exact⟨x+1,Head.sel [] ⟨rfl,rfl,trivial⟩ (by rw[hb]; rfl),hx',by omega⟩
  ·have hb:KH l (x+1)=(x:Int)+1:=UL (fun q=>by simp at h2; omega) (by simpa using h4)
   exact⟨x+1,Head.sel [] ⟨rfl,rfl,trivial⟩ (by rw[hb]; rfl),hx',by omega⟩
 ·have hx':x=3:=by simp at h; omega
  subst hx'
  simp only[go_sem]
theorem Yt (l:List DVal) (hl:l.length≤1048576):Ctr prog 303 [.c (.sl (l.map DVal.c))] [.val (.c (.v (.int .i64 (Au l))))]:=by
 refine CM call303 func303 ntmps303 results303 fun hw=>?_
 simp only[go_sem]
 refine CallK.mk _ (Bz l hl) fun _=>?_
 rcases h1:typeOf l==0 with _ | _
 rotate_left
 ·have h1':typeOf l=0:=by simpa using h1
  have e:Au l = -1:=bz h1'
  rw[e]
  simp only[go_sem,h1]
 have e:Au l=KH l 3:=by rw[← ug]; exact aV (by simpa using h1)
 rw[e]
 simp only[go_sem,h1]
 refine LoopH.mk [] (A:=Nat) (fun x=>[(5,.c (.v (.int .i64 ((x:Int)+1)))),(4,.c (.v (.int .i64 (KH l x))))]) (fun _=>[]) (fun x=>x≤3) (fun x=>3-x) 0 (Head.sel [] ⟨rfl,rfl,trivial⟩ rfl) (ax _) ?_
 rintro x hx
 simp only[go_sem]
 refine cndC.mk (fun h=>?_) (fun h=>?_)
 ·have hx':x<3:=by simp at h; omega
  rcases h2:((x:Int)+1==3) with _ | _
  ·simp only[go_sem,h2]
   refine CallK.mk _ (J4 _ l hl) fun _=>?_
   simp only[go_sem]
   refine CallK.mk _ (J4 _ l hl) fun _=>?_
   rcases h4:decide (((Dl ((x:Int)+1) l).length:Int)<((Dl (KH l x) l).length:Int)) with _ | _<;>simp only[go_sem,h4,wrap_i64 (n:=(x:Int)+1+1) (by omega) (by omega)]
   ·have hb:KH l (x+1)=KH l x:=UM (by simpa using h4)
    exact⟨x+1,Head.sel [] ⟨rfl,rfl,trivial⟩ (by rw[hb]; rfl),hx',by omega⟩
   ·have hb:KH l (x+1)=(x:Int)+1:=UL (fun q=>by simp at h2; omega) (by simpa using h4)
    exact⟨x+1,Head.sel [] ⟨rfl,rfl,trivial⟩ (by rw[hb]; rfl),hx',by omega⟩
  ·rcases h3:(typeOf l != 1) with _ | _
   ·simp only[go_sem,h2,h3]
    refine CallK.mk _ (J4 _ l hl) fun _=>?_
    simp only[go_sem]
    refine CallK.mk _ (J4 _ l hl) fun _=>?_
    rcases h4:decide (((Dl ((x:Int)+1) l).length:Int)<((Dl (KH l x) l).length:Int)) with _ | _<;>simp only[go_sem,h4,wrap_i64 (n:=(x:Int)+1+1) (by omega) (by omega)]
    ·have hb:KH l (x+1)=KH l x:=UM (by simpa using h4)
     exact⟨x+1,Head.sel [] ⟨rfl,rfl,trivial⟩ (by rw[hb]; rfl),hx',by omega⟩
    ·have hb:KH l (x+1)=(x:Int)+1:=UL (fun _=>by simpa using h3) (by simpa using h4)
     exact⟨x+1,Head.sel [] ⟨rfl,rfl,trivial⟩ (by rw[hb]; rfl),hx',by omega⟩
   ·simp only[go_sem,h2,h3,wrap_i64 (n:=(x:Int)+1+1) (by omega) (by omega)]
    have hb:KH l (x+1)=KH l x:=kE (by simp at h2; omega) (by simpa using h3)
    exact⟨x+1,Head.sel [] ⟨rfl,rfl,trivial⟩ (by rw[hb]; rfl),hx',by omega⟩
 ·have hx':x=3:=by simp at h; omega
  subst hx'
  simp only[go_sem]
theorem ABp (l:List DVal):∀ x,0≤KH l x∧KH l x≤x
 | 0=>by simp[KH]
 | x+1=>by
  have:=ABp l x
  rw[KH]
  split<;>omega
theorem WE {l:List DVal} (h:typeOf l≠0):0≤Au l∧Au l≤3:=by
 have e:Au l=KH l 3:=by rw[← ug]; exact aV h
 have:=ABp l 3
 rw[e]; omega
theorem kF (l:List DVal):(Dw l).length≤448:=by
 unfold Dw
 split
 ·simp
 ·rename_i h
  obtain⟨q1,q2,q3⟩:=Cc h
  have:=Ja fun v hv=>(q3 v hv).1
  omega
theorem qC (l:List DVal):(ET l).length≤1000:=by
 by_cases h:typeOf l=0
 ·rw[show ET l = [] from bz h]; simp
 ·obtain⟨q1,q2,q3⟩:=Cc h
  rw[SB l h]
  have h1:=DR ((runs l).length:Int)
  have h2:=Nl l
  have h3:=P8 VH 12 (runs l) fun x hx=>by
   have hx':=J3 hx
   have h1:=DR x.2
   have h2:=UH (q3 _ hx'.1).1
   simp only[VH,aW]; omega
  simp only[aW]; omega
theorem qE (l:List DVal):(DV l).length≤1000:=by
 by_cases h:typeOf l=0
 ·rw[show DV l = [] from bz h]; simp
 ·obtain⟨q1,q2,q3⟩:=Cc h
  obtain⟨p,hp,hpl⟩:=P_ l
  rw[SH h hp]
  have h1:=DR ((CG l).length:Int)
  have h2:=Nr l
  have h3:=Ja (l:=CG l) fun v hv=>(q3 v ((J5 l v).1 hv)).1
  have h4:=Hz p (Aj ((CG l).length-1))
  simp only[aW]; omega
theorem kG (l:List DVal):(CU l).length≤1000:=by
 by_cases h:typeOf l=1
 ·obtain⟨q1,q2,q3⟩:=Cc (l:=l) (by omega)
  have e:CU l=EM (Bq l)++(CE (offsets l)::Dx (offsets l) (CE (offsets l))):=aV (by omega)
  have hol:(offsets l).length=l.length:=by rw[offsets,aV (by omega)]; simp
  have h1:=DR (Bq l)
  have h4:=Hz (offsets l) (CE (offsets l))
  rw[e]
  simp only[aW,bU]; omega
 ·rw[show CU l = [] from bz h]; simp
theorem VK (k:Int) (l:List DVal):(Dl k l).length≤1000:=by
 have h0:=kF l
 have h1:=qC l
 have h2:=qE l
 have h3:=kG l
 unfold Dl
 repeat' split
 all_goals first | omega | simp
theorem Yu (l:List DVal):(Ak l).length≤1001:=by
 have:=VK (Au l) l
 unfold Ak
 split
 ·simp
 ·simp only[bU]; omega
theorem Kw (l:List DVal) (hl:l.length≤1048576):Ctr prog 267 [.c (.sl (l.map DVal.c))] [.own 5 1 ((Ak l).map byteC) true]:=by
 refine CM call267 func267 ntmps267 results267 fun hw=>?_
 simp only[go_sem]
 refine CallK.mk _ (Yr l hl) fun _=>?_
 rcases h1:decide (Au l<0) with _ | _
 rotate_left
 ·have e:Ak l = []:=bz (by simpa using h1)
  rw[e]
  simp only[go_sem,h1]
  try simp[AU,AO,Df]
 have h1':¬ Au l<0:=by simpa using h1
 have e:Ak l=Au l::Dl (Au l) l:=aV h1'
 have ht:typeOf l≠0:=fun q=>h1' (by rw[show Au l = -1 from bz q]; decide)
 have hk:=WE ht
 have hw1:IntKind.u8.wrap (Au l)=Au l:=wrap_u8 (by omega) (by omega)
 rw[e]
 simp only[go_sem,h1,hw1]
 have hel:=VK (Au l) l
 have hl2:1+(Dl (Au l) l).length≤2147483648:=by omega
 have hl3:(Dl (Au l) l).length+1≤2147483648:=by omega
 refine CallK.mk _ (WC (Au l) l hl) fun _=>?_
 simp only[go_sem,hl2,hl3,Es]
 try simp[AU,AO,byteC,hl2,hl3]
 exact Bg (Au l::Dl (Au l) l)
theorem D9 (l:List DVal) (hl:l.length≤1048576):Ctr prog 276 [.c (.sl (l.map DVal.c))] [.own 5 1 ((Ak l).map byteC) true]:=by
 refine CM call276 func276 ntmps276 results276 fun hw=>?_
 simp only[go_sem]
 refine CallK.mk _ (Yt l hl) fun _=>?_
 rcases h1:decide (Au l<0) with _ | _
 rotate_left
 ·have e:Ak l = []:=bz (by simpa using h1)
  rw[e]
  simp only[go_sem,h1]
  try simp[AU,AO,Df]
 have h1':¬ Au l<0:=by simpa using h1
 have e:Ak l=Au l::Dl (Au l) l:=aV h1'
 have ht:typeOf l≠0:=fun q=>h1' (by rw[show Au l = -1 from bz q]; decide)
 have hk:=WE ht
 have hw1:IntKind.u8.wrap (Au l)=Au l:=wrap_u8 (by omega) (by omega)
 rw[e]
 simp only[go_sem,h1,hw1]
 have hel:=VK (Au l) l
 have hl2:1+(Dl (Au l) l).length≤2147483648:=by omega
 have hl3:(Dl (Au l) l).length+1≤2147483648:=by omega
 refine CallK.mk _ (J4 (Au l) l hl) fun _=>?_
 simp only[go_sem,hl2,hl3,Es]
 try simp[AU,AO,byteC,hl2,hl3]
 exact Bg (Au l::Dl (Au l) l)
end Go.Proofs.YtnfbaclikokapaaGreat
