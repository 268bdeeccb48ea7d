/- A part. -/
import Derived.Test.YtnfbaclikokapaaGreatYn
import Derived.Test.YtnfbaclikokapaaGreatIa
set_option linter.unusedSimpArgs false
set_option linter.unusedVariables false
set_option maxHeartbeats 2000000
set_option maxRecDepth 10000
open Go.Proofs.Tryz
namespace Go.Proofs.YtnfbaclikokapaaGreat
open Go.Vm
theorem Z4 (b:List Int) (ty k:Int) (hb:AY b) (hl:b.length≤1048576):Ctr prog 272 [.c (.sl (b.map byteC)),.c (.v (.int .i64 (ty))),.c (.v (.int .i64 (k)))] (Cj (Eg b ty k)):=by
 rw[← Y1 hb]
 refine CM call272 func272 ntmps272 results272 fun hw=>?_
 simp only[go_sem]
 have hg:=FH b 0 hb hl
 rcases h1:BN b 0 with _ | ⟨n,q⟩<;>rw[h1] at hg<;>simp only[UC] at hg
 ·have e:JC b ty k=none:=by simp only[JC,h1]
  rw[e]
  refine CallK.mk _ hg fun _=>?_
  simp only[go_sem,Cj]
 refine CallK.mk _ hg fun _=>?_
 simp only[go_sem]
 refine CallK.mk _ (AC _ _ _) fun _=>?_
 rcases h2:Ac n 1 64 with _ | _
 ·have e:JC b ty k=none:=by simp only[JC,h1]; exact aV (by simp[Ac] at h2; omega)
  rw[e]
  simp only[go_sem,h2,Cj]
 have h2':1≤n∧n≤64:=by simp[Ac] at h2; omega
 have hall:JC b ty k=match Ba b ty n.toNat q with
   | none=>none
   | some (d,q)=>match unpack (b.drop q) (Aj (n-1)) k with
    | none=>none
    | some o=>again b k ((picked d o).getD []) (DV ((picked d o).getD [])):=by simp only[JC,h1]; exact bz h2'
 rw[hall]
 have hgv:=UI b q ty n hb hl h2'.2
 simp only[go_sem,h2]
 rcases h3:Ba b ty n.toNat q with _ | ⟨d,q2⟩<;>rw[h3] at hgv<;>simp only[ABk] at hgv
 ·refine CallK.mk _ hgv fun _=>?_
  simp only[go_sem,Cj]
 refine CallK.mk _ hgv fun _=>?_
 have hq0:=(Gm hb h1).2.2.1
 obtain⟨a1,a2,a3,_⟩:=IY hb _ _ _ _ hq0 h3
 have q1:=Gy (k:=.i64) (n:=(q2:Int)) (m:=q2) (by omega)
 have hw1:IntKind.i64.wrap (n-1)=n-1:=wrap_i64 (by omega) (by omega)
 have htk:(b.drop q2).take (b.length-q2)=b.drop q2:=aaC (by simp)
 have hbd:AY (b.drop q2):=fun c hc=>hb c (aaJ hc)
 have hu:=UD (b.drop q2) (Aj (n-1)) k hbd (by simp; omega)
 simp only[go_sem,q1,a2,BC,aN,← bW,← bV,htk,hw1]
 refine DrawK.mkE ?_
 simp only[go_sem,q1,a2,BC,aN,← bW,← bV,htk,hw1]
 refine CallE.mk _ (Jk _) ?_
 simp only[go_sem,q1,a2,BC,aN,← bW,← bV,htk,hw1]
 rcases h4:unpack (b.drop q2) (Aj (n-1)) k with _ | o<;>rw[h4] at hu<;>simp only[XO] at hu
 ·refine CallE.mk _ hu ?_
  simp only[go_sem,q1,a2,BC,aN,← bW,← bV,htk,hw1]
  simp only[go_sem,Cj]
 refine CallE.mk _ hu ?_
 have hol:=Qr h4
 simp only[go_sem,q1,a2,BC,aN,← bW,← bV,htk,hw1]
 have hr:=kC d o (by omega) (by omega)
 rcases h5:picked d o with _ | l<;>rw[h5] at hr<;>simp only[Cj] at hr
 ·refine CallK.mk _ hr fun _=>?_
  simp only[go_sem,qy]
  refine CallK.mk _ (NJ [] (by simp)) fun _=>?_
  simp only[go_sem]
  refine CallK.mk _ (Bh b k [] (DV [])) fun _=>?_
  rcases h6:again b k [] (DV []) with _ | l'<;>simp only[go_sem,Cj]
 ·have hll:=Ls h5
  refine CallK.mk _ hr fun _=>?_
  simp only[go_sem]
  refine CallK.mk _ (NJ l (by omega)) fun _=>?_
  simp only[go_sem]
  refine CallK.mk _ (Bh b k l (DV l)) fun _=>?_
  rcases h6:again b k l (DV l) with _ | l'<;>simp only[go_sem,Cj]
theorem Z5 (b:List Int) (ty k:Int) (hb:AY b) (hl:b.length≤1048576):Ctr prog 263 [.c (.sl (b.map byteC)),.c (.v (.int .i64 (ty))),.c (.v (.int .i64 (k)))] (Cj (Eg b ty k)):=by
 refine CM call263 func263 ntmps263 results263 fun hw=>?_
 simp only[go_sem]
 have hg:=FD b 0 hb hl
 rcases h1:BN b 0 with _ | ⟨n,q⟩<;>rw[h1] at hg<;>simp only[UC] at hg
 ·have e:Eg b ty k=none:=by simp only[Eg,h1]
  rw[e]
  refine CallK.mk _ hg fun _=>?_
  simp only[go_sem,Cj]
 refine CallK.mk _ hg fun _=>?_
 simp only[go_sem]
 refine CallK.mk _ (AL _ _ _) fun _=>?_
 rcases h2:Ac k 1 64 with _ | _
 ·have e:Eg b ty k=none:=by simp only[Eg,h1]; exact aV (by simp[Ac] at h2; omega)
  rw[e]
  simp only[go_sem,h2,Cj]
 simp only[go_sem,h2]
 refine CallK.mk _ (AL _ _ _) fun _=>?_
 rcases h3:Ac n 1 k with _ | _
 ·have e:Eg b ty k=none:=by simp only[Eg,h1]; exact aV (by simp[Ac] at h3; omega)
  rw[e]
  simp only[go_sem,h3,Cj]
 have hk:1≤k∧k≤64:=by simp[Ac] at h2; omega
 have hn:1≤n∧n≤k:=by simp[Ac] at h3; omega
 have hall:Eg b ty k=match Ba b ty n.toNat q with
   | none=>none
   | some (d,q)=>match unpack (b.drop q) (Aj (n-1)) k with
    | none=>none
    | some o=>match picked d o with
     | none=>none
     | some l=>if DV l=b then some l else none:=by simp only[Eg,h1]; exact bz ⟨hk,hn⟩
 rw[hall]
 simp only[go_sem,h3]
 obtain⟨N,rfl⟩:=aP (show 0≤n by omega)
 simp only[bY]
 have hq0:=(Gm hb h1).2.2.1
 refine LoopH.mk [42] (A:=Nat×Nat×List DVal) (fun x=>[(13,.c (.v (.int .i64 (x.1)))),(12,.c (.ref 1)),(10,.c (.v (.int .i64 ((x.2.1:Int)))))]) (fun x=>[⟨68,3,[],true,true⟩,⟨68,3,x.2.2.map DVal.c,true,true⟩]) (fun x=>x.1≤N∧x.2.2.length=x.1∧(Ba b ty (N-x.1) x.2.1).map (fun y=>(x.2.2++y.1,y.2))=Ba b ty N q) (fun x=>N-x.1) (0,q,[]) (Head.sel [(0,false),(1,false)] ⟨rfl,rfl,rfl,rfl,trivial⟩ rfl) ⟨ax _,rfl,by simp⟩ ?_
 rintro⟨i,p,d⟩ ⟨hi,hll,hp⟩
 dsimp only at hi hll hp
 simp only[go_sem]
 refine cndC.mk (fun h=>?_) (fun h=>?_)
 ·have hi':i<N:=by simp at h; omega
  rw[show N-i=(N-(i+1))+1 by omega,Ba] at hp
  have hg2:=Kt b p ty hb hl
  simp only[go_sem]
  rcases h4:Ec b p ty with _ | ⟨v,p2⟩<;>rw[h4] at hg2 hp<;>simp only[Yf] at hg2
  ·refine CallK.mk _ hg2 fun _=>?_
   simp only[di] at hp
   rw[← hp]
   simp only[go_sem,Cj]
  ·refine CallK.mk _ hg2 fun _=>?_
   have hl2:d.length+1≤2147483648:=by omega
   simp only[go_sem,hl2,wrap_i64 (n:=(i:Int)+1) (by omega) (by omega)]
   exact⟨(i+1,p2,d ++ [v]),Head.sel [(0,false),(4,false)] ⟨rfl,rfl,rfl,Ku _ _,trivial⟩ (by rw[FM]; rfl),⟨hi',by simp; omega,by rw[← hp,yV]; congr 1; funext y; simp⟩,by simp only; omega⟩
 ·have hi':i=N:=by simp at h; omega
  subst hi'
  rw[dM,Ba] at hp
  simp only[bP,bF] at hp
  obtain⟨a1,a2,a3,_⟩:=IY hb _ _ _ _ hq0 hp.symm
  rw[← hp]
  have q1:=Gy (k:=.i64) (n:=(p:Int)) (m:=p) (by omega)
  have hw1:IntKind.i64.wrap ((i:Int)-1)=(i:Int)-1:=wrap_i64 (by omega) (by omega)
  have htk:(b.drop p).take (b.length-p)=b.drop p:=aaC (by simp)
  have hbd:AY (b.drop p):=fun c hc=>hb c (aaJ hc)
  have hu:=UE (b.drop p) (Aj ((i:Int)-1)) k hbd (by simp; omega)
  simp only[go_sem,q1,a2,BC,aN,← bW,← bV,htk,hw1]
  refine DrawK.mkE ?_
  simp only[go_sem,q1,a2,BC,aN,← bW,← bV,htk,hw1]
  refine CallE.mk _ (IK _) ?_
  simp only[go_sem,q1,a2,BC,aN,← bW,← bV,htk,hw1]
  rcases h4:unpack (b.drop p) (Aj ((i:Int)-1)) k with _ | o<;>rw[h4] at hu<;>simp only[XO] at hu
  ·refine CallE.mk _ hu ?_
   simp only[go_sem,q1,a2,BC,aN,← bW,← bV,htk,hw1]
   have hr:=UJ d [] (by simp) (by omega)
   rcases h5:picked d [] with _ | l<;>rw[h5] at hr<;>simp only[Cj] at hr
   ·refine CallK.mk _ hr fun _=>?_
    simp only[go_sem,Cj]
   ·refine CallK.mk _ hr fun _=>?_
    simp only[go_sem,Cj]
  refine CallE.mk _ hu ?_
  have hol:=Qr h4
  simp only[go_sem,q1,a2,BC,aN,← bW,← bV,htk,hw1]
  have hr:=UJ d o (by omega) (by omega)
  rcases h5:picked d o with _ | l<;>rw[h5] at hr<;>simp only[Cj] at hr
  ·refine CallK.mk _ hr fun _=>?_
   simp only[go_sem,Cj]
  have hll2:=Ls h5
  refine CallK.mk _ hr fun _=>?_
  simp only[go_sem]
  refine CallK.mk _ (RN l (by omega)) fun _=>?_
  simp only[go_sem]
  refine CallK.mk _ (Hq (DV l) b) fun _=>?_
  rcases h6:decide (DV l=b) with _ | _
  ·have e:¬ DV l=b:=by simpa using h6
   simp only[go_sem,h6,aV e,Cj]
  ·have e:DV l=b:=by simpa using h6
   simp only[go_sem,h6,bz e,Cj]
theorem fA {b:List Int} (h:0<b.length) (ty k:Int):VC b ty k=if b[0]=0 then FC (b.drop 1) ty k else if b[0]=1 then Dn (b.drop 1) ty k else if b[0]=2 then Eg (b.drop 1) ty k else if b[0]=3 then Dy (b.drop 1) k else none:=by
 cases b with
 | nil=>simp at h
 | cons c r=>rfl
theorem kH (b:List Int) (ty k:Int) (hb:AY b) (hl:b.length≤1048576):Ctr prog 251 [.c (.sl (b.map byteC)),.c (.v (.int .i64 (ty))),.c (.v (.int .i64 (k)))] (Cj (H9 b ty k)):=by
 rw[← zL hb]
 refine CM call251 func251 ntmps251 results251 fun hw=>?_
 rcases h0:((b.length:Int)==0) with _ | _
 rotate_left
 ·have e:b = []:=by simpa using h0
  have e2:XM b ty k=none:=bz e
  rw[e2]
  simp only[go_sem,h0,Cj]
 have h0':0<b.length:=by
  rcases abo b.length with h | h
  ·rw[h] at h0; exact absurd h0 (by decide)
  ·exact h
 have hall:XM b ty k=if typeOf ((VC b ty k).getD [])=ty then again b k ((VC b ty k).getD []) (Ak ((VC b ty k).getD [])) else none:=by
  rw[← ww hb]
  exact aV fun q=>by rw[q] at h0'; simp at h0'
 rw[hall]
 simp only[go_sem,h0,AA _ h0']
 have hc:isByte b[0]:=hb _ (aj h0')
 have hc2:=hc.1
 have hc3:=hc.2
 have hw1:IntKind.i64.wrap b[0]=b[0]:=wrap_i64 (by omega) (by omega)
 have hdd:=fA h0' ty k
 have a2:1≤b.length:=h0'
 have q1:=Gy (k:=.i64) (n:=(1:Int)) (m:=1) (by omega)
 have htk:(b.drop 1).take (b.length-1)=b.drop 1:=aaC (by simp)
 have hbd:AY (b.drop 1):=fun c hc=>hb c (aaJ hc)
 have hdl:(b.drop 1).length≤1048576:=by simp; omega
 rcases hk0:b[0]==0 with _ | _
 rotate_left
 ·rw[bz (by simpa using hk0)] at hdd
  simp only[go_sem,q1,a2,BC,aN,← bW,← bV,htk,hw1,hk0]
  have hr:=Yh (b.drop 1) ty k hbd hdl
  rcases hd:FC (b.drop 1) ty k with _ | l<;>rw[hd] at hr hdd<;>simp only[Cj] at hr<;>rw[hdd]
  ·refine CallK.mk _ hr fun _=>?_
   simp only[go_sem,qy]
   refine CallK.mk _ (Bz [] (by simp)) fun _=>?_
   rcases h5:typeOf [] != ty with _ | _
   rotate_left
   ·rw[aV (by simpa using h5)]
    simp only[go_sem,h5,Cj]
   rw[bz (by simpa using h5)]
   simp only[go_sem,h5]
   refine CallK.mk _ (D9 [] (by simp)) fun _=>?_
   simp only[go_sem]
   refine CallK.mk _ (Bh b k [] (Ak [])) fun _=>?_
   rcases h6:again b k [] (Ak []) with _ | l'<;>simp only[go_sem,Cj]
  ·have hll:l.length≤1048576:=by have:=(Jl hb hdd).1; omega
   refine CallK.mk _ hr fun _=>?_
   simp only[go_sem,aJ]
   refine CallK.mk _ (Bz l hll) fun _=>?_
   rcases h5:typeOf l != ty with _ | _
   rotate_left
   ·rw[aV (by simpa using h5)]
    simp only[go_sem,h5,Cj]
   rw[bz (by simpa using h5)]
   simp only[go_sem,h5]
   refine CallK.mk _ (D9 l hll) fun _=>?_
   simp only[go_sem]
   refine CallK.mk _ (Bh b k l (Ak l)) fun _=>?_
   rcases h6:again b k l (Ak l) with _ | l'<;>simp only[go_sem,Cj]
 rcases hk1:b[0]==1 with _ | _
 rotate_left
 ·rw[aV (by simpa using hk0),bz (by simpa using hk1)] at hdd
  simp only[go_sem,q1,a2,BC,aN,← bW,← bV,htk,hw1,hk0,hk1]
  have hr:=Zw (b.drop 1) ty k hbd hdl
  rcases hd:Dn (b.drop 1) ty k with _ | l<;>rw[hd] at hr hdd<;>simp only[Cj] at hr<;>rw[hdd]
  ·refine CallK.mk _ hr fun _=>?_
   simp only[go_sem,qy]
   refine CallK.mk _ (Bz [] (by simp)) fun _=>?_
   rcases h5:typeOf [] != ty with _ | _
   rotate_left
   ·rw[aV (by simpa using h5)]
    simp only[go_sem,h5,Cj]
   rw[bz (by simpa using h5)]
   simp only[go_sem,h5]
   refine CallK.mk _ (D9 [] (by simp)) fun _=>?_
   simp only[go_sem]
   refine CallK.mk _ (Bh b k [] (Ak [])) fun _=>?_
   rcases h6:again b k [] (Ak []) with _ | l'<;>simp only[go_sem,Cj]
  ·have hll:l.length≤1048576:=by have:=(Jl hb hdd).1; omega
   refine CallK.mk _ hr fun _=>?_
   simp only[go_sem,aJ]
   refine CallK.mk _ (Bz l hll) fun _=>?_
   rcases h5:typeOf l != ty with _ | _
   rotate_left
   ·rw[aV (by simpa using h5)]
    simp only[go_sem,h5,Cj]
   rw[bz (by simpa using h5)]
   simp only[go_sem,h5]
   refine CallK.mk _ (D9 l hll) fun _=>?_
   simp only[go_sem]
   refine CallK.mk _ (Bh b k l (Ak l)) fun _=>?_
   rcases h6:again b k l (Ak l) with _ | l'<;>simp only[go_sem,Cj]
 rcases hk2:b[0]==2 with _ | _
 rotate_left
 ·rw[aV (by simpa using hk0),aV (by simpa using hk1),bz (by simpa using hk2)] at hdd
  simp only[go_sem,q1,a2,BC,aN,← bW,← bV,htk,hw1,hk0,hk1,hk2]
  have hr:=Z4 (b.drop 1) ty k hbd hdl
  rcases hd:Eg (b.drop 1) ty k with _ | l<;>rw[hd] at hr hdd<;>simp only[Cj] at hr<;>rw[hdd]
  ·refine CallK.mk _ hr fun _=>?_
   simp only[go_sem,qy]
   refine CallK.mk _ (Bz [] (by simp)) fun _=>?_
   rcases h5:typeOf [] != ty with _ | _
   rotate_left
   ·rw[aV (by simpa using h5)]
    simp only[go_sem,h5,Cj]
   rw[bz (by simpa using h5)]
   simp only[go_sem,h5]
   refine CallK.mk _ (D9 [] (by simp)) fun _=>?_
   simp only[go_sem]
   refine CallK.mk _ (Bh b k [] (Ak [])) fun _=>?_
   rcases h6:again b k [] (Ak []) with _ | l'<;>simp only[go_sem,Cj]
  ·have hll:l.length≤1048576:=by have:=(Jl hb hdd).1; omega
   refine CallK.mk _ hr fun _=>?_
   simp only[go_sem,aJ]
   refine CallK.mk _ (Bz l hll) fun _=>?_
   rcases h5:typeOf l != ty with _ | _
   rotate_left
   ·rw[aV (by simpa using h5)]
    simp only[go_sem,h5,Cj]
   rw[bz (by simpa using h5)]
   simp only[go_sem,h5]
   refine CallK.mk _ (D9 l hll) fun _=>?_
   simp only[go_sem]
   refine CallK.mk _ (Bh b k l (Ak l)) fun _=>?_
   rcases h6:again b k l (Ak l) with _ | l'<;>simp only[go_sem,Cj]
 rcases hk3:b[0]==3 with _ | _
 rotate_left
 ·rw[aV (by simpa using hk0),aV (by simpa using hk1),aV (by simpa using hk2),bz (by simpa using hk3)] at hdd
  simp only[go_sem,q1,a2,BC,aN,← bW,← bV,htk,hw1,hk0,hk1,hk2,hk3]
  have hr:=Yp (b.drop 1) k hbd hdl
  rcases hd:Dy (b.drop 1) k with _ | l<;>rw[hd] at hr hdd<;>simp only[Cj] at hr<;>rw[hdd]
  ·refine CallK.mk _ hr fun _=>?_
   simp only[go_sem,qy]
   refine CallK.mk _ (Bz [] (by simp)) fun _=>?_
   rcases h5:typeOf [] != ty with _ | _
   rotate_left
   ·rw[aV (by simpa using h5)]
    simp only[go_sem,h5,Cj]
   rw[bz (by simpa using h5)]
   simp only[go_sem,h5]
   refine CallK.mk _ (D9 [] (by simp)) fun _=>?_
   simp only[go_sem]
   refine CallK.mk _ (Bh b k [] (Ak [])) fun _=>?_
   rcases h6:again b k [] (Ak []) with _ | l'<;>simp only[go_sem,Cj]
  ·have hll:l.length≤1048576:=by have:=(Jl hb hdd).1; omega
   refine CallK.mk _ hr fun _=>?_
   simp only[go_sem,aJ]
   refine CallK.mk _ (Bz l hll) fun _=>?_
   rcases h5:typeOf l != ty with _ | _
   rotate_left
   ·rw[aV (by simpa using h5)]
    simp only[go_sem,h5,Cj]
   rw[bz (by simpa using h5)]
   simp only[go_sem,h5]
   refine CallK.mk _ (D9 l hll) fun _=>?_
   simp only[go_sem]
   refine CallK.mk _ (Bh b k l (Ak l)) fun _=>?_
   rcases h6:again b k l (Ak l) with _ | l'<;>simp only[go_sem,Cj]
 rw[aV (by simpa using hk0),aV (by simpa using hk1),aV (by simpa using hk2),aV (by simpa using hk3)] at hdd
 rw[hdd]
 simp only[go_sem,q1,a2,BC,aN,← bW,← bV,htk,hw1,hk0,hk1,hk2,hk3,qy]
 refine CallK.mk _ (Bz [] (by simp)) fun _=>?_
 rcases h5:typeOf [] != ty with _ | _
 rotate_left
 ·rw[aV (by simpa using h5)]
  simp only[go_sem,h5,Cj]
 rw[bz (by simpa using h5)]
 simp only[go_sem,h5]
 refine CallK.mk _ (D9 [] (by simp)) fun _=>?_
 simp only[go_sem]
 refine CallK.mk _ (Bh b k [] (Ak [])) fun _=>?_
 rcases h6:again b k [] (Ak []) with _ | l'<;>simp only[go_sem,Cj]
theorem kJ (b:List Int) (ty k:Int) (hb:AY b) (hl:b.length≤1048576):Ctr prog 243 [.c (.sl (b.map byteC)),.c (.v (.int .i64 (ty))),.c (.v (.int .i64 (k)))] (Cj (H9 b ty k)):=by
 refine CM call243 func243 ntmps243 results243 fun hw=>?_
 rcases h0:((b.length:Int)==0) with _ | _
 rotate_left
 ·have e:b = []:=by simpa using h0
  have e2:H9 b ty k=none:=by rw[e,H9]; split<;>rfl
  rw[e2]
  simp only[go_sem,h0,Cj]
 have h0':0<b.length:=by
  rcases abo b.length with h | h
  ·rw[h] at h0; exact absurd h0 (by decide)
  ·exact h
 simp only[go_sem,h0,AA _ h0']
 refine CallK.mk _ (AL _ _ _) fun _=>?_
 rcases h1:Ac ty 1 2 with _ | _
 ·have e:H9 b ty k=none:=aV (by simp[Ac] at h1; omega)
  rw[e]
  simp only[go_sem,h1,Cj]
 have hty:1≤ty∧ty≤2:=by simp[Ac] at h1; omega
 have hall:H9 b ty k=match VC b ty k with
  | none=>none
  | some l=>if typeOf l=ty∧Ak l=b then some l else none:=bz hty
 rw[hall]
 simp only[go_sem,h1,AA _ h0']
 have hc:isByte b[0]:=hb _ (aj h0')
 have hc2:=hc.1
 have hc3:=hc.2
 have hw1:IntKind.i64.wrap b[0]=b[0]:=wrap_i64 (by omega) (by omega)
 have hdd:=fA h0' ty k
 have a2:1≤b.length:=h0'
 have q1:=Gy (k:=.i64) (n:=(1:Int)) (m:=1) (by omega)
 have htk:(b.drop 1).take (b.length-1)=b.drop 1:=aaC (by simp)
 have hbd:AY (b.drop 1):=fun c hc=>hb c (aaJ hc)
 have hdl:(b.drop 1).length≤1048576:=by simp; omega
 rcases hk0:b[0]==0 with _ | _
 rotate_left
 ·rw[bz (by simpa using hk0)] at hdd
  simp only[go_sem,q1,a2,BC,aN,← bW,← bV,htk,hw1,hk0]
  have hr:=Yg (b.drop 1) ty k hbd hdl
  rcases hd:FC (b.drop 1) ty k with _ | l<;>rw[hd] at hr hdd<;>simp only[Cj] at hr<;>rw[hdd]
  ·refine CallK.mk _ hr fun _=>?_
   simp only[go_sem,Cj]
  ·have hll:l.length≤1048576:=by have:=(Jl hb hdd).1; omega
   refine CallK.mk _ hr fun _=>?_
   simp only[go_sem]
   refine CallK.mk _ (D8 l hll) fun _=>?_
   rcases h5:typeOf l != ty with _ | _
   rotate_left
   ·have h5':¬ (typeOf l=ty∧Ak l=b):=fun q=>by simp at h5; exact h5 q.1
    simp only[go_sem,h5,aV h5',Cj]
   have h5':typeOf l=ty:=by simpa using h5
   simp only[go_sem,h5]
   refine CallK.mk _ (Kw l hll) fun _=>?_
   simp only[go_sem]
   refine CallK.mk _ (Hq (Ak l) b) fun _=>?_
   rcases h6:decide (Ak l=b) with _ | _
   ·have h7:¬ (typeOf l=ty∧Ak l=b):=fun q=>by simp at h6; exact h6 q.2
    simp only[go_sem,h5,h6,aV h7,Cj]
   ·have h7:typeOf l=ty∧Ak l=b:=⟨h5',by simpa using h6⟩
    simp only[go_sem,h5,h6,bz h7,Cj]
 rcases hk1:b[0]==1 with _ | _
 rotate_left
 ·rw[aV (by simpa using hk0),bz (by simpa using hk1)] at hdd
  simp only[go_sem,q1,a2,BC,aN,← bW,← bV,htk,hw1,hk0,hk1]
  have hr:=Zx (b.drop 1) ty k hbd hdl
  rcases hd:Dn (b.drop 1) ty k with _ | l<;>rw[hd] at hr hdd<;>simp only[Cj] at hr<;>rw[hdd]
  ·refine CallK.mk _ hr fun _=>?_
   simp only[go_sem,Cj]
  ·have hll:l.length≤1048576:=by have:=(Jl hb hdd).1; omega
   refine CallK.mk _ hr fun _=>?_
   simp only[go_sem]
   refine CallK.mk _ (D8 l hll) fun _=>?_
   rcases h5:typeOf l != ty with _ | _
   rotate_left
   ·have h5':¬ (typeOf l=ty∧Ak l=b):=fun q=>by simp at h5; exact h5 q.1
    simp only[go_sem,h5,aV h5',Cj]
   have h5':typeOf l=ty:=by simpa using h5
   simp only[go_sem,h5]
   refine CallK.mk _ (Kw l hll) fun _=>?_
   simp only[go_sem]
   refine CallK.mk _ (Hq (Ak l) b) fun _=>?_
   rcases h6:decide (Ak l=b) with _ | _
   ·have h7:¬ (typeOf l=ty∧Ak l=b):=fun q=>by simp at h6; exact h6 q.2
    simp only[go_sem,h5,h6,aV h7,Cj]
   ·have h7:typeOf l=ty∧Ak l=b:=⟨h5',by simpa using h6⟩
    simp only[go_sem,h5,h6,bz h7,Cj]
 rcases hk2:b[0]==2 with _ | _
 rotate_left
 ·rw[aV (by simpa using hk0),aV (by simpa using hk1),bz (by simpa using hk2)] at hdd
  simp only[go_sem,q1,a2,BC,aN,← bW,← bV,htk,hw1,hk0,hk1,hk2]
  have hr:=Z5 (b.drop 1) ty k hbd hdl
  rcases hd:Eg (b.drop 1) ty k with _ | l<;>rw[hd] at hr hdd<;>simp only[Cj] at hr<;>rw[hdd]
  ·refine CallK.mk _ hr fun _=>?_
   simp only[go_sem,Cj]
  ·have hll:l.length≤1048576:=by have:=(Jl hb hdd).1; omega
   refine CallK.mk _ hr fun _=>?_
   simp only[go_sem]
   refine CallK.mk _ (D8 l hll) fun _=>?_
   rcases h5:typeOf l != ty with _ | _
   rotate_left
   ·have h5':¬ (typeOf l=ty∧Ak l=b):=fun q=>by simp at h5; exact h5 q.1
    simp only[go_sem,h5,aV h5',Cj]
   have h5':typeOf l=ty:=by simpa using h5
   simp only[go_sem,h5]
   refine CallK.mk _ (Kw l hll) fun _=>?_
   simp only[go_sem]
   refine CallK.mk _ (Hq (Ak l) b) fun _=>?_
   rcases h6:decide (Ak l=b) with _ | _
   ·have h7:¬ (typeOf l=ty∧Ak l=b):=fun q=>by simp at h6; exact h6 q.2
    simp only[go_sem,h5,h6,aV h7,Cj]
   ·have h7:typeOf l=ty∧Ak l=b:=⟨h5',by simpa using h6⟩
    simp only[go_sem,h5,h6,bz h7,Cj]
 rcases hk3:b[0]==3 with _ | _
 rotate_left
 ·rw[aV (by simpa using hk0),aV (by simpa using hk1),aV (by simpa using hk2),bz (by simpa using hk3)] at hdd
  simp only[go_sem,q1,a2,BC,aN,← bW,← bV,htk,hw1,hk0,hk1,hk2,hk3]
  have hr:=Yq (b.drop 1) k hbd hdl
  rcases hd:Dy (b.drop 1) k with _ | l<;>rw[hd] at hr hdd<;>simp only[Cj] at hr<;>rw[hdd]
  ·refine CallK.mk _ hr fun _=>?_
   simp only[go_sem,Cj]
  ·have hll:l.length≤1048576:=by have:=(Jl hb hdd).1; omega
   refine CallK.mk _ hr fun _=>?_
   simp only[go_sem]
   refine CallK.mk _ (D8 l hll) fun _=>?_
   rcases h5:typeOf l != ty with _ | _
   rotate_left
   ·have h5':¬ (typeOf l=ty∧Ak l=b):=fun q=>by simp at h5; exact h5 q.1
    simp only[go_sem,h5,aV h5',Cj]
   have h5':typeOf l=ty:=by simpa using h5
   simp only[go_sem,h5]
   refine CallK.mk _ (Kw l hll) fun _=>?_
   simp only[go_sem]
   refine CallK.mk _ (Hq (Ak l) b) fun _=>?_
   rcases h6:decide (Ak l=b) with _ | _
   ·have h7:¬ (typeOf l=ty∧Ak l=b):=fun q=>by simp at h6; exact h6 q.2
    simp only[go_sem,h5,h6,aV h7,Cj]
   ·have h7:typeOf l=ty∧Ak l=b:=⟨h5',by simpa using h6⟩
    simp only[go_sem,h5,h6,bz h7,Cj]
 rw[aV (by simpa using hk0),aV (by simpa using hk1),aV (by simpa using hk2),aV (by simpa using hk3)] at hdd
 rw[hdd]
 simp only[go_sem,q1,a2,BC,aN,← bW,← bV,htk,hw1,hk0,hk1,hk2,hk3,Cj]
def MZ (cs:List Int) (l:List DRow) (i:Nat):Prop:=∀ h:i<l.length,(rowOk cs l[i]=true∧(0<i→l[i-1].id<l[i].id))∧l[i].id≤1000000000
theorem Np {cs:List Int} {l:List DRow} {i:Nat} (h:¬ MZ cs l i):Ci cs l=false:=by
 rw[Bool.eq_false_iff]
 intro hg
 simp only[Ci,ak,bf] at hg
 refine h fun hi=>⟨?_,hg.2.2 _ (aj hi)⟩
 by_cases hr:rowAt cs l i
 ·exact hr hi
 ·rw[yG hr] at hg
  cases hg.2.1
theorem fB {cs:List Int} {l:List DRow} (h:∀ i,i<l.length→MZ cs l i):Ci cs l=(EQ cs&&decide (l.length≤12)):=by
 have h1:Rk cs l=true:=sH fun i hi _=>(h i hi hi).1
 have h2:decide (∀ r∈l,r.id≤1000000000)=true:=decide_eq_true fun r hr=>by
  obtain⟨i,hi,rfl⟩:=aaI hr
  exact(h i hi hi).2
 simp only[Ci,h1,h2,aS]
theorem Og (cs:List Int) (l:List DRow) (hl:l.length≤1048576):Ctr prog 252 [.c (.sl (cs.map intC)),.c (.sl (l.map DRow.c))] [.val (.c (.v (.bool (Ci cs l))))]:=by
 refine CM call252 func252 ntmps252 results252 fun hw=>?_
 simp only[go_sem]
 refine CallK.mk _ (OM _) fun _=>?_
 rcases hc:EQ cs with _ | _
 ·have e:Ci cs l=false:=by simp only[Ci,hc,ag]
  simp only[go_sem,hc,e]
 rcases h12:decide ((l.length:Int)>12) with _ | _
 rotate_left
 ·have e:Ci cs l=false:=by
   have:decide (l.length≤12)=false:=by simp at h12 ⊢; omega
   simp only[Ci,this,aH,ag]
  simp only[go_sem,hc,h12,e]
 have h12':decide (l.length≤12)=true:=by simp at h12 ⊢; omega
 simp only[go_sem,hc,h12]
 refine LoopU.mk 0 (A:=Nat) (fun x=>[(17,.c (.v (.int .i64 (x))))]) (fun _=>[]) (fun k=>k≤l.length∧∀ i,i<k→MZ cs l i) (fun k=>l.length-k) 0 ⟨⟨rfl,rfl⟩,rfl,ax _,fun i h=>by omega⟩ ?_
 rintro k ⟨hk,hf⟩
 simp only[go_sem]
 refine cndC.mk (fun h=>?_) (fun h=>?_)
 ·have hk':k<l.length:=by simpa using h
  have hnext:MZ cs l k→∀ i,i<k+1→MZ cs l i:=by
   intro hg i hi
   by_cases e:i=k
   ·subst e; exact hg
   ·exact hf i (by omega)
  simp only[go_sem,AA _ hk']
  refine DrawK.mk ?_
  simp only[go_sem,AA _ hk',hk']
  refine CY (mf cs l[k]) ?_
  rcases hv:rowOk cs l[k] with _ | _
  ·have hno:¬ MZ cs l k:=by intro hg; have:=(hg hk').1.1; rw[hv] at this; cases this
   simp only[go_sem,hv,Np hno]
  rcases hid:decide (l[k].id>1000000000) with _ | _
  rotate_left
  ·have hno:¬ MZ cs l k:=by intro hg; have:=(hg hk').2; simp at hid; omega
   simp only[go_sem,hv,hid,AA _ hk',hk',Np hno]
  have hid':l[k].id≤1000000000:=by simp at hid; omega
  rcases abo k with hz | hz
  ·have hp:decide ((k:Int)>0)=false:=by simp; omega
   simp only[go_sem,hv,hid,hp,AA _ hk',hk',wrap_i64 (n:=(k:Int)+1) (by omega) (by omega)]
   exact⟨k+1,⟨rfl,rfl⟩,rfl,⟨by omega,hnext fun _=>⟨⟨hv,fun h0=>by omega⟩,hid'⟩⟩,by omega⟩
  ·have hp:decide ((k:Int)>0)=true:=by simp; omega
   have hk1:k-1<l.length:=by omega
   have hw1:IntKind.i64.wrap ((k:Int)-1)=((k-1:Nat):Int):=by rw[wrap_i64 (by omega) (by omega)]; omega
   rcases hq:decide (l[k-1].id≥l[k].id) with _ | _
   ·simp only[go_sem,hv,hid,hp,hw1,AA _ hk',AA _ hk1,hk',hk1,hq,wrap_i64 (n:=(k:Int)+1) (by omega) (by omega)]
    exact⟨k+1,⟨rfl,rfl⟩,rfl,⟨by omega,hnext fun _=>⟨⟨hv,fun _=>by simp at hq; omega⟩,hid'⟩⟩,by omega⟩
   ·have hno:¬ MZ cs l k:=by intro hg; have:=(hg hk').1.2 hz; simp at hq; omega
    simp only[go_sem,hv,hid,hp,hw1,AA _ hk',AA _ hk1,hk',hk1,hq,Np hno]
 ·have hk':k=l.length:=by simp at h; omega
  subst hk'
  simp only[go_sem,fB hf,hc,h12',aS]
theorem UN (cs:List Int) (l:List DRow) (hl:l.length≤1048576):Ctr prog 244 [.c (.sl (cs.map intC)),.c (.sl (l.map DRow.c))] [.val (.c (.v (.bool (Ci cs l))))]:=by
 refine CM call244 func244 ntmps244 results244 fun hw=>?_
 simp only[go_sem]
 refine LoopU.mk 0 (A:=Nat) (fun x=>[(5,.c (.v (.int .i64 (x))))]) (fun _=>[]) (fun k=>k≤l.length∧∀ i,i<k→MZ cs l i) (fun k=>l.length-k) 0 ⟨⟨rfl,rfl⟩,rfl,ax _,fun i h=>by omega⟩ ?_
 rintro k ⟨hk,hf⟩
 simp only[go_sem]
 refine cndC.mk (fun h=>?_) (fun h=>?_)
 ·have hk':k<l.length:=by simpa using h
  have hnext:MZ cs l k→∀ i,i<k+1→MZ cs l i:=by
   intro hg i hi
   by_cases e:i=k
   ·subst e; exact hg
   ·exact hf i (by omega)
  simp only[go_sem,AA _ hk']
  refine DrawK.mk ?_
  simp only[go_sem,AA _ hk',hk']
  refine CY (mZ cs l[k]) ?_
  rcases hv:rowOk cs l[k] with _ | _
  ·have hno:¬ MZ cs l k:=by intro hg; have:=(hg hk').1.1; rw[hv] at this; cases this
   simp only[go_sem,hv,Np hno]
  rcases hid:decide (l[k].id>1000000000) with _ | _
  rotate_left
  ·have hno:¬ MZ cs l k:=by intro hg; have:=(hg hk').2; simp at hid; omega
   simp only[go_sem,hv,hid,AA _ hk',hk',Np hno]
  have hid':l[k].id≤1000000000:=by simp at hid; omega
  rcases abo k with hz | hz
  ·have hp:decide ((k:Int)>0)=false:=by simp; omega
   simp only[go_sem,hv,hid,hp,AA _ hk',hk',wrap_i64 (n:=(k:Int)+1) (by omega) (by omega)]
   exact⟨k+1,⟨rfl,rfl⟩,rfl,⟨by omega,hnext fun _=>⟨⟨hv,fun h0=>by omega⟩,hid'⟩⟩,by omega⟩
  ·have hp:decide ((k:Int)>0)=true:=by simp; omega
   have hk1:k-1<l.length:=by omega
   have hw1:IntKind.i64.wrap ((k:Int)-1)=((k-1:Nat):Int):=by rw[wrap_i64 (by omega) (by omega)]; omega
   rcases hq:decide (l[k-1].id≥l[k].id) with _ | _
   ·simp only[go_sem,hv,hid,hp,hw1,AA _ hk',AA _ hk1,hk',hk1,hq,wrap_i64 (n:=(k:Int)+1) (by omega) (by omega)]
    exact⟨k+1,⟨rfl,rfl⟩,rfl,⟨by omega,hnext fun _=>⟨⟨hv,fun _=>by simp at hq; omega⟩,hid'⟩⟩,by omega⟩
   ·have hno:¬ MZ cs l k:=by intro hg; have:=(hg hk').1.2 hz; simp at hq; omega
    simp only[go_sem,hv,hid,hp,hw1,AA _ hk',AA _ hk1,hk',hk1,hq,Np hno]
 ·have hk':k=l.length:=by simp at h; omega
  subst hk'
  simp only[go_sem]
  refine CallK.mk _ (OL _) fun _=>?_
  have h12:decide ((l.length:Int)≤12)=decide (l.length≤12):=by rw[decide_eq_decide]; omega
  rcases hc:EQ cs with _ | _<;>simp only[go_sem,fB hf,hc,h12,ag,ai]
theorem VL {cs:List Int} {l:List DRow} (h:Ci cs l=true):(cs.length≤3∧1≤cs.length)∧l.length≤12∧∀ r∈l,0≤r.id∧r.id≤1000000000∧fits cs r.l=true:=by
 simp only[Ci,ak,bf] at h
 obtain⟨⟨h1,h2⟩,h3,h4⟩:=h
 simp only[EQ,ak] at h1
 refine⟨by have:=h1.2; simp[Ac] at this; omega,h2,fun r hr=>?_⟩
 obtain⟨i,hi,rfl⟩:=aaI hr
 simp only[Rk,bf] at h3
 have:=(h3 i hi).1
 simp only[rowOk,ak,bf] at this
 exact⟨this.1,h4 _ hr,this.2⟩
theorem ABq (l:List DVal):(Zo l).length≤1006:=by
 have h1:=DR ((Ak l).length:Int)
 have h2:=Yu l
 simp only[Zo,aW]; omega
theorem qF {cs:List Int} {l:List DRow} (h:Ci cs l=true):Cb cs l=O0 (l.map DRow.id)++(if l = [] then [] else((List.range cs.length).map fun(k:Nat)=>Zo (KC l (k:Int))).flatten):=bz h
noncomputable def Nq (l:List DRow) (k:Nat):List Int:=if l = [] then [] else((List.range k).map fun(k:Nat)=>Zo (KC l (k:Int))).flatten
theorem uh (l:List DRow):Nq l 0 = []:=by unfold Nq; split<;>rfl
theorem QA (cs:List Int) (l:List DRow) (hl:fitS IR l):Ctr prog 254 [.c (.sl (cs.map intC)),.c (.sl (l.map DRow.c))] [.own 5 1 ((Cb cs l).map byteC) true]:=by
 refine CM call254 func254 ntmps254 results254 fun hw=>?_
 simp only[go_sem]
 refine CallK.mk _ (Og cs l hl.1) fun _=>?_
 rcases h1:Ci cs l with _ | _
 ·have e:Cb cs l = []:=aV (by rw[h1]; simp)
  rw[e]
  simp only[go_sem,h1]
  try simp[AU,AO,Df]
 obtain⟨f1,f2,f3⟩:=VL h1
 rw[qF h1]
 simp only[go_sem,h1]
 refine LoopH.mk [15] (A:=Nat) (fun x=>[(18,.c (.v (.int .i64 (x)))),(5,.c (.ref 0))]) (fun x=>[⟨3,1,((l.take x).map DRow.id).map intC,true,true⟩]) (fun x=>x≤l.length) (fun x=>l.length-x) 0 (Head.sel [(0,false)] ⟨rfl,rfl,rfl,trivial⟩ rfl) (ax _) ?_
 rintro i hi
 simp only[go_sem]
 refine cndC.mk (fun h=>?_) (fun h=>?_)
 ·have hi':i<l.length:=by simp at h; omega
  have hl2:i+1≤2147483648:=by omega
  simp only[go_sem,AA _ hi',hl2,bC,X4 hi,wrap_i64 (n:=(i:Int)+1) (by omega) (by omega)]
  exact⟨i+1,Head.sel [(3,false)] ⟨rfl,rfl,by rw[← FK]; exact Be _,trivial⟩ (by rw[Jc _ hi',FK]; rfl),hi',by omega⟩
 ·have hi':i=l.length:=by simp at h; omega
  subst hi'
  simp only[go_sem,bG]
  refine CallK.mk _ (Zt [] (l.map DRow.id) (by simp; omega) (by simp) fun n hn=>by
   obtain⟨r,hr,rfl⟩:=WY.1 hn
   exact(DL _).2 ⟨by have:=(f3 r hr).1; omega,(f3 r hr).2.1⟩) fun _=>?_
  rw[aI]
  simp only[go_sem]
  have hnl:=VG (l.map DRow.id)
  have hnb:=DR ((l.map DRow.id).length:Int)
  have hnl2:(O0 (l.map DRow.id)).length≤65:=by
   simp only[O0,aW]
   rw[ae] at hnl
   omega
  have hG:∀ k,(Nq l k).length≤1006*k:=fun k=>by
   unfold Nq
   split
   ·simp
   ·have:=P8 (fun(k:Nat)=>Zo (KC l (k:Int))) 1006 (List.range k) fun x _=>ABq _
    rw[List.length_range] at this
    exact this
  have hfin:O0 (l.map DRow.id)++(if l = [] then [] else((List.range cs.length).map fun(k:Nat)=>Zo (KC l (k:Int))).flatten)=O0 (l.map DRow.id)++Nq l cs.length:=rfl
  rw[hfin]
  refine LoopH.mk [29,28,5] (A:=Nat) (fun x=>[(32,.c (.v (.int .i64 (x)))),(8,.c (.ref 0))]) (fun x=>[⟨5,1,(O0 (l.map DRow.id)++Nq l x).map byteC,true,true⟩]) (fun x=>x≤cs.length) (fun x=>cs.length-x) 0 (Head.sel [(1,false)] ⟨rfl,rfl,EG _,trivial⟩ (by rw[uh,bF]; rfl)) (ax _) ?_
  rintro k hk
  simp only[go_sem]
  refine cndC.mk (fun h=>?_) (fun h=>?_)
  ·have hk':k<cs.length:=by simp at h; omega
   have hGk:=hG k
   rcases h2:decide ((l.length:Int)>0) with _ | _
   ·have h2':l = []:=by
     apply zu
     simp at h2; simp[h2]
    have hs:Nq l (k+1)=Nq l k:=by unfold Nq; rw[bz h2',bz h2']
    simp only[go_sem,h2,wrap_i64 (n:=(k:Int)+1) (by omega) (by omega)]
    exact⟨k+1,Head.sel [(0,false)] ⟨rfl,rfl,EG _,trivial⟩ (by rw[hs]; rfl),hk',by omega⟩
   ·have h2':l≠ []:=by rintro rfl; simp at h2
    have hcl:(KC l (k:Int)).length≤l.length:=List.length_filterMap_le _ _
    have hel:=Yu (KC l (k:Int))
    have hs:Nq l (k+1)=Nq l k++(EM (Ak (KC l (k:Int))).length++Ak (KC l (k:Int))):=by
     unfold Nq
     rw[aV h2',aV h2',List.range_succ]
     simp only[Vp,aaP,XA,dh,bT,Zh,bF,Zo]
    simp only[go_sem,h2]
    refine CallK.mk _ (gW l (k:Int) hl.big) fun _=>?_
    simp only[go_sem]
    refine CallK.mk _ (D9 (KC l (k:Int)) (by omega)) fun _=>?_
    simp only[go_sem]
    refine CallK.mk _ (FI _ _ (by simp only[aW]; omega)) fun _=>?_
    rw[JB ((DL _).2 ⟨by omega,by omega⟩)]
    have hnb2:=DR ((Ak (KC l (k:Int))).length:Int)
    have hl3:(O0 (l.map DRow.id)).length+(Nq l k).length+(EM (Ak (KC l (k:Int))).length).length+(Ak (KC l (k:Int))).length≤2147483648:=by omega
    simp only[go_sem,hl3,Es,P6,wrap_i64 (n:=(k:Int)+1) (by omega) (by omega)]
    exact⟨k+1,Head.sel [(4,false)] ⟨rfl,rfl,EG _,trivial⟩ (by rw[hs]; simp only[bM]; rfl),hk',by omega⟩
  ·have hk':k=cs.length:=by simp at h; omega
   subst hk'
   simp only[go_sem]
   try simp[AU,AO]
end Go.Proofs.YtnfbaclikokapaaGreat
