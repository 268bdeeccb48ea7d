/- A part. -/
import Derived.Test.YtnchiiikacemmaaGreatYn
import Derived.Test.YtnchiiikacemmaaGreatVmX
set_option linter.unusedSimpArgs false
set_option linter.unusedVariables false
set_option maxHeartbeats 2000000
set_option maxRecDepth 10000
open Go.Proofs.Tryz
namespace Go.Proofs.YtnchiiikacemmaaGreat
open Go.Vm
theorem dC (b:List Int) (ty k:Int) (hb:AQ b) (hl:b.length≤1048576):Ctr prog 265 [.c (.sl (b.map byteC)),.c (.v (.int .i64 (ty))),.c (.v (.int .i64 (k)))] (C_ (Em b ty k)):=by
 rw[← Y_ hb]
 refine CM call265 func265 ntmps265 results265 fun hw=>?_
 simp only[go_sem]
 have hg:=FI b 0 hb hl
 rcases h1:BK b 0 with _ | ⟨n,q⟩<;>rw[h1] at hg<;>simp only[UH] at hg
 ·have e:I9 b ty k=none:=by simp only[I9,h1]
  rw[e]
  refine CallK.mk _ hg fun _=>?_
  simp only[go_sem,C_]
 refine CallK.mk _ hg fun _=>?_
 simp only[go_sem]
 refine CallK.mk _ (AC _ _ _) fun _=>?_
 rcases h2:Ac n 1 64 with _ | _
 ·have e:I9 b ty k=none:=by simp only[I9,h1]; exact aV (by simp[Ac] at h2; omega)
  rw[e]
  simp only[go_sem,C_]
 have h2':1≤n∧n≤64:=by simp[Ac] at h2; omega
 have hall:I9 b ty k=match Ba b ty n.toNat q with
   | none=>none
   | some (d,q)=>match unpack (b.drop q) (Ai (n-1)) k with
    | none=>none
    | some o=>again b k ((picked d o).getD []) (Df ((picked d o).getD [])):=by simp only[I9,h1]; exact aX h2'
 rw[hall]
 have hgv:=UN b q ty n hb hl h2'.2
 simp only[go_sem]
 rcases h3:Ba b ty n.toNat q with _ | ⟨d,q2⟩<;>rw[h3] at hgv<;>simp only[ABy] at hgv
 ·refine CallK.mk _ hgv fun _=>?_
  simp only[go_sem,C_]
 refine CallK.mk _ hgv fun _=>?_
 have hq0:=(Gq hb h1).2.2.1
 obtain⟨a1,a2,a3,_⟩:=IZ hb _ _ _ _ hq0 h3
 have q1:=G8 (k:=.i64) (n:=(q2:Int)) (m:=q2) (by omega)
 have hw1:IntKind.i64.wrap (n-1)=n-1:=wrap_i64 (by omega) (by omega)
 have htk:(b.drop q2).take (b.length-q2)=b.drop q2:=aaE (by simp)
 have hbd:AQ (b.drop q2):=fun c hc=>hb c (aaH hc)
 have hu:=UI (b.drop q2) (Ai (n-1)) k hbd (by simp; omega)
 simp only[go_sem]
 refine DrawK.mkE ?_
 simp only[go_sem,q1,a2,Be,aK,← df,← bZ,htk,hw1]
 refine CallE.mk _ (Jd _) ?_
 simp only[go_sem,q1,a2,Be,aK,← df,← bZ,htk,hw1]
 rcases h4:unpack (b.drop q2) (Ai (n-1)) k with _ | o<;>rw[h4] at hu<;>simp only[XZ] at hu
 ·refine CallE.mk _ hu ?_
  simp only[go_sem,q1,a2,Be,aK,← df,← bZ,htk]
  simp only[go_sem,C_]
 refine CallE.mk _ hu ?_
 have hol:=Qa h4
 simp only[go_sem,q1,a2,Be,aK,← df,← bZ,htk]
 have hr:=kQ d o (by omega) (by omega)
 rcases h5:picked d o with _ | l<;>rw[h5] at hr<;>simp only[C_] at hr
 ·refine CallK.mk _ hr fun _=>?_
  simp only[go_sem,rV]
  refine CallK.mk _ (MP [] (by simp)) fun _=>?_
  simp only[go_sem]
  refine CallK.mk _ (Bg b k [] (Df [])) fun _=>?_
  rcases h6:again b k [] (Df []) with _ | l'<;>simp only[go_sem,C_]
 ·have hll:=LQ h5
  refine CallK.mk _ hr fun _=>?_
  simp only[go_sem]
  refine CallK.mk _ (MP l (by omega)) fun _=>?_
  simp only[go_sem]
  refine CallK.mk _ (Bg b k l (Df l)) fun _=>?_
  rcases h6:again b k l (Df l) with _ | l'<;>simp only[go_sem,C_]
theorem dD (b:List Int) (ty k:Int) (hb:AQ b) (hl:b.length≤1048576):Ctr prog 253 [.c (.sl (b.map byteC)),.c (.v (.int .i64 (ty))),.c (.v (.int .i64 (k)))] (C_ (Em b ty k)):=by
 refine CM call253 func253 ntmps253 results253 fun hw=>?_
 simp only[go_sem]
 have hg:=FH b 0 hb hl
 rcases h1:BK b 0 with _ | ⟨n,q⟩<;>rw[h1] at hg<;>simp only[UH] at hg
 ·have e:Em b ty k=none:=by simp only[Em,h1]
  rw[e]
  refine CallK.mk _ hg fun _=>?_
  simp only[go_sem,C_]
 refine CallK.mk _ hg fun _=>?_
 simp only[go_sem]
 refine CallK.mk _ (AL _ _ _) fun _=>?_
 rcases h2:Ac k 1 64 with _ | _
 ·have e:Em b ty k=none:=by simp only[Em,h1]; exact aV (by simp[Ac] at h2; omega)
  rw[e]
  simp only[go_sem,C_]
 simp only[go_sem]
 refine CallK.mk _ (AL _ _ _) fun _=>?_
 rcases h3:Ac n 1 k with _ | _
 ·have e:Em b ty k=none:=by simp only[Em,h1]; exact aV (by simp[Ac] at h3; omega)
  rw[e]
  simp only[go_sem,C_]
 have hk:1≤k∧k≤64:=by simp[Ac] at h2; omega
 have hn:1≤n∧n≤k:=by simp[Ac] at h3; omega
 have hall:Em b ty k=match Ba b ty n.toNat q with
   | none=>none
   | some (d,q)=>match unpack (b.drop q) (Ai (n-1)) k with
    | none=>none
    | some o=>match picked d o with
     | none=>none
     | some l=>if Df l=b then some l else none:=by simp only[Em,h1]; exact aX ⟨hk,hn⟩
 rw[hall]
 simp only[go_sem]
 obtain⟨N,rfl⟩:=aP (show 0≤n by omega)
 simp only[bV]
 have hq0:=(Gq hb h1).2.2.1
 refine LoopH.mk [42] (A:=Nat×Nat×List DVal) (fun x=>[(13,.c (.v (.int .i64 (x.1)))),(12,.c (.ref 1)),(10,.c (.v (.int .i64 ((x.2.1:Int)))))]) (fun x=>[⟨119,3,[],true,true⟩,⟨119,3,x.2.2.map DVal.c,true,true⟩]) (fun x=>x.1≤N∧x.2.2.length=x.1∧(Ba b ty (N-x.1) x.2.1).map (fun y=>(x.2.2++y.1,y.2))=Ba b ty N q) (fun x=>N-x.1) (0,q,[]) (Head.sel [(0,false),(1,false)] ⟨rfl,rfl,rfl,rfl,trivial⟩ rfl) ⟨ak _,rfl,by simp⟩ ?_
 rintro⟨i,p,d⟩ ⟨hi,hll,hp⟩
 dsimp only at hi hll hp
 simp only[go_sem]
 refine cndC.mk (fun h=>?_) (fun h=>?_)
 ·have hi':i<N:=by simp at h; omega
  rw[show N-i=(N-(i+1))+1 by omega,Ba] at hp
  have hg2:=KR b p ty hb hl
  simp only[go_sem]
  rcases h4:Ei b p ty with _ | ⟨v,p2⟩<;>rw[h4] at hg2 hp<;>simp only[Yo] at hg2
  ·refine CallK.mk _ hg2 fun _=>?_
   simp only[dm] at hp
   rw[← hp]
   simp only[go_sem,C_]
  ·refine CallK.mk _ hg2 fun _=>?_
   have hl2:d.length+1≤2147483648:=by omega
   simp only[go_sem,hl2,wrap_i64 (n:=(i:Int)+1) (by omega) (by omega)]
   exact⟨(i+1,p2,d ++ [v]),Head.sel [(0,false),(4,false)] ⟨rfl,rfl,rfl,KT _ _,trivial⟩ (by rw[FN]; rfl),⟨hi',by simp; omega,by rw[← hp,zI]; congr 1; funext y; simp⟩,by simp only; omega⟩
 ·have hi':i=N:=by simp at h; omega
  subst hi'
  rw[XL,Ba] at hp
  simp only[bU,bz] at hp
  obtain⟨a1,a2,a3,_⟩:=IZ hb _ _ _ _ hq0 hp.symm
  rw[← hp]
  have q1:=G8 (k:=.i64) (n:=(p:Int)) (m:=p) (by omega)
  have hw1:IntKind.i64.wrap ((i:Int)-1)=(i:Int)-1:=wrap_i64 (by omega) (by omega)
  have htk:(b.drop p).take (b.length-p)=b.drop p:=aaE (by simp)
  have hbd:AQ (b.drop p):=fun c hc=>hb c (aaH hc)
  have hu:=UJ (b.drop p) (Ai ((i:Int)-1)) k hbd (by simp; omega)
  simp only[go_sem]
  refine DrawK.mkE ?_
  simp only[go_sem,q1,a2,Be,aK,← df,← bZ,htk,hw1]
  refine CallE.mk _ (IK _) ?_
  simp only[go_sem,q1,a2,Be,aK,← df,← bZ,htk,hw1]
  rcases h4:unpack (b.drop p) (Ai ((i:Int)-1)) k with _ | o<;>rw[h4] at hu<;>simp only[XZ] at hu
  ·refine CallE.mk _ hu ?_
   simp only[go_sem,q1,a2,Be,aK,← df,← bZ,htk]
   have hr:=UO d [] (by simp) (by omega)
   rcases h5:picked d [] with _ | l<;>rw[h5] at hr<;>simp only[C_] at hr
   ·refine CallK.mk _ hr fun _=>?_
    simp only[go_sem,C_]
   ·refine CallK.mk _ hr fun _=>?_
    simp only[go_sem,C_]
  refine CallE.mk _ hu ?_
  have hol:=Qa h4
  simp only[go_sem,q1,a2,Be,aK,← df,← bZ,htk]
  have hr:=UO d o (by omega) (by omega)
  rcases h5:picked d o with _ | l<;>rw[h5] at hr<;>simp only[C_] at hr
  ·refine CallK.mk _ hr fun _=>?_
   simp only[go_sem,C_]
  have hll2:=LQ h5
  refine CallK.mk _ hr fun _=>?_
  simp only[go_sem]
  refine CallK.mk _ (Q5 l (by omega)) fun _=>?_
  simp only[go_sem]
  refine CallK.mk _ (Hr (Df l) b) fun _=>?_
  rcases h6:decide (Df l=b) with _ | _
  ·have e:¬ Df l=b:=by simpa using h6
   simp only[go_sem,aV e,C_]
  ·have e:Df l=b:=by simpa using h6
   simp only[go_sem,aX e,C_]
theorem fH {b:List Int} (h:0<b.length) (ty k:Int):VC b ty k=if b[0]=0 then FD (b.drop 1) ty k else if b[0]=1 then Dt (b.drop 1) ty k else if b[0]=2 then Em (b.drop 1) ty k else if b[0]=3 then D5 (b.drop 1) k else none:=by
 cases b with
 | nil=>simp at h
 | cons c r=>rfl
theorem kV (b:List Int) (ty k:Int) (hb:AQ b) (hl:b.length≤1048576):Ctr prog 240 [.c (.sl (b.map byteC)),.c (.v (.int .i64 (ty))),.c (.v (.int .i64 (k)))] (C_ (IA b ty k)):=by
 rw[← zx hb]
 refine CM call240 func240 ntmps240 results240 fun hw=>?_
 rcases h0:((b.length:Int)==0) with _ | _
 rotate_left
 ·have e:b = []:=by simpa using h0
  have e2:XX b ty k=none:=aX e
  rw[e2]
  simp only[go_sem,h0,C_]
 have h0':0<b.length:=by
  rcases abo b.length with h | h
  ·rw[h] at h0; exact absurd h0 (by decide)
  ·exact h
 have hall:XX b ty k=if typeOf ((VC b ty k).getD [])=ty then again b k ((VC b ty k).getD []) (Am ((VC b ty k).getD [])) else none:=by
  rw[← xh hb]
  exact aV fun q=>by rw[q] at h0'; simp at h0'
 rw[hall]
 simp only[go_sem,h0,AA _ h0']
 have hc:isByte b[0]:=hb _ (aj h0')
 have hc2:=hc.1
 have hc3:=hc.2
 have hw1:IntKind.i64.wrap b[0]=b[0]:=wrap_i64 (by omega) (by omega)
 have hdd:=fH h0' ty k
 have a2:1≤b.length:=h0'
 have q1:=G8 (k:=.i64) (n:=(1:Int)) (m:=1) (by omega)
 have htk:(b.drop 1).take (b.length-1)=b.drop 1:=aaE (by simp)
 have hbd:AQ (b.drop 1):=fun c hc=>hb c (aaH hc)
 have hdl:(b.drop 1).length≤1048576:=by simp; omega
 rcases hk0:b[0]==0 with _ | _
 rotate_left
 ·rw[aX (by simpa using hk0)] at hdd
  simp only[go_sem,q1,a2,Be,aK,← df,← bZ,htk,hw1,hk0]
  have hr:=Yq (b.drop 1) ty k hbd hdl
  rcases hd:FD (b.drop 1) ty k with _ | l<;>rw[hd] at hr hdd<;>simp only[C_] at hr<;>rw[hdd]
  ·refine CallK.mk _ hr fun _=>?_
   simp only[go_sem,rV]
   refine CallK.mk _ (CB [] (by simp)) fun _=>?_
   rcases h5:typeOf [] != ty with _ | _
   rotate_left
   ·rw[aV (by simpa using h5)]
    simp only[go_sem,h5,C_]
   rw[aX (by simpa using h5)]
   simp only[go_sem,h5]
   refine CallK.mk _ (EC [] (by simp)) fun _=>?_
   simp only[go_sem]
   refine CallK.mk _ (Bg b k [] (Am [])) fun _=>?_
   rcases h6:again b k [] (Am []) with _ | l'<;>simp only[go_sem,C_]
  ·have hll:l.length≤1048576:=by have:=(Je hb hdd).1; omega
   refine CallK.mk _ hr fun _=>?_
   simp only[go_sem,aS]
   refine CallK.mk _ (CB l hll) fun _=>?_
   rcases h5:typeOf l != ty with _ | _
   rotate_left
   ·rw[aV (by simpa using h5)]
    simp only[go_sem,h5,C_]
   rw[aX (by simpa using h5)]
   simp only[go_sem,h5]
   refine CallK.mk _ (EC l hll) fun _=>?_
   simp only[go_sem]
   refine CallK.mk _ (Bg b k l (Am l)) fun _=>?_
   rcases h6:again b k l (Am l) with _ | l'<;>simp only[go_sem,C_]
 rcases hk1:b[0]==1 with _ | _
 rotate_left
 ·rw[aV (by simpa using hk0),aX (by simpa using hk1)] at hdd
  simp only[go_sem,q1,a2,Be,aK,← df,← bZ,htk,hw1,hk0,hk1]
  have hr:=a_ (b.drop 1) ty k hbd hdl
  rcases hd:Dt (b.drop 1) ty k with _ | l<;>rw[hd] at hr hdd<;>simp only[C_] at hr<;>rw[hdd]
  ·refine CallK.mk _ hr fun _=>?_
   simp only[go_sem,rV]
   refine CallK.mk _ (CB [] (by simp)) fun _=>?_
   rcases h5:typeOf [] != ty with _ | _
   rotate_left
   ·rw[aV (by simpa using h5)]
    simp only[go_sem,h5,C_]
   rw[aX (by simpa using h5)]
   simp only[go_sem,h5]
   refine CallK.mk _ (EC [] (by simp)) fun _=>?_
   simp only[go_sem]
   refine CallK.mk _ (Bg b k [] (Am [])) fun _=>?_
   rcases h6:again b k [] (Am []) with _ | l'<;>simp only[go_sem,C_]
  ·have hll:l.length≤1048576:=by have:=(Je hb hdd).1; omega
   refine CallK.mk _ hr fun _=>?_
   simp only[go_sem,aS]
   refine CallK.mk _ (CB l hll) fun _=>?_
   rcases h5:typeOf l != ty with _ | _
   rotate_left
   ·rw[aV (by simpa using h5)]
    simp only[go_sem,h5,C_]
   rw[aX (by simpa using h5)]
   simp only[go_sem,h5]
   refine CallK.mk _ (EC l hll) fun _=>?_
   simp only[go_sem]
   refine CallK.mk _ (Bg b k l (Am l)) fun _=>?_
   rcases h6:again b k l (Am l) with _ | l'<;>simp only[go_sem,C_]
 rcases hk2:b[0]==2 with _ | _
 rotate_left
 ·rw[aV (by simpa using hk0),aV (by simpa using hk1),aX (by simpa using hk2)] at hdd
  simp only[go_sem,q1,a2,Be,aK,← df,← bZ,htk,hw1,hk0,hk1,hk2]
  have hr:=dC (b.drop 1) ty k hbd hdl
  rcases hd:Em (b.drop 1) ty k with _ | l<;>rw[hd] at hr hdd<;>simp only[C_] at hr<;>rw[hdd]
  ·refine CallK.mk _ hr fun _=>?_
   simp only[go_sem,rV]
   refine CallK.mk _ (CB [] (by simp)) fun _=>?_
   rcases h5:typeOf [] != ty with _ | _
   rotate_left
   ·rw[aV (by simpa using h5)]
    simp only[go_sem,h5,C_]
   rw[aX (by simpa using h5)]
   simp only[go_sem,h5]
   refine CallK.mk _ (EC [] (by simp)) fun _=>?_
   simp only[go_sem]
   refine CallK.mk _ (Bg b k [] (Am [])) fun _=>?_
   rcases h6:again b k [] (Am []) with _ | l'<;>simp only[go_sem,C_]
  ·have hll:l.length≤1048576:=by have:=(Je hb hdd).1; omega
   refine CallK.mk _ hr fun _=>?_
   simp only[go_sem,aS]
   refine CallK.mk _ (CB l hll) fun _=>?_
   rcases h5:typeOf l != ty with _ | _
   rotate_left
   ·rw[aV (by simpa using h5)]
    simp only[go_sem,h5,C_]
   rw[aX (by simpa using h5)]
   simp only[go_sem,h5]
   refine CallK.mk _ (EC l hll) fun _=>?_
   simp only[go_sem]
   refine CallK.mk _ (Bg b k l (Am l)) fun _=>?_
   rcases h6:again b k l (Am l) with _ | l'<;>simp only[go_sem,C_]
 rcases hk3:b[0]==3 with _ | _
 rotate_left
 ·rw[aV (by simpa using hk0),aV (by simpa using hk1),aV (by simpa using hk2),aX (by simpa using hk3)] at hdd
  simp only[go_sem,q1,a2,Be,aK,← df,← bZ,htk,hw1,hk0,hk1,hk2,hk3]
  have hr:=Yz (b.drop 1) k hbd hdl
  rcases hd:D5 (b.drop 1) k with _ | l<;>rw[hd] at hr hdd<;>simp only[C_] at hr<;>rw[hdd]
  ·refine CallK.mk _ hr fun _=>?_
   simp only[go_sem,rV]
   refine CallK.mk _ (CB [] (by simp)) fun _=>?_
   rcases h5:typeOf [] != ty with _ | _
   rotate_left
   ·rw[aV (by simpa using h5)]
    simp only[go_sem,h5,C_]
   rw[aX (by simpa using h5)]
   simp only[go_sem,h5]
   refine CallK.mk _ (EC [] (by simp)) fun _=>?_
   simp only[go_sem]
   refine CallK.mk _ (Bg b k [] (Am [])) fun _=>?_
   rcases h6:again b k [] (Am []) with _ | l'<;>simp only[go_sem,C_]
  ·have hll:l.length≤1048576:=by have:=(Je hb hdd).1; omega
   refine CallK.mk _ hr fun _=>?_
   simp only[go_sem,aS]
   refine CallK.mk _ (CB l hll) fun _=>?_
   rcases h5:typeOf l != ty with _ | _
   rotate_left
   ·rw[aV (by simpa using h5)]
    simp only[go_sem,h5,C_]
   rw[aX (by simpa using h5)]
   simp only[go_sem,h5]
   refine CallK.mk _ (EC l hll) fun _=>?_
   simp only[go_sem]
   refine CallK.mk _ (Bg b k l (Am l)) fun _=>?_
   rcases h6:again b k l (Am l) with _ | l'<;>simp only[go_sem,C_]
 rw[aV (by simpa using hk0),aV (by simpa using hk1),aV (by simpa using hk2),aV (by simpa using hk3)] at hdd
 rw[hdd]
 simp only[go_sem,hw1,hk0,hk1,hk2,hk3,rV]
 refine CallK.mk _ (CB [] (by simp)) fun _=>?_
 rcases h5:typeOf [] != ty with _ | _
 rotate_left
 ·rw[aV (by simpa using h5)]
  simp only[go_sem,h5,C_]
 rw[aX (by simpa using h5)]
 simp only[go_sem,h5]
 refine CallK.mk _ (EC [] (by simp)) fun _=>?_
 simp only[go_sem]
 refine CallK.mk _ (Bg b k [] (Am [])) fun _=>?_
 rcases h6:again b k [] (Am []) with _ | l'<;>simp only[go_sem,C_]
theorem kW (b:List Int) (ty k:Int) (hb:AQ b) (hl:b.length≤1048576):Ctr prog 231 [.c (.sl (b.map byteC)),.c (.v (.int .i64 (ty))),.c (.v (.int .i64 (k)))] (C_ (IA b ty k)):=by
 refine CM call231 func231 ntmps231 results231 fun hw=>?_
 rcases h0:((b.length:Int)==0) with _ | _
 rotate_left
 ·have e:b = []:=by simpa using h0
  have e2:IA b ty k=none:=by rw[e,IA]; split<;>rfl
  rw[e2]
  simp only[go_sem,h0,C_]
 have h0':0<b.length:=by
  rcases abo b.length with h | h
  ·rw[h] at h0; exact absurd h0 (by decide)
  ·exact h
 simp only[go_sem,h0]
 refine CallK.mk _ (AL _ _ _) fun _=>?_
 rcases h1:Ac ty 1 2 with _ | _
 ·have e:IA b ty k=none:=aV (by simp[Ac] at h1; omega)
  rw[e]
  simp only[go_sem,C_]
 have hty:1≤ty∧ty≤2:=by simp[Ac] at h1; omega
 have hall:IA b ty k=match VC b ty k with
  | none=>none
  | some l=>if typeOf l=ty∧Am l=b then some l else none:=aX hty
 rw[hall]
 simp only[go_sem,AA _ h0']
 have hc:isByte b[0]:=hb _ (aj h0')
 have hc2:=hc.1
 have hc3:=hc.2
 have hw1:IntKind.i64.wrap b[0]=b[0]:=wrap_i64 (by omega) (by omega)
 have hdd:=fH h0' ty k
 have a2:1≤b.length:=h0'
 have q1:=G8 (k:=.i64) (n:=(1:Int)) (m:=1) (by omega)
 have htk:(b.drop 1).take (b.length-1)=b.drop 1:=aaE (by simp)
 have hbd:AQ (b.drop 1):=fun c hc=>hb c (aaH hc)
 have hdl:(b.drop 1).length≤1048576:=by simp; omega
 rcases hk0:b[0]==0 with _ | _
 rotate_left
 ·rw[aX (by simpa using hk0)] at hdd
  simp only[go_sem,q1,a2,Be,aK,← df,← bZ,htk,hw1,hk0]
  have hr:=Yp (b.drop 1) ty k hbd hdl
  rcases hd:FD (b.drop 1) ty k with _ | l<;>rw[hd] at hr hdd<;>simp only[C_] at hr<;>rw[hdd]
  ·refine CallK.mk _ hr fun _=>?_
   simp only[go_sem,C_]
  ·have hll:l.length≤1048576:=by have:=(Je hb hdd).1; omega
   refine CallK.mk _ hr fun _=>?_
   simp only[go_sem]
   refine CallK.mk _ (D_ l hll) fun _=>?_
   rcases h5:typeOf l != ty with _ | _
   rotate_left
   ·have h5':¬ (typeOf l=ty∧Am l=b):=fun q=>by simp at h5; exact h5 q.1
    simp only[go_sem,h5,aV h5',C_]
   have h5':typeOf l=ty:=by simpa using h5
   simp only[go_sem,h5]
   refine CallK.mk _ (KW l hll) fun _=>?_
   simp only[go_sem]
   refine CallK.mk _ (Hr (Am l) b) fun _=>?_
   rcases h6:decide (Am l=b) with _ | _
   ·have h7:¬ (typeOf l=ty∧Am l=b):=fun q=>by simp at h6; exact h6 q.2
    simp only[go_sem,aV h7,C_]
   ·have h7:typeOf l=ty∧Am l=b:=⟨h5',by simpa using h6⟩
    simp only[go_sem,aX h7,C_]
 rcases hk1:b[0]==1 with _ | _
 rotate_left
 ·rw[aV (by simpa using hk0),aX (by simpa using hk1)] at hdd
  simp only[go_sem,q1,a2,Be,aK,← df,← bZ,htk,hw1,hk0,hk1]
  have hr:=b_ (b.drop 1) ty k hbd hdl
  rcases hd:Dt (b.drop 1) ty k with _ | l<;>rw[hd] at hr hdd<;>simp only[C_] at hr<;>rw[hdd]
  ·refine CallK.mk _ hr fun _=>?_
   simp only[go_sem,C_]
  ·have hll:l.length≤1048576:=by have:=(Je hb hdd).1; omega
   refine CallK.mk _ hr fun _=>?_
   simp only[go_sem]
   refine CallK.mk _ (D_ l hll) fun _=>?_
   rcases h5:typeOf l != ty with _ | _
   rotate_left
   ·have h5':¬ (typeOf l=ty∧Am l=b):=fun q=>by simp at h5; exact h5 q.1
    simp only[go_sem,h5,aV h5',C_]
   have h5':typeOf l=ty:=by simpa using h5
   simp only[go_sem,h5]
   refine CallK.mk _ (KW l hll) fun _=>?_
   simp only[go_sem]
   refine CallK.mk _ (Hr (Am l) b) fun _=>?_
   rcases h6:decide (Am l=b) with _ | _
   ·have h7:¬ (typeOf l=ty∧Am l=b):=fun q=>by simp at h6; exact h6 q.2
    simp only[go_sem,aV h7,C_]
   ·have h7:typeOf l=ty∧Am l=b:=⟨h5',by simpa using h6⟩
    simp only[go_sem,aX h7,C_]
 rcases hk2:b[0]==2 with _ | _
 rotate_left
 ·rw[aV (by simpa using hk0),aV (by simpa using hk1),aX (by simpa using hk2)] at hdd
  simp only[go_sem,q1,a2,Be,aK,← df,← bZ,htk,hw1,hk0,hk1,hk2]
  have hr:=dD (b.drop 1) ty k hbd hdl
  rcases hd:Em (b.drop 1) ty k with _ | l<;>rw[hd] at hr hdd<;>simp only[C_] at hr<;>rw[hdd]
  ·refine CallK.mk _ hr fun _=>?_
   simp only[go_sem,C_]
  ·have hll:l.length≤1048576:=by have:=(Je hb hdd).1; omega
   refine CallK.mk _ hr fun _=>?_
   simp only[go_sem]
   refine CallK.mk _ (D_ l hll) fun _=>?_
   rcases h5:typeOf l != ty with _ | _
   rotate_left
   ·have h5':¬ (typeOf l=ty∧Am l=b):=fun q=>by simp at h5; exact h5 q.1
    simp only[go_sem,h5,aV h5',C_]
   have h5':typeOf l=ty:=by simpa using h5
   simp only[go_sem,h5]
   refine CallK.mk _ (KW l hll) fun _=>?_
   simp only[go_sem]
   refine CallK.mk _ (Hr (Am l) b) fun _=>?_
   rcases h6:decide (Am l=b) with _ | _
   ·have h7:¬ (typeOf l=ty∧Am l=b):=fun q=>by simp at h6; exact h6 q.2
    simp only[go_sem,aV h7,C_]
   ·have h7:typeOf l=ty∧Am l=b:=⟨h5',by simpa using h6⟩
    simp only[go_sem,aX h7,C_]
 rcases hk3:b[0]==3 with _ | _
 rotate_left
 ·rw[aV (by simpa using hk0),aV (by simpa using hk1),aV (by simpa using hk2),aX (by simpa using hk3)] at hdd
  simp only[go_sem,q1,a2,Be,aK,← df,← bZ,htk,hw1,hk0,hk1,hk2,hk3]
  have hr:=Y0 (b.drop 1) k hbd hdl
  rcases hd:D5 (b.drop 1) k with _ | l<;>rw[hd] at hr hdd<;>simp only[C_] at hr<;>rw[hdd]
  ·refine CallK.mk _ hr fun _=>?_
   simp only[go_sem,C_]
  ·have hll:l.length≤1048576:=by have:=(Je hb hdd).1; omega
   refine CallK.mk _ hr fun _=>?_
   simp only[go_sem]
   refine CallK.mk _ (D_ l hll) fun _=>?_
   rcases h5:typeOf l != ty with _ | _
   rotate_left
   ·have h5':¬ (typeOf l=ty∧Am l=b):=fun q=>by simp at h5; exact h5 q.1
    simp only[go_sem,h5,aV h5',C_]
   have h5':typeOf l=ty:=by simpa using h5
   simp only[go_sem,h5]
   refine CallK.mk _ (KW l hll) fun _=>?_
   simp only[go_sem]
   refine CallK.mk _ (Hr (Am l) b) fun _=>?_
   rcases h6:decide (Am l=b) with _ | _
   ·have h7:¬ (typeOf l=ty∧Am l=b):=fun q=>by simp at h6; exact h6 q.2
    simp only[go_sem,aV h7,C_]
   ·have h7:typeOf l=ty∧Am l=b:=⟨h5',by simpa using h6⟩
    simp only[go_sem,aX h7,C_]
 rw[aV (by simpa using hk0),aV (by simpa using hk1),aV (by simpa using hk2),aV (by simpa using hk3)] at hdd
 rw[hdd]
 simp only[go_sem,hw1,hk0,hk1,hk2,hk3,C_]
def MC (cs:List Int) (l:List DRow) (i:Nat):Prop:=∀ h:i<l.length,(rowOk cs l[i]=true∧(0<i→l[i-1].id<l[i].id))∧l[i].id≤1000000000
theorem NL {cs:List Int} {l:List DRow} {i:Nat} (h:¬ MC cs l i):C9 cs l=false:=by
 rw[Bool.eq_false_iff]
 intro hg
 simp only[C9,ax,aY] at hg
 refine h fun hi=>⟨?_,hg.2.2 _ (aj hi)⟩
 by_cases hr:rowAt cs l i
 ·exact hr hi
 ·rw[zl hr] at hg
  cases hg.2.1
theorem fJ {cs:List Int} {l:List DRow} (h:∀ i,i<l.length→MC cs l i):C9 cs l=(EX cs&&decide (l.length≤12)):=by
 have h1:Rn cs l=true:=ui fun i hi _=>(h i hi hi).1
 have h2:decide (∀ r∈l,r.id≤1000000000)=true:=decide_eq_true fun r hr=>by
  obtain⟨i,hi,rfl⟩:=aaG hr
  exact(h i hi hi).2
 simp only[C9,h1,h2,aU]
theorem OQ (cs:List Int) (l:List DRow) (hl:l.length≤1048576):Ctr prog 241 [.c (.sl (cs.map intC)),.c (.sl (l.map DRow.c))] [.val (.c (.v (.bool (C9 cs l))))]:=by
 refine CM call241 func241 ntmps241 results241 fun hw=>?_
 simp only[go_sem]
 refine CallK.mk _ (OD _) fun _=>?_
 rcases hc:EX cs with _ | _
 ·have e:C9 cs l=false:=by simp only[C9,hc,ag]
  simp only[go_sem,e]
 rcases h12:decide ((l.length:Int)>12) with _ | _
 rotate_left
 ·have e:C9 cs l=false:=by
   have:decide (l.length≤12)=false:=by simp at h12 ⊢; omega
   simp only[C9,this,aJ,ag]
  simp only[go_sem,h12,e]
 have h12':decide (l.length≤12)=true:=by simp at h12 ⊢; omega
 simp only[go_sem,h12]
 refine LoopU.mk 0 (A:=Nat) (fun x=>[(17,.c (.v (.int .i64 (x))))]) (fun _=>[]) (fun k=>k≤l.length∧∀ i,i<k→MC cs l i) (fun k=>l.length-k) 0 ⟨⟨rfl,rfl⟩,rfl,ak _,fun i h=>by omega⟩ ?_
 rintro k ⟨hk,hf⟩
 simp only[go_sem]
 refine cndC.mk (fun h=>?_) (fun h=>?_)
 ·have hk':k<l.length:=by simpa using h
  have hnext:MC cs l k→∀ i,i<k+1→MC cs l i:=by
   intro hg i hi
   by_cases e:i=k
   ·subst e; exact hg
   ·exact hf i (by omega)
  simp only[go_sem,AA _ hk']
  refine DrawK.mk ?_
  simp only[go_sem]
  refine CY (pV cs l[k]) ?_
  rcases hv:rowOk cs l[k] with _ | _
  ·have hno:¬ MC cs l k:=by intro hg; have:=(hg hk').1.1; rw[hv] at this; cases this
   simp only[go_sem,NL hno]
  rcases hid:decide (l[k].id>1000000000) with _ | _
  rotate_left
  ·have hno:¬ MC cs l k:=by intro hg; have:=(hg hk').2; simp at hid; omega
   simp only[go_sem,hid,NL hno]
  have hid':l[k].id≤1000000000:=by simp at hid; omega
  rcases abo k with hz | hz
  ·have hp:decide ((k:Int)>0)=false:=by simp; omega
   simp only[go_sem,hid,hp,wrap_i64 (n:=(k:Int)+1) (by omega) (by omega)]
   exact⟨k+1,⟨rfl,rfl⟩,rfl,⟨by omega,hnext fun _=>⟨⟨hv,fun h0=>by omega⟩,hid'⟩⟩,by omega⟩
  ·have hp:decide ((k:Int)>0)=true:=by simp; omega
   have hk1:k-1<l.length:=by omega
   have hw1:IntKind.i64.wrap ((k:Int)-1)=((k-1:Nat):Int):=by rw[wrap_i64 (by omega) (by omega)]; omega
   rcases hq:decide (l[k-1].id≥l[k].id) with _ | _
   ·simp only[go_sem,hid,hp,hw1,AA _ hk1,hq,wrap_i64 (n:=(k:Int)+1) (by omega) (by omega)]
    exact⟨k+1,⟨rfl,rfl⟩,rfl,⟨by omega,hnext fun _=>⟨⟨hv,fun _=>by simp at hq; omega⟩,hid'⟩⟩,by omega⟩
   ·have hno:¬ MC cs l k:=by intro hg; have:=(hg hk').1.2 hz; simp at hq; omega
    simp only[go_sem,hid,hp,hw1,AA _ hk1,hq,NL hno]
 ·have hk':k=l.length:=by simp at h; omega
  subst hk'
  simp only[go_sem,fJ hf,hc,h12',aU]
theorem UU (cs:List Int) (l:List DRow) (hl:l.length≤1048576):Ctr prog 232 [.c (.sl (cs.map intC)),.c (.sl (l.map DRow.c))] [.val (.c (.v (.bool (C9 cs l))))]:=by
 refine CM call232 func232 ntmps232 results232 fun hw=>?_
 simp only[go_sem]
 refine LoopU.mk 0 (A:=Nat) (fun x=>[(5,.c (.v (.int .i64 (x))))]) (fun _=>[]) (fun k=>k≤l.length∧∀ i,i<k→MC cs l i) (fun k=>l.length-k) 0 ⟨⟨rfl,rfl⟩,rfl,ak _,fun i h=>by omega⟩ ?_
 rintro k ⟨hk,hf⟩
 simp only[go_sem]
 refine cndC.mk (fun h=>?_) (fun h=>?_)
 ·have hk':k<l.length:=by simpa using h
  have hnext:MC cs l k→∀ i,i<k+1→MC cs l i:=by
   intro hg i hi
   by_cases e:i=k
   ·subst e; exact hg
   ·exact hf i (by omega)
  simp only[go_sem]
  refine DrawK.mk ?_
  simp only[go_sem,AA _ hk']
  refine CY (pU cs l[k]) ?_
  rcases hv:rowOk cs l[k] with _ | _
  ·have hno:¬ MC cs l k:=by intro hg; have:=(hg hk').1.1; rw[hv] at this; cases this
   simp only[go_sem,NL hno]
  rcases hid:decide (l[k].id>1000000000) with _ | _
  rotate_left
  ·have hno:¬ MC cs l k:=by intro hg; have:=(hg hk').2; simp at hid; omega
   simp only[go_sem,hid,AA _ hk',NL hno]
  have hid':l[k].id≤1000000000:=by simp at hid; omega
  rcases abo k with hz | hz
  ·have hp:decide ((k:Int)>0)=false:=by simp; omega
   simp only[go_sem,hid,hp,AA _ hk',wrap_i64 (n:=(k:Int)+1) (by omega) (by omega)]
   exact⟨k+1,⟨rfl,rfl⟩,rfl,⟨by omega,hnext fun _=>⟨⟨hv,fun h0=>by omega⟩,hid'⟩⟩,by omega⟩
  ·have hp:decide ((k:Int)>0)=true:=by simp; omega
   have hk1:k-1<l.length:=by omega
   have hw1:IntKind.i64.wrap ((k:Int)-1)=((k-1:Nat):Int):=by rw[wrap_i64 (by omega) (by omega)]; omega
   rcases hq:decide (l[k-1].id≥l[k].id) with _ | _
   ·simp only[go_sem,hid,hp,hw1,AA _ hk',AA _ hk1,hq,wrap_i64 (n:=(k:Int)+1) (by omega) (by omega)]
    exact⟨k+1,⟨rfl,rfl⟩,rfl,⟨by omega,hnext fun _=>⟨⟨hv,fun _=>by simp at hq; omega⟩,hid'⟩⟩,by omega⟩
   ·have hno:¬ MC cs l k:=by intro hg; have:=(hg hk').1.2 hz; simp at hq; omega
    simp only[go_sem,hid,hp,hw1,AA _ hk',AA _ hk1,hq,NL hno]
 ·have hk':k=l.length:=by simp at h; omega
  subst hk'
  simp only[go_sem]
  refine CallK.mk _ (OC _) fun _=>?_
  have h12:decide ((l.length:Int)≤12)=decide (l.length≤12):=by rw[decide_eq_decide]; omega
  rcases hc:EX cs with _ | _<;>simp only[go_sem,fJ hf,hc,h12,ag,ai]
theorem VL {cs:List Int} {l:List DRow} (h:C9 cs l=true):(cs.length≤3∧1≤cs.length)∧l.length≤12∧∀ r∈l,0≤r.id∧r.id≤1000000000∧fits cs r.l=true:=by
 simp only[C9,ax,aY] at h
 obtain⟨⟨h1,h2⟩,h3,h4⟩:=h
 simp only[EX,ax] at h1
 refine⟨by have:=h1.2; simp[Ac] at this; omega,h2,fun r hr=>?_⟩
 obtain⟨i,hi,rfl⟩:=aaG hr
 simp only[Rn,aY] at h3
 have:=(h3 i hi).1
 simp only[rowOk,ax,aY] at this
 exact⟨this.1,h4 _ hr,this.2⟩
theorem AB4 (l:List DVal):(Zz l).length≤1006:=by
 have h1:=DZ ((Am l).length:Int)
 have h2:=Y3 l
 simp only[Zz,aT]; omega
theorem qX {cs:List Int} {l:List DRow} (h:C9 cs l=true):Ce cs l=Oh (l.map DRow.id)++(if l = [] then [] else((List.range cs.length).map fun(k:Nat)=>Zz (J7 l (k:Int))).flatten):=aX h
noncomputable def NM (l:List DRow) (k:Nat):List Int:=if l = [] then [] else((List.range k).map fun(k:Nat)=>Zz (J7 l (k:Int))).flatten
theorem vN (l:List DRow):NM l 0 = []:=by unfold NM; split<;>rfl
theorem Pj (cs:List Int) (l:List DRow) (hl:fitS G_ l):Ctr prog 243 [.c (.sl (cs.map intC)),.c (.sl (l.map DRow.c))] [.own 5 1 ((Ce cs l).map byteC) true]:=by
 refine CM call243 func243 ntmps243 results243 fun hw=>?_
 simp only[go_sem]
 refine CallK.mk _ (OQ cs l hl.1) fun _=>?_
 rcases h1:C9 cs l with _ | _
 ·have e:Ce cs l = []:=aV (by rw[h1]; simp)
  rw[e]
  simp only[go_sem]
  try simp[BX,AY,FT]
 obtain⟨f1,f2,f3⟩:=VL h1
 rw[qX h1]
 simp only[go_sem]
 refine LoopH.mk [15] (A:=Nat) (fun x=>[(18,.c (.v (.int .i64 (x)))),(5,.c (.ref 0))]) (fun x=>[⟨3,1,((l.take x).map DRow.id).map intC,true,true⟩]) (fun x=>x≤l.length) (fun x=>l.length-x) 0 (Head.sel [(0,false)] ⟨rfl,rfl,rfl,trivial⟩ rfl) (ak _) ?_
 rintro i hi
 simp only[go_sem]
 refine cndC.mk (fun h=>?_) (fun h=>?_)
 ·have hi':i<l.length:=by simp at h; omega
  have hl2:i+1≤2147483648:=by omega
  simp only[go_sem,AA _ hi',hl2,bn,Zt hi,wrap_i64 (n:=(i:Int)+1) (by omega) (by omega)]
  exact⟨i+1,Head.sel [(3,false)] ⟨rfl,rfl,by rw[← FM]; exact Bf _,trivial⟩ (by rw[JX _ hi',FM]; rfl),hi',by omega⟩
 ·have hi':i=l.length:=by simp at h; omega
  subst hi'
  simp only[go_sem,bP]
  refine CallK.mk _ (Z8 [] (l.map DRow.id) (by simp; omega) (by simp) fun n hn=>by
   obtain⟨r,hr,rfl⟩:=RX.1 hn
   exact(DW _).2 ⟨by have:=(f3 r hr).1; omega,(f3 r hr).2.1⟩) fun _=>?_
  rw[bi]
  simp only[go_sem]
  have hnl:=VG (l.map DRow.id)
  have hnb:=DZ ((l.map DRow.id).length:Int)
  have hnl2:(Oh (l.map DRow.id)).length≤65:=by
   simp only[Oh,aT]
   rw[ae] at hnl
   omega
  have hG:∀ k,(NM l k).length≤1006*k:=fun k=>by
   unfold NM
   split
   ·simp
   ·have:=Pg (fun(k:Nat)=>Zz (J7 l (k:Int))) 1006 (List.range k) fun x _=>AB4 _
    rw[List.length_range] at this
    exact this
  have hfin:Oh (l.map DRow.id)++(if l = [] then [] else((List.range cs.length).map fun(k:Nat)=>Zz (J7 l (k:Int))).flatten)=Oh (l.map DRow.id)++NM l cs.length:=rfl
  rw[hfin]
  refine LoopH.mk [29,28,5] (A:=Nat) (fun x=>[(32,.c (.v (.int .i64 (x)))),(8,.c (.ref 0))]) (fun x=>[⟨5,1,(Oh (l.map DRow.id)++NM l x).map byteC,true,true⟩]) (fun x=>x≤cs.length) (fun x=>cs.length-x) 0 (Head.sel [(1,false)] ⟨rfl,rfl,EJ _,trivial⟩ (by rw[vN,bz]; rfl)) (ak _) ?_
  rintro k hk
  simp only[go_sem]
  refine cndC.mk (fun h=>?_) (fun h=>?_)
  ·have hk':k<cs.length:=by simp at h; omega
   have hGk:=hG k
   rcases h2:decide ((l.length:Int)>0) with _ | _
   ·have h2':l = []:=by
     apply dh
     simp at h2; simp[h2]
    have hs:NM l (k+1)=NM l k:=by unfold NM; rw[aX h2',aX h2']
    simp only[go_sem,h2,wrap_i64 (n:=(k:Int)+1) (by omega) (by omega)]
    exact⟨k+1,Head.sel [(0,false)] ⟨rfl,rfl,EJ _,trivial⟩ (by rw[hs]; rfl),hk',by omega⟩
   ·have h2':l≠ []:=by rintro rfl; simp at h2
    have hcl:(J7 l (k:Int)).length≤l.length:=List.length_filterMap_le _ _
    have hel:=Y3 (J7 l (k:Int))
    have hs:NM l (k+1)=NM l k++(EO (Am (J7 l (k:Int))).length++Am (J7 l (k:Int))):=by
     unfold NM
     rw[aV h2',aV h2',List.range_succ]
     simp only[Uz,zF,V3,cZ,bM,lT,bz,Zz]
    simp only[go_sem,h2]
    refine CallK.mk _ (jl l (k:Int) hl.big) fun _=>?_
    simp only[go_sem]
    refine CallK.mk _ (EC (J7 l (k:Int)) (by omega)) fun _=>?_
    simp only[go_sem]
    refine CallK.mk _ (FK _ _ (by simp only[aT]; omega)) fun _=>?_
    rw[I8 ((DW _).2 ⟨by omega,by omega⟩)]
    have hnb2:=DZ ((Am (J7 l (k:Int))).length:Int)
    have hl3:(Oh (l.map DRow.id)).length+(NM l k).length+(EO (Am (J7 l (k:Int))).length).length+(Am (J7 l (k:Int))).length≤2147483648:=by omega
    simp only[go_sem,hl3,Fg,PZ,wrap_i64 (n:=(k:Int)+1) (by omega) (by omega)]
    exact⟨k+1,Head.sel [(4,false)] ⟨rfl,rfl,EJ _,trivial⟩ (by rw[hs]; simp only[bJ]; rfl),hk',by omega⟩
  ·have hk':k=cs.length:=by simp at h; omega
   subst hk'
   simp only[go_sem]
   try simp
end Go.Proofs.YtnchiiikacemmaaGreat
