/- A part. -/
import Derived.Test.YtnfbaclikokapaaGreatYr
import Derived.Test.YtnfbaclikokapaaGreatDk
set_option linter.unusedSimpArgs false
set_option linter.unusedVariables false
set_option maxHeartbeats 2000000
set_option maxRecDepth 10000
open Go.Proofs.Tryz
namespace Go.Proofs.YtnfbaclikokapaaGreat
open Go.Vm
noncomputable def AB9 (cs b ids:List Int) (x:Option (List (List DVal)×Nat)):Option (List DRow):=match x with
 | none=>none
 | some (c,q)=>if q=b.length∧Ci cs (rowsOf ids c)=true then some (rowsOf ids c) else none
theorem Ul (cs b ids:List Int):AB9 cs b ids none=none:=rfl
theorem Wq {cs b ids:List Int} {c:List (List DVal)} {p:Nat} (h:¬ (p=b.length∧Ci cs (rowsOf ids c)=true)):AB9 cs b ids (some (c,p))=none:=aV h
theorem lG {cs b ids:List Int} {c:List (List DVal)} {p:Nat} (h:p=b.length∧Ci cs (rowsOf ids c)=true):AB9 cs b ids (some (c,p))=some (rowsOf ids c):=bz h
def AB_ (ids:List Int) (c:List (List DVal)) (l:List DVal) (x:Nat):List Ob:=if x<ids.length then
  [⟨204,2,[],true,true⟩,⟨3,1,ids.map intC,true,true⟩,⟨204,2,((FV ids c l x).map DRow.o).set x [.v (.int .i64 (Jd ids c x).id),.ref 3],true,true⟩,⟨68,3,(Jd ids c x).l.map DVal.c,true,true⟩]
 else [⟨204,2,[],true,true⟩,⟨3,1,ids.map intC,true,true⟩,⟨204,2,(FV ids c l x).map DRow.o,true,true⟩]
theorem vG {ids:List Int} {c:List (List DVal)} {l:List DVal} {x:Nat} (h:x<ids.length):AB_ ids c l x = [⟨204,2,[],true,true⟩,⟨3,1,ids.map intC,true,true⟩,⟨204,2,((FV ids c l x).map DRow.o).set x [.v (.int .i64 (Jd ids c x).id),.ref 3],true,true⟩,⟨68,3,(Jd ids c x).l.map DVal.c,true,true⟩]:=bz h
theorem vH {ids:List Int} {c:List (List DVal)} {l:List DVal} {x:Nat} (h:¬ x<ids.length):AB_ ids c l x = [⟨204,2,[],true,true⟩,⟨3,1,ids.map intC,true,true⟩,⟨204,2,(FV ids c l x).map DRow.o,true,true⟩]:=aV h
theorem b_ {n:Nat} {env:List (Nat×AV)} (ids:List Int) (c:List (List DVal)) (l:List DVal) (x:Nat) :
  Head ⟨n,env,[⟨204,2,[],true,true⟩,⟨3,1,ids.map intC,true,true⟩,⟨204,2,(FV ids c l x).map DRow.o,true,true⟩]⟩ ⟨n,env,AB_ ids c l x⟩:=by
 by_cases h:x<ids.length
 ·rw[vG h]
  exact Head.open' (s:=⟨n,env,[⟨204,2,[],true,true⟩,⟨3,1,ids.map intC,true,true⟩,⟨204,2,(FV ids c l x).map DRow.o,true,true⟩]⟩) 2 x 1 (ob:=⟨204,2,(FV ids c l x).map DRow.o,true,true⟩) (row:=DRow.o (Jd ids c x)) rfl rfl
   (by simp only[lD,qI h,bP]) rfl rfl
 ·rw[vH h]
  exact⟨rfl,fun _ _ St β _ _ h=>⟨St,β,h⟩⟩
theorem AFv {N:Nat} {a b c:Ob} (ha:Az N a=true) (hb:Az N b=true) (hc:Az N c=true) : [a,b,c].all (Az N)=true:=by simp[ha,hb,hc]
theorem XU (cs:List Int) (b:List Int) (hb:AY b) (hl:b.length≤1048576):Ctr prog 216 [.c (.sl (cs.map intC)),.c (.sl (b.map byteC))] (VN (CS cs b)):=by
 refine CM call216 func216 ntmps216 results216 fun hw=>?_
 simp only[go_sem]
 have hg:=Zq b 0 hb hl
 rcases h1:ES b 0 with _ | ⟨ids,q⟩<;>rw[h1] at hg<;>simp only[Wl] at hg
 ·have e:CS cs b=none:=by simp only[CS,h1]
  rw[e]
  refine CallK.mk _ hg fun _=>?_
  simp only[go_sem,VN]
  try simp[AU,AO,Df]
 refine CallK.mk _ hg fun _=>?_
 obtain⟨n1,n2,n3⟩:=R_ hb h1
 simp only[go_sem]
 refine CallK.mk _ (OL _) fun _=>?_
 rcases hc:EQ cs with _ | _
 ·have e:CS cs b=none:=by simp only[CS,h1,hc]; rfl
  rw[e]
  simp only[go_sem,hc,VN]
  try simp[AU,AO,Df]
 rcases h12:decide ((ids.length:Int)>12) with _ | _
 rotate_left
 ·have e:CS cs b=none:=by simp only[CS,h1]; exact aV fun q=>by simp at h12; omega
  rw[e]
  simp only[go_sem,hc,h12,VN]
  try simp[AU,AO,Df]
 have h12':ids.length≤12:=by simp at h12; omega
 have hcs3:cs.length≤3:=by
  simp only[EQ,ak] at hc
  have:=hc.2
  simp[Ac] at this; omega
 have hall:CS cs b=AB9 cs b ids (Ep b cs ids q):=by
  simp only[CS,h1]; exact bz ⟨hc,h12'⟩
 rw[hall]
 simp only[go_sem,hc,h12]
 refine LoopH.mk [39] (A:=Nat) (fun x=>[(11,.c (.v (.int .i64 (x)))),(10,.c (.ref 2))]) (fun x=>[⟨204,2,[],true,true⟩,⟨3,1,ids.map intC,true,true⟩,⟨204,2,((ids.take x).map fun n=>(⟨n,[]⟩:DRow)).map DRow.o,true,true⟩]) (fun x=>x≤ids.length) (fun x=>ids.length-x) 0 (Head.sel [(0,false),(1,false),(2,false)] ⟨rfl,rfl,rfl,Be _,rfl,trivial⟩ rfl) (ax _) ?_
 rintro i hi
 simp only[go_sem]
 refine cndC.mk (fun h=>?_) (fun h=>?_)
 ·have hi':i<ids.length:=by simp at h; omega
  have hl2:i+1≤2147483648:=by omega
  simp only[go_sem,AA _ hi',hi',hl2,bC,X4 hi,wrap_i64 (n:=(i:Int)+1) (by omega) (by omega)]
  have hnr:Df [[Cl.v (.int .i64 ids[i]),Cl.v (.slice none 0 0)]]=true:=rfl
  simp only[go_sem,hnr,AA _ hi',hi',hl2,bC,X4 hi,wrap_i64 (n:=(i:Int)+1) (by omega) (by omega)]
  have hlen:(((ids.take i).map fun n=>(⟨n,[]⟩:DRow)).map DRow.o).length=i:=by simp; omega
  refine⟨i+1,Head.trans (Head.nilI' 4 i 1 68 3 _ [.v (.int .i64 ids[i]),.v (.slice none 0 0)] (zs:=((ids.take i).map fun n=>(⟨n,[]⟩:DRow)).map DRow.o ++ [[.v (.int .i64 ids[i]),.ref 5]]) rfl ?row rfl ?set) (Head.selAbs [(0,false),(1,false),(4,true),(5,false)] 3 2 ⟨rfl,rfl,rfl,Be _,I7 DRow.o_nr _ _ rfl,rfl,trivial⟩
   ⟨i,((ids.take i).map fun n=>(⟨n,[]⟩:DRow)).map DRow.o ++ [DRow.o ⟨ids[i],[]⟩],[.v (.int .i64 ids[i]),.ref 3],DRow.o ⟨ids[i],[]⟩,_,⟨W_ 2,rfl, ?rn,by simp; omega,rfl⟩,
    ⟨rfl,rfl,rfl,rfl,rfl,rfl,rfl,by simp[D7],fun l hl=>by simp[D7] at hl; omega⟩,⟨rfl, ?tr⟩, ?eq⟩),hi',by omega⟩
  case row=>simp only; rw[aX (by omega),hlen]; simp
  case set=>simp only; rw[aa5 _ _ (by omega),hlen]; simp
  case rn =>
   have:=I5 DRow.o_nr [(0,false),(1,false),(4,true),(5,false)] ((ids.take i).map fun n=>(⟨n,[]⟩:DRow)) [.v (.int .i64 ids[i]),.ref 5] (DRow.o ⟨ids[i],[]⟩)
   rw[show ((ids.take i).map fun n=>(⟨n,[]⟩:DRow)).length=i by simp; omega] at this
   exact this
  case tr =>
   unfold A8
   have:=BJ (f:=DRow.o) ((ids.take i).map fun n=>(⟨n,[]⟩:DRow)) ⟨ids[i],[]⟩
   rw[show ((ids.take i).map fun n=>(⟨n,[]⟩:DRow)).length=i by simp; omega] at this
   rw[this]
   exact AFv rfl (AP (Am _)) (AP (A7 _))
  case eq =>
   unfold A8
   have:=BJ (f:=DRow.o) ((ids.take i).map fun n=>(⟨n,[]⟩:DRow)) ⟨ids[i],[]⟩
   rw[show ((ids.take i).map fun n=>(⟨n,[]⟩:DRow)).length=i by simp; omega] at this
   rw[this,Jc (fun n=>(⟨n,[]⟩:DRow)) hi']
   rfl
 ·have hi':i=ids.length:=by simp at h; omega
  subst hi'
  simp only[go_sem,bG]
  have e0:(ids.map fun n=>(⟨n,[]⟩:DRow))=rowsOf ids []:=(Yv ids).symm
  rw[e0]
  refine LoopH.mk [] (A:=Nat×Nat×List (List DVal)) (fun x=>[(12,.c (.v (.int .i64 (x.1)))),(8,.c (.v (.int .i64 ((x.2.1:Int)))))]) (fun x=>[⟨204,2,[],true,true⟩,⟨3,1,ids.map intC,true,true⟩,⟨204,2,(rowsOf ids x.2.2).map DRow.o,true,true⟩]) (fun x=>x.1≤cs.length∧x.2.2.length=x.1∧((∀ c∈x.2.2,c.length=ids.length)∧(∀ c∈x.2.2,∀ v∈c,v.s.size≤6))∧x.2.1≤b.length∧(ids = []→x=(0,q,[]))∧(ids≠ []→(Fa b ids.length (cs.drop x.1) x.2.1).map (fun y=>(x.2.2++y.1,y.2))=Fa b ids.length cs q)) (fun x=>cs.length-x.1) (0,q,[]) (Head.sel [(0,false),(1,false),(2,true)] ⟨rfl,rfl,rfl,Be _,Dq (A7 _),trivial⟩ ?h0) ⟨ax _,rfl,⟨by simp,by simp⟩,n1,fun _=>rfl,fun _=>by simp⟩ ?_
  case h0 =>
   show (⟨139,_,[_,_,⟨204,2,((rowsOf ids []).map DRow.o).map (fun x=>x.map (Qy [(0,false),(1,false),(2,true)])),true,true⟩]⟩:MS)=_
   rw[DF (A7 _)]; rfl
  rintro⟨k,p,c⟩ ⟨hk,hck,⟨hcl,hsz⟩,hpb,hemp,hne⟩
  dsimp only at hk hck hcl hsz hpb hemp hne
  simp only[go_sem]
  rcases hk1:decide ((k:Int)<(cs.length:Int)) with _ | _
  ·have hk':k=cs.length:=by simp at hk1; omega
   have hgc:Ep b cs ids q=some (c,p):=by
    by_cases hids:ids = []
    ·have hx:=hemp hids
     simp only[bJ] at hx
     obtain⟨_,hp0,hc0⟩:=hx
     rw[hc0,hp0]; exact bz hids
    ·have hne:=hne hids
     rw[hk',aU,Fa] at hne
     simp only[bP,bF] at hne
     rw[hne]; exact aV hids
   rw[hgc]
   rcases hpl:((p:Int) != (b.length:Int)) with _ | _
   rotate_left
   ·have hno:¬ (p=b.length∧Ci cs (rowsOf ids c)=true):=fun q=>by simp at hpl; omega
    rw[Wq hno]
    simp only[go_sem,hk1,hpl,VN]
    try simp[AU,AO,Df]
   simp only[go_sem,hk1,hpl]
   refine BorK.mk (args:=[.c (.sl (cs.map intC)),.c (.sl ((rowsOf ids c).map DRow.c))]) _ (by simp only[KX,HY,go_sem]) rfl (UN cs (rowsOf ids c) (by rw[Cm]; omega)) fun _=>?_
   rcases hok:Ci cs (rowsOf ids c) with _ | _
   ·have hno:¬ (p=b.length∧Ci cs (rowsOf ids c)=true):=fun q=>by rw[hok] at q; cases q.2
    rw[Wq hno]
    simp only[go_sem,hok,VN]
    try simp[AU,AO,Df]
   ·have hyes:p=b.length∧Ci cs (rowsOf ids c)=true:=⟨by simp at hpl; omega,hok⟩
    rw[lG hyes]
    simp only[go_sem,hok,VN,A7]
    try simp[AU,AO]
  have hk':k<cs.length:=by simpa using hk1
  rcases hi0:decide ((ids.length:Int)>0) with _ | _
  ·have hids:ids = []:=by
    apply zu
    simp at hi0; simp[hi0]
   have hx:=hemp hids
   simp only[bJ] at hx
   obtain⟨_,hp0,hc0⟩:=hx
   have hgc:Ep b cs ids q=some (c,p):=by rw[hc0,hp0]; exact bz hids
   rw[hgc]
   rcases hpl:((p:Int) != (b.length:Int)) with _ | _
   rotate_left
   ·have hno:¬ (p=b.length∧Ci cs (rowsOf ids c)=true):=fun q=>by simp at hpl; omega
    rw[Wq hno]
    simp only[go_sem,hk1,hi0,hpl,VN]
    try simp[AU,AO,Df]
   simp only[go_sem,hk1,hi0,hpl]
   refine BorK.mk (args:=[.c (.sl (cs.map intC)),.c (.sl ((rowsOf ids c).map DRow.c))]) _ (by simp only[KX,HY,go_sem]) rfl (UN cs (rowsOf ids c) (by rw[Cm]; omega)) fun _=>?_
   rcases hok:Ci cs (rowsOf ids c) with _ | _
   ·have hno:¬ (p=b.length∧Ci cs (rowsOf ids c)=true):=fun q=>by rw[hok] at q; cases q.2
    rw[Wq hno]
    simp only[go_sem,hok,VN]
    try simp[AU,AO,Df]
   ·have hyes:p=b.length∧Ci cs (rowsOf ids c)=true:=⟨by simp at hpl; omega,hok⟩
    rw[lG hyes]
    simp only[go_sem,hok,VN,A7]
    try simp[AU,AO]
  have hids:ids≠ []:=by rintro rfl; simp at hi0
  have hn0:0<ids.length:=aa0.2 hids
  have hne:=hne hids
  have hgc:Ep b cs ids q=Fa b ids.length cs q:=aV hids
  rw[hgc]
  rw[Oc hk',Fa] at hne
  simp only[go_sem,hk1,hi0]
  have hg2:=FD b p hb hl
  rcases h3:BN b p with _ | ⟨m,p2⟩<;>rw[h3] at hg2 hne<;>simp only[UC] at hg2
  ·refine CallK.mk _ hg2 fun _=>?_
   simp only[di] at hne
   rw[← hne,Ul]
   simp only[go_sem,VN]
   try simp[AU,AO,Df]
  refine CallK.mk _ hg2 fun _=>?_
  dsimp only at hne
  obtain⟨_,z2,z3,z4,z5,_⟩:=Gm hb h3
  have hw1:IntKind.i64.wrap ((b.length:Int)-(p2:Int))=(b.length:Int)-(p2:Int):=wrap_i64 (by omega) (by omega)
  simp only[go_sem,hw1]
  refine CallK.mk _ (AL _ _ _) fun _=>?_
  rcases h4:Ac m 0 ((b.length:Int)-(p2:Int)) with _ | _
  ·rw[aV (by simp[Ac] at h4; omega)] at hne
   simp only[di] at hne
   rw[← hne,Ul]
   simp only[go_sem,h4,VN]
   try simp[AU,AO,Df]
  have h4':0≤m∧m≤(b.length:Int)-(p2:Int):=by simp[Ac] at h4; omega
  rw[bz h4'] at hne
  obtain⟨M,rfl⟩:=aP h4'.1
  rw[bY] at hne
  have q1:=Gy (k:=.i64) (n:=(p2:Int)) (m:=p2) (by omega)
  have q2:=Gy (k:=.i64) (n:=(p2:Int)+(M:Int)) (m:=p2+M) (by omega)
  have q5:p2≤p2+M:=by omega
  have q6:p2+M≤b.length:=by omega
  have q7:p2+M-p2=M:=by omega
  have hbd:AY ((b.drop p2).take M):=Qi hb _ _
  have hdc:=kJ ((b.drop p2).take M) cs[k] (ids.length:Int) hbd (by simp; omega)
  simp only[go_sem,h4]
  refine DrawK.mkE ?_
  simp only[go_sem,AA _ hk',q1,q2,q5,q6,q7,BC,← bW,← bV,wrap_i64 (n:=(p2:Int)+(M:Int)) (by omega) (by omega)]
  rcases h5:H9 ((b.drop p2).take M) cs[k] (ids.length:Int) with _ | l<;>rw[h5] at hdc hne<;>simp only[Cj] at hdc
  ·refine CallE.mk _ hdc ?_
   simp only[go_sem,AA _ hk',q1,q2,q5,q6,q7,BC,← bW,← bV,wrap_i64 (n:=(p2:Int)+(M:Int)) (by omega) (by omega)]
   simp only[di] at hne
   rw[← hne,Ul]
   simp only[go_sem,VN]
   try simp[AU,AO,Df]
  refine CallE.mk _ hdc ?_
  simp only[go_sem,AA _ hk',q1,q2,q5,q6,q7,BC,← bW,← bV,wrap_i64 (n:=(p2:Int)+(M:Int)) (by omega) (by omega)]
  dsimp only at hne
  obtain⟨y1,y2,y3⟩:=VD hbd h5
  have hll:l.length=ids.length:=by omega
  refine LoopH.mk [] (A:=Nat) (fun x=>[(18,.c (.v (.int .i64 (x))))]) (fun x=>AB_ ids c l x) (fun x=>x≤ids.length) (fun x=>ids.length-x) 0 (Head.trans (Head.sel [(0,false),(1,false),(2,true)] ⟨rfl,rfl,rfl,Be _,Dq (A7 _),trivial⟩ (by
   show (⟨139,_,[_,_,⟨204,2,((rowsOf ids c).map DRow.o).map (fun x=>x.map (Qy [(0,false),(1,false),(2,true)])),true,true⟩]⟩:MS)=_
   rw[DF (A7 _),fD]; rfl)) (b_ ids c l 0)) (ax _) ?_
  rintro x hx
  rcases bI x ids.length with hx' | hx'
  ·have hdx:decide ((x:Int)<(ids.length:Int))=true:=by simpa using hx'
   have hxl:x<l.length:=by omega
   have hgl:(FV ids c l x).length=ids.length:=UO hx
   have hrow:(((FV ids c l x).map DRow.o).set x [.v (.int .i64 (Jd ids c x).id),.ref 3])[x]?=some [.v (.int .i64 (Jd ids c x).id),.ref 3]:=by
    rw[bZ]; simp[hgl,hx']
   rw[vG hx']
   simp only[go_sem,hdx,AA _ hxl,hgl,hx',hrow,bu]
   have hal:(Jd ids c x).l.length+1≤2147483648:=by simp only[Jd,ae]; omega
   refine DrawK.mkE ?_
   simp only[go_sem,AA _ hxl,hgl,hx',hrow,bu,hal,wrap_i64 (n:=(x:Int)+1) (by omega) (by omega)]
   have hnx:(FV ids c l (x+1)).map DRow.o=((FV ids c l x).map DRow.o).set x (DRow.o (Jd ids (c ++ [l]) x)):=by rw[← qJ hx',aa6]
   have hrs:DRow.o (Jd ids (c ++ [l]) x) = [.v (.int .i64 (Jd ids c x).id),.ow 68 3 ((Jd ids c x).l.map DVal.c ++ [l[x].c])]:=by rw[qG hxl,← FM]; rfl
   have hR:((FV ids c l (x+1)).map DRow.o).set x [.v (.int .i64 (Jd ids c x).id),.ow 68 3 ((Jd ids c x).l.map DVal.c ++ [l[x].c])]=(FV ids c l (x+1)).map DRow.o:=by rw[hnx,cu,hrs]
   refine⟨x+1,Head.trans (Head.selAbs [(0,false),(1,false),(2,true),(5,false)] 3 2 ⟨rfl,rfl,rfl,Be _, ?inn,Ku _ _,trivial⟩
    ⟨x,(FV ids c l (x+1)).map DRow.o,[.v (.int .i64 (Jd ids c x).id),.ref 3],[.v (.int .i64 (Jd ids c x).id),.ow 68 3 ((Jd ids c x).l.map DVal.c ++ [l[x].c])],_,⟨W_ 2,rfl, ?rn, ?len,rfl⟩,
     ⟨rfl,rfl,rfl,rfl,rfl,rfl, ?nr,by simp[D7],fun l hl=>by simp[D7] at hl; omega⟩,⟨rfl, ?tr⟩, ?eq⟩) (b_ ids c l (x+1)),hx',by omega⟩
   case inn =>
    show ((((FV ids c l x).map DRow.o).set x [.v (.int .i64 (Jd ids c x).id),.ref 3]).set x [.v (.int .i64 (Jd ids c x).id),.ref 5]).all (fun x=>x.all (wP [(0,false),(1,false),(2,true),(5,false)]))=true
    rw[cu]
    refine aF.2 fun y hy=>?_
    rcases aaH hy with hy | rfl
    ·exact aF.1 (Dq (A7 _)) y hy
    ·rfl
   case rn =>
    show ((((FV ids c l x).map DRow.o).set x [.v (.int .i64 (Jd ids c x).id),.ref 3]).set x [.v (.int .i64 (Jd ids c x).id),.ref 5]).map (fun x=>x.map (Qy [(0,false),(1,false),(2,true),(5,false)]))=_
    rw[cu,aa6,DF (A7 _),hnx,cu]
    rfl
   case len=>simp only[ae]; rw[UO (by omega)]; exact hx'
   case nr=>rw[← FM]; exact CV _
   case tr =>
    unfold A8
    rw[hR]
    exact AFv rfl (AP (Am _)) (AP (A7 _))
   case eq =>
    unfold A8
    rw[hR]
    rfl
  ·have hdx:decide ((x:Int)<(ids.length:Int))=false:=by simp; omega
   have hx':x=ids.length:=by omega
   rw[vH (by omega)]
   simp only[go_sem,hdx]
   subst hx'
   have hty:=fE h5
   have hta:=Cc (l:=l) (by omega)
   simp only[go_sem,qH,wrap_i64 (n:=(k:Int)+1) (by omega) (by omega),wrap_i64 (n:=(p2:Int)+(M:Int)) (by omega) (by omega)]
   exact⟨(k+1,p2+M,c ++ [l]),Head.sel [(0,false),(1,false),(2,true)] ⟨rfl,rfl,rfl,Be _,Dq (A7 _),trivial⟩ (by
    show (⟨139,_,[_,_,⟨204,2,((rowsOf ids (c ++ [l])).map DRow.o).map (fun x=>x.map (Qy [(0,false),(1,false),(2,true)])),true,true⟩]⟩:MS)=_
    rw[DF (A7 _)]; rfl),⟨hk',by simp[hck],⟨fun y hy=>by
     rcases yU.1 hy with hy | hy
     ·exact hcl y hy
     ·rw[aaT.1 hy]; exact hll,fun y hy v hv=>by
     rcases yU.1 hy with hy | hy
     ·exact hsz y hy v hv
     ·rw[aaT.1 hy] at hv; exact Yy (hta.2.2 v hv).1⟩,q6,fun q=>absurd q hids,fun _=>by
    rw[← hne,yV]; congr 1; funext y; simp⟩,by simp only; omega⟩
theorem lH (a b c:Int):Ctr prog 89 [.c (.v (.int .i64 a)),.c (.v (.int .i64 b)),.c (.v (.int .i64 c))] [.val (.c (.v (.bool (decide (a≥b)&&decide (a≤c)))))]:=by
 refine CM call89 func89 ntmps89 results89 fun hw=>?_
 rcases h1:decide (a≥b) with _ | _<;>simp only[go_sem,h1]<;>simp only[ag,ai]
def Qz (w:DWorld) (n:Int):Option DBuf:=if 0≤n then w.b[n.toNat]? else none
def O_ (b:DBuf) (r:DRef):Bool:=(b.gen==r.gen)&&((b.kind==r.kind)&&((r.kind != 1)||((b.c0.l.length:Int)==r.many)))
def there (w:DWorld) (r:DRef):Bool:=match Qz w r.buf with
 | none=>false
 | some b=>O_ b r
theorem Eu (w:DWorld) (n:Int):(∃ (k:Nat) (h:k<w.b.length),n=k∧Qz w n=some w.b[k])∨((n<0∨(w.b.length:Int)≤n)∧Qz w n=none):=by
 unfold Qz
 by_cases h0:0≤n
 ·obtain⟨k,rfl⟩:=aP h0
  by_cases h1:k<w.b.length
  ·exact .inl ⟨k,h1,rfl,by simp[h1]⟩
  ·refine .inr ⟨.inr (by omega), ?_⟩
   simp only[h0,bD,bY]
   exact nR (by omega)
 ·exact .inr ⟨.inl (by omega),by simp[h0]⟩
theorem L9 (w:DWorld) (r:DRef):Ctr prog 161 [.agg w.c,.agg r.c] [.val (.c (.v (.bool (there w r))))]:=by
 refine CM call161 func161 ntmps161 results161 fun hw=>?_
 have hlenb:w.b.length≤9223372036854775807:=by have:=hw.1.2.2.2.2.2.2.2.2.1.1; simpa [Go.maxLen] using this
 simp only[go_sem,ae]
 try refine DrawK.mk ?_
 try simp only[go_sem,ae]
 first | refine CallF.mk _ (lH r.buf 0 _) ?_ | refine CallK.mk _ (lH r.buf 0 _) fun _=>?_
 simp only[go_sem,ae]
 rw[wrap_i64 (n:=(w.b.length:Int)-1) (by omega) (by omega)]
 rcases Eu w r.buf with ⟨k,hk,hb,hat⟩ | ⟨hb,hat⟩
 ·have e0:decide ((k:Int)≥0)=true:=by simp
  have e1:decide ((k:Int)≤(w.b.length:Int)-1)=true:=by simp; omega
  have hth:there w r=O_ w.b[k] r:=by simp only[there,hat]
  rw[hth]
  rcases h1:w.b[k].gen != r.gen with _ | _<;>rcases h2:w.b[k].kind != r.kind with _ | _<;>rcases h3:r.kind != 1 with _ | _ <;>
   simp only[go_sem,ae,hb,e0,e1,AA _ hk,hk,h1,h2,h3] <;>
   simp only[bne_iff_ne,bne_eq_false_iff_eq,ne_eq,aa3,beq_eq_false_iff_ne] at h1 h2 h3 <;>
   first | (simp[O_,h1,h2,h3]; done) | (simp[O_,h1,h2,h3]; intro hh; exact absurd (hh.trans h3.symm) h2)
 ·have e1:(decide (r.buf≥0)&&decide (r.buf≤(w.b.length:Int)-1))=false:=by
   rw[Bool.and_eq_false_iff]
   by_cases h0:0≤r.buf
   ·right; simp; omega
   ·left; simp; omega
  have hth:there w r=false:=by simp only[there,hat]
  simp only[go_sem,ae,e1,hth]
theorem Fz (w:DWorld) (r:DRef):Ctr prog 182 [.agg w.c,.agg r.c] [.val (.c (.v (.bool (there w r))))]:=by
 refine CM call182 func182 ntmps182 results182 fun hw=>?_
 rcases Eu w r.buf with ⟨k,hk,hb,hat⟩ | ⟨hb,hat⟩
 ·have e1:decide (r.buf<0)=false:=by rw[hb]; simp
  have e2:decide ((k:Int)≥w.b.length)=false:=by simp; omega
  have e3:decide ((k:Int)<0)=false:=by simp
  have hth:there w r=O_ w.b[k] r:=by simp only[there,hat]
  rw[hth]
  rcases h1:w.b[k].gen==r.gen with _ | _<;>rcases h2:w.b[k].kind==r.kind with _ | _<;>rcases h3:r.kind != 1 with _ | _ <;>
   simp only[go_sem,ae,hb,e2,e3,AA _ hk,hk,h1,h2,h3] <;>
   simp only[O_,h1,h2,h3,ai,ag,cO,bQ]
 ·have hth:there w r=false:=by simp only[there,hat]
  rcases h0:decide (r.buf<0) with _ | _
  ·have e2:decide (r.buf≥(w.b.length:Int))=true:=by simp at h0 ⊢; omega
   simp only[go_sem,ae,h0,e2,hth]
  ·simp only[go_sem,ae,h0,hth]
def F8:DChunk:=⟨0,[]⟩
def Gu (w:DWorld) (r:DRef):DChunk×Bool:=match Qz w r.buf with
 | none=>(F8,false)
 | some b=>if(r.kind==1&&O_ b r)=true then(b.c0,true) else(F8,false)
theorem ND (w:DWorld) (r:DRef):Ctr prog 258 [.agg w.c,.agg r.c] [.val (.agg (Gu w r).1.c),.val (.c (.v (.bool (Gu w r).2)))]:=by
 refine CM call258 func258 ntmps258 results258 fun hw=>?_
 rcases h1:r.kind != 1 with _ | _
 ·have hk1:(r.kind==1)=true:=by simpa using h1
  simp only[go_sem,h1]
  try refine DrawK.mk ?_
  try simp only[go_sem,h1]
  first | refine CY (Fz w r) ?_ | refine CW (Fz w r) fun _=>?_
  rcases h2:there w r with _ | _
  ·have hc:Gu w r=(F8,false):=by
    unfold Gu
    unfold there at h2
    split
    ·rfl
    ·rename_i b hb
     simp only[hb] at h2
     simp[h2]
   simp only[go_sem,h1,h2,hc,F8,dh]
  ·obtain⟨k,hk,hb,hat⟩ | ⟨hb,hat⟩:=Eu w r.buf
   ·have hc:Gu w r=(w.b[k].c0,true):=by
     unfold Gu
     simp only[there,hat] at h2
     simp[hat,h2,hk1]
    simp only[go_sem,h1,h2,hb,AA _ hk,hk,hc]
   ·simp only[there,hat] at h2
    cases h2
 ·have hk1:(r.kind==1)=false:=by simpa using h1
  have hc:Gu w r=(F8,false):=by
   unfold Gu
   split
   ·rfl
   ·simp[hk1]
  simp only[go_sem,h1,hc,F8,dh]
  try refine DrawK.mk ?_
  try simp only[go_sem,h1,hc,F8,dh]
noncomputable def Eh (w:DWorld) (r:DRef):List DRow:=match Qz w r.buf with
 | none=>[]
 | some b=>(CS w.c0.cols b.g).getD []
theorem Jn {l:List Int} (h:dS (l.map byteC)):AY l:=fun n hn=>by
 have h1:=XC h _ (WY.2 ⟨n,hn,rfl⟩)
 have h2:O9 (.int .u8 n)=true:=h1.1
 simp[O9,Lit.wf,isByte,IntKind.min,IntKind.max,IntKind.bits,IntKind.signed] at h2 ⊢
 omega
theorem Ij:∀ (a b:List Cl),Rq (a++b)→Rq a∧Rq b
 | [],b,h=>⟨trivial,h⟩
 | c::a,b,h=>⟨⟨h.1,(Ij a b h.2).1⟩,(Ij a b h.2).2⟩
theorem SS {w:DWorld} {k:Nat} (h:Rq w.c) (hk:k<w.b.length):AY w.b[k].g:=by
 rw[DWorld.c_eq] at h
 have h1:=(Ij _ _ (Ij _ _ (Ij _ _ (Ij _ _ (Ij _ _ (Ij _ _ h).2).2).2).2).2).1.1
 simp only[nZ] at h1
 have h2:=XC h1.2 _ (WY.2 ⟨w.b[k],aj hk,rfl⟩)
 rw[DBuf.c_eq] at h2
 have h3:=(Ij _ _ (Ij _ _ (Ij _ _ h2).2).2).2.1
 simp only[nZ] at h3
 exact Jn h3.2
theorem gB {w:DWorld} (hf:Aa w) {k:Nat} (hk:k<w.b.length):Gg w.b[k].c0∧w.b[k].g.length≤1048576:=by
 rw[BI] at hf
 have:=hf.2.2.1.2 _ (aj hk)
 rw[Ht] at this
 exact this
theorem vI (x:Option (List DRow)):(VN x).map jF = [.val (.c (.sl ((x.getD []).map DRow.c))),.val (.c (.v (.bool (x.isSome))))]:=by
 cases x with
 | none=>rfl
 | some l =>
  simp only[VN,XA,dh,jF,KX]
  rfl
theorem XV (cs:List Int) (b:List Int) (hb:AY b) (hl:b.length≤1048576):Ctr prog 216 [.c (.sl (cs.map intC)),.c (.sl (b.map byteC))] [.val (.c (.sl (((CS cs b).getD []).map DRow.c))),.val (.c (.v (.bool ((CS cs b).isSome))))]:=by
 rw[← vI]; exact(XU cs b hb hl).frz
theorem RU (cs:List Int) (b:List Int) (hb:AY b) (hl:b.length≤1048576):Ctr prog 225 [.c (.sl (cs.map intC)),.c (.sl (b.map byteC))] [.val (.c (.sl (((CS cs b).getD []).map DRow.c))),.val (.c (.v (.bool ((CS cs b).isSome))))]:=by
 rw[← vI]; exact(Yz cs b hb hl).frz
theorem QR (w:DWorld) (r:DRef) {k:Nat} (hf:Aa w) (hk:k<w.b.length) (hb:r.buf=(k:Int)):Ctr prog 162 [.agg w.c,.agg r.c] [.val (.c (.sl ((Eh w r).map DRow.c)))]:=by
 refine CM call162 func162 ntmps162 results162 fun hw=>?_
 have hbo:=SS hw.1 hk
 have hg:Eh w r=(CS w.c0.cols w.b[k].g).getD []:=by simp only[Eh,Qz,hb]; simp[hk]
 simp only[go_sem,hb,AA _ hk,hk]
 refine DrawK.mk ?_
 simp only[go_sem,hb,AA _ hk,hk]
 refine CallF.mk _ (XV w.c0.cols w.b[k].g hbo (gB hf hk).2) ?_
 simp only[go_sem,hg]
theorem KA (w:DWorld) (r:DRef) (hf:Aa w):Ctr prog 183 [.agg w.c,.agg r.c] [.val (.c (.sl ((if(r.kind==2&&there w r)=true then Eh w r else []).map DRow.c)))]:=by
 refine CM call183 func183 ntmps183 results183 fun hw=>?_
 rcases h1:r.kind != 2 with _ | _
 ·have hk1:(r.kind==2)=true:=by simpa using h1
  simp only[go_sem,h1,hk1,ai]
  try refine DrawK.mk ?_
  try simp only[go_sem,h1]
  first | refine CY (Fz w r) ?_ | refine CW (Fz w r) fun _=>?_
  rcases h2:there w r with _ | _
  ·simp only[go_sem,h1,h2]
  ·obtain⟨k,hk,hb,hat⟩ | ⟨hb,hat⟩:=Eu w r.buf
   ·have hbo:=SS hw.1 hk
    have hg:Eh w r=(CS w.c0.cols w.b[k].g).getD []:=by simp only[Eh,hat]
    simp only[go_sem,h1,h2,hb,AA _ hk,hk]
    try refine DrawK.mk ?_
    try simp only[go_sem,h1,h2,hb,AA _ hk,hk]
    first | refine CallF.mk _ (RU w.c0.cols w.b[k].g hbo (gB hf hk).2) ?_ | refine CallK.mk _ (RU w.c0.cols w.b[k].g hbo (gB hf hk).2) fun _=>?_
    simp only[go_sem,hg]
   ·simp only[there,hat] at h2
    cases h2
 ·have hk1:(r.kind==2)=false:=by simpa using h1
  simp only[go_sem,h1,hk1,ag]
  try refine DrawK.mk ?_
  try simp only[go_sem,h1,hk1]
  trace_state
def AFw (z:DVal×DVal):List Cl:=z.1.c++z.2.c
@[go_sem] theorem AFx (z:DVal×DVal):AFw z=z.1.c++z.2.c:=rfl
end Go.Proofs.YtnfbaclikokapaaGreat
