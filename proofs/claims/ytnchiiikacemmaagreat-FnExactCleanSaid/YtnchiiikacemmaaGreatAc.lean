/- A part. -/
import Derived.Test.YtnchiiikacemmaaGreatYr
import Derived.Test.YtnchiiikacemmaaGreatAa
set_option linter.unusedSimpArgs false
set_option linter.unusedVariables false
set_option maxHeartbeats 2000000
set_option maxRecDepth 10000
open Go.Proofs.Tryz
namespace Go.Proofs.YtnchiiikacemmaaGreat
open Go.Vm
noncomputable def ACP (cs b ids:List Int) (x:Option (List (List DVal)×Nat)):Option (List DRow):=match x with
 | none=>none
 | some (c,q)=>if q=b.length∧C9 cs (rowsOf ids c)=true then some (rowsOf ids c) else none
theorem Ul (cs b ids:List Int):ACP cs b ids none=none:=rfl
theorem XD {cs b ids:List Int} {c:List (List DVal)} {p:Nat} (h:¬ (p=b.length∧C9 cs (rowsOf ids c)=true)):ACP cs b ids (some (c,p))=none:=aV h
theorem lX {cs b ids:List Int} {c:List (List DVal)} {p:Nat} (h:p=b.length∧C9 cs (rowsOf ids c)=true):ACP cs b ids (some (c,p))=some (rowsOf ids c):=aX h
def ACQ (ids:List Int) (c:List (List DVal)) (l:List DVal) (x:Nat):List Ob:=if x<ids.length then
  [⟨193,2,[],true,true⟩,⟨3,1,ids.map intC,true,true⟩,⟨193,2,((FU ids c l x).map DRow.o).set x [.v (.int .i64 (JY ids c x).id),.ref 3],true,true⟩,⟨119,3,(JY ids c x).l.map DVal.c,true,true⟩]
 else [⟨193,2,[],true,true⟩,⟨3,1,ids.map intC,true,true⟩,⟨193,2,(FU ids c l x).map DRow.o,true,true⟩]
theorem vw {ids:List Int} {c:List (List DVal)} {l:List DVal} {x:Nat} (h:x<ids.length):ACQ ids c l x = [⟨193,2,[],true,true⟩,⟨3,1,ids.map intC,true,true⟩,⟨193,2,((FU ids c l x).map DRow.o).set x [.v (.int .i64 (JY ids c x).id),.ref 3],true,true⟩,⟨119,3,(JY ids c x).l.map DVal.c,true,true⟩]:=aX h
theorem vz {ids:List Int} {c:List (List DVal)} {l:List DVal} {x:Nat} (h:¬ x<ids.length):ACQ ids c l x = [⟨193,2,[],true,true⟩,⟨3,1,ids.map intC,true,true⟩,⟨193,2,(FU ids c l x).map DRow.o,true,true⟩]:=aV h
theorem dK {n:Nat} {env:List (Nat×AV)} (ids:List Int) (c:List (List DVal)) (l:List DVal) (x:Nat) :
  Head ⟨n,env,[⟨193,2,[],true,true⟩,⟨3,1,ids.map intC,true,true⟩,⟨193,2,(FU ids c l x).map DRow.o,true,true⟩]⟩ ⟨n,env,ACQ ids c l x⟩:=by
 by_cases h:x<ids.length
 ·rw[vw h]
  exact Head.open' (s:=⟨n,env,[⟨193,2,[],true,true⟩,⟨3,1,ids.map intC,true,true⟩,⟨193,2,(FU ids c l x).map DRow.o,true,true⟩]⟩) 2 x 1 (ob:=⟨193,2,(FU ids c l x).map DRow.o,true,true⟩) (row:=DRow.o (JY ids c x)) rfl rfl
   (by simp only[lS,qc h,bU]) rfl rfl
 ·rw[vz h]
  exact⟨rfl,fun _ _ St β _ _ h=>⟨St,β,h⟩⟩
theorem AGB {N:Nat} {a b c:Ob} (ha:Aw N a=true) (hb:Aw N b=true) (hc:Aw N c=true) : [a,b,c].all (Aw N)=true:=by simp[ha,hb,hc]
theorem Xh (cs:List Int) (b:List Int) (hb:AQ b) (hl:b.length≤1048576):Ctr prog 203 [.c (.sl (cs.map intC)),.c (.sl (b.map byteC))] (VN (CU cs b)):=by
 refine CM call203 func203 ntmps203 results203 fun hw=>?_
 simp only[go_sem]
 have hg:=Z5 b 0 hb hl
 rcases h1:EY b 0 with _ | ⟨ids,q⟩<;>rw[h1] at hg<;>simp only[XA] at hg
 ·have e:CU cs b=none:=by simp only[CU,h1]
  rw[e]
  refine CallK.mk _ hg fun _=>?_
  simp only[go_sem,VN]
  try simp
 refine CallK.mk _ hg fun _=>?_
 obtain⟨n1,n2,n3⟩:=Rq hb h1
 simp only[go_sem]
 refine CallK.mk _ (OC _) fun _=>?_
 rcases hc:EX cs with _ | _
 ·have e:CU cs b=none:=by simp only[CU,h1,hc]; rfl
  rw[e]
  simp only[go_sem,VN]
  try simp
 rcases h12:decide ((ids.length:Int)>12) with _ | _
 rotate_left
 ·have e:CU cs b=none:=by simp only[CU,h1]; exact aV fun q=>by simp at h12; omega
  rw[e]
  simp only[go_sem,h12,VN]
  try simp
 have h12':ids.length≤12:=by simp at h12; omega
 have hcs3:cs.length≤3:=by
  simp only[EX,ax] at hc
  have:=hc.2
  simp[Ac] at this; omega
 have hall:CU cs b=ACP cs b ids (Ey b cs ids q):=by
  simp only[CU,h1]; exact aX ⟨hc,h12'⟩
 rw[hall]
 simp only[go_sem,h12]
 refine LoopH.mk [39] (A:=Nat) (fun x=>[(11,.c (.v (.int .i64 (x)))),(10,.c (.ref 2))]) (fun x=>[⟨193,2,[],true,true⟩,⟨3,1,ids.map intC,true,true⟩,⟨193,2,((ids.take x).map fun n=>(⟨n,[]⟩:DRow)).map DRow.o,true,true⟩]) (fun x=>x≤ids.length) (fun x=>ids.length-x) 0 (Head.sel [(0,false),(1,false),(2,false)] ⟨rfl,rfl,rfl,Bf _,rfl,trivial⟩ rfl) (ak _) ?_
 rintro i hi
 simp only[go_sem]
 refine cndC.mk (fun h=>?_) (fun h=>?_)
 ·have hi':i<ids.length:=by simp at h; omega
  have hl2:i+1≤2147483648:=by omega
  simp only[go_sem,AA _ hi',hi',hl2,bn,Zt hi]
  have hnr:FT [[Cl.v (.int .i64 ids[i]),Cl.v (.slice none 0 0)]]=true:=rfl
  simp only[go_sem,hnr,wrap_i64 (n:=(i:Int)+1) (by omega) (by omega)]
  have hlen:(((ids.take i).map fun n=>(⟨n,[]⟩:DRow)).map DRow.o).length=i:=by simp; omega
  refine⟨i+1,Head.trans (Head.nilI' 4 i 1 119 3 _ [.v (.int .i64 ids[i]),.v (.slice none 0 0)] (zs:=((ids.take i).map fun n=>(⟨n,[]⟩:DRow)).map DRow.o ++ [[.v (.int .i64 ids[i]),.ref 5]]) rfl ?row rfl ?set) (Head.selAbs [(0,false),(1,false),(4,true),(5,false)] 3 2 ⟨rfl,rfl,rfl,Bf _,Iy DRow.o_nr _ _ rfl,rfl,trivial⟩
   ⟨i,((ids.take i).map fun n=>(⟨n,[]⟩:DRow)).map DRow.o ++ [DRow.o ⟨ids[i],[]⟩],[.v (.int .i64 ids[i]),.ref 3],DRow.o ⟨ids[i],[]⟩,_,⟨lU 2,rfl, ?rn,by simp; omega,rfl⟩,
    ⟨rfl,rfl,rfl,rfl,rfl,rfl,rfl,by simp,fun l hl=>by simp at hl; omega⟩,⟨rfl, ?tr⟩, ?eq⟩),hi',by omega⟩
  case row=>simp only; rw[aF (by omega),hlen]; simp
  case set=>simp only; rw[aa8 _ _ (by omega),hlen]; simp
  case rn =>
   have:=Iw DRow.o_nr [(0,false),(1,false),(4,true),(5,false)] ((ids.take i).map fun n=>(⟨n,[]⟩:DRow)) [.v (.int .i64 ids[i]),.ref 5] (DRow.o ⟨ids[i],[]⟩)
   rw[show ((ids.take i).map fun n=>(⟨n,[]⟩:DRow)).length=i by simp; omega] at this
   exact this
  case tr =>
   unfold Az
   have:=Bc (f:=DRow.o) ((ids.take i).map fun n=>(⟨n,[]⟩:DRow)) ⟨ids[i],[]⟩
   rw[show ((ids.take i).map fun n=>(⟨n,[]⟩:DRow)).length=i by simp; omega] at this
   rw[this]
   exact AGB rfl (AP (Aq _)) (AP (A8 _))
  case eq =>
   unfold Az
   have:=Bc (f:=DRow.o) ((ids.take i).map fun n=>(⟨n,[]⟩:DRow)) ⟨ids[i],[]⟩
   rw[show ((ids.take i).map fun n=>(⟨n,[]⟩:DRow)).length=i by simp; omega] at this
   rw[this,JX (fun n=>(⟨n,[]⟩:DRow)) hi']
   rfl
 ·have hi':i=ids.length:=by simp at h; omega
  subst hi'
  simp only[go_sem,bP]
  have e0:(ids.map fun n=>(⟨n,[]⟩:DRow))=rowsOf ids []:=(Y4 ids).symm
  rw[e0]
  refine LoopH.mk [] (A:=Nat×Nat×List (List DVal)) (fun x=>[(12,.c (.v (.int .i64 (x.1)))),(8,.c (.v (.int .i64 ((x.2.1:Int)))))]) (fun x=>[⟨193,2,[],true,true⟩,⟨3,1,ids.map intC,true,true⟩,⟨193,2,(rowsOf ids x.2.2).map DRow.o,true,true⟩]) (fun x=>x.1≤cs.length∧x.2.2.length=x.1∧((∀ c∈x.2.2,c.length=ids.length)∧(∀ c∈x.2.2,∀ v∈c,v.s.size≤6))∧x.2.1≤b.length∧(ids = []→x=(0,q,[]))∧(ids≠ []→(FX b ids.length (cs.drop x.1) x.2.1).map (fun y=>(x.2.2++y.1,y.2))=FX b ids.length cs q)) (fun x=>cs.length-x.1) (0,q,[]) (Head.sel [(0,false),(1,false),(2,true)] ⟨rfl,rfl,rfl,Bf _,Du (A8 _),trivial⟩ ?h0) ⟨ak _,rfl,⟨by simp,by simp⟩,n1,fun _=>rfl,fun _=>by simp⟩ ?_
  case h0 =>
   show (⟨139,_,[_,_,⟨193,2,((rowsOf ids []).map DRow.o).map (fun x=>x.map (Ql [(0,false),(1,false),(2,true)])),true,true⟩]⟩:MS)=_
   rw[DR (A8 _)]; rfl
  rintro⟨k,p,c⟩ ⟨hk,hck,⟨hcl,hsz⟩,hpb,hemp,hne⟩
  dsimp only at hk hck hcl hsz hpb hemp hne
  simp only[go_sem]
  rcases hk1:decide ((k:Int)<(cs.length:Int)) with _ | _
  ·have hk':k=cs.length:=by simp at hk1; omega
   have hgc:Ey b cs ids q=some (c,p):=by
    by_cases hids:ids = []
    ·have hx:=hemp hids
     simp only[bQ] at hx
     obtain⟨_,hp0,hc0⟩:=hx
     rw[hc0,hp0]; exact aX hids
    ·have hne:=hne hids
     rw[hk',aO,FX] at hne
     simp only[bU,bz] at hne
     rw[hne]; exact aV hids
   rw[hgc]
   rcases hpl:((p:Int) != (b.length:Int)) with _ | _
   rotate_left
   ·have hno:¬ (p=b.length∧C9 cs (rowsOf ids c)=true):=fun q=>by simp at hpl; omega
    rw[XD hno]
    simp only[go_sem,hpl,VN]
    try simp
   simp only[go_sem,hpl]
   refine BorK.mk (args:=[.c (.sl (cs.map intC)),.c (.sl ((rowsOf ids c).map DRow.c))]) _ (by simp only[KL,go_sem]) rfl (UU cs (rowsOf ids c) (by rw[DD]; omega)) fun _=>?_
   rcases hok:C9 cs (rowsOf ids c) with _ | _
   ·have hno:¬ (p=b.length∧C9 cs (rowsOf ids c)=true):=fun q=>by rw[hok] at q; cases q.2
    rw[XD hno]
    simp only[go_sem,VN]
    try simp
   ·have hyes:p=b.length∧C9 cs (rowsOf ids c)=true:=⟨by simp at hpl; omega,hok⟩
    rw[lX hyes]
    simp only[go_sem,VN,A8]
    try simp
  have hk':k<cs.length:=by simpa using hk1
  rcases hi0:decide ((ids.length:Int)>0) with _ | _
  ·have hids:ids = []:=by
    apply dh
    simp at hi0; simp[hi0]
   have hx:=hemp hids
   simp only[bQ] at hx
   obtain⟨_,hp0,hc0⟩:=hx
   have hgc:Ey b cs ids q=some (c,p):=by rw[hc0,hp0]; exact aX hids
   rw[hgc]
   rcases hpl:((p:Int) != (b.length:Int)) with _ | _
   rotate_left
   ·have hno:¬ (p=b.length∧C9 cs (rowsOf ids c)=true):=fun q=>by simp at hpl; omega
    rw[XD hno]
    simp only[go_sem,hi0,hpl,VN]
    try simp
   simp only[go_sem,hi0,hpl]
   refine BorK.mk (args:=[.c (.sl (cs.map intC)),.c (.sl ((rowsOf ids c).map DRow.c))]) _ (by simp only[KL,go_sem]) rfl (UU cs (rowsOf ids c) (by rw[DD]; omega)) fun _=>?_
   rcases hok:C9 cs (rowsOf ids c) with _ | _
   ·have hno:¬ (p=b.length∧C9 cs (rowsOf ids c)=true):=fun q=>by rw[hok] at q; cases q.2
    rw[XD hno]
    simp only[go_sem,VN]
    try simp
   ·have hyes:p=b.length∧C9 cs (rowsOf ids c)=true:=⟨by simp at hpl; omega,hok⟩
    rw[lX hyes]
    simp only[go_sem,VN,A8]
    try simp
  have hids:ids≠ []:=by rintro rfl; simp at hi0
  have hn0:0<ids.length:=aa0.2 hids
  have hne:=hne hids
  have hgc:Ey b cs ids q=FX b ids.length cs q:=aV hids
  rw[hgc]
  rw[OM hk',FX] at hne
  simp only[go_sem,hi0]
  have hg2:=FH b p hb hl
  rcases h3:BK b p with _ | ⟨m,p2⟩<;>rw[h3] at hg2 hne<;>simp only[UH] at hg2
  ·refine CallK.mk _ hg2 fun _=>?_
   simp only[dm] at hne
   rw[← hne,Ul]
   simp only[go_sem,VN]
   try simp
  refine CallK.mk _ hg2 fun _=>?_
  dsimp only at hne
  obtain⟨_,z2,z3,z4,z5,_⟩:=Gq hb h3
  have hw1:IntKind.i64.wrap ((b.length:Int)-(p2:Int))=(b.length:Int)-(p2:Int):=wrap_i64 (by omega) (by omega)
  simp only[go_sem,hw1]
  refine CallK.mk _ (AL _ _ _) fun _=>?_
  rcases h4:Ac m 0 ((b.length:Int)-(p2:Int)) with _ | _
  ·rw[aV (by simp[Ac] at h4; omega)] at hne
   simp only[dm] at hne
   rw[← hne,Ul]
   simp only[go_sem,VN]
   try simp
  have h4':0≤m∧m≤(b.length:Int)-(p2:Int):=by simp[Ac] at h4; omega
  rw[aX h4'] at hne
  obtain⟨M,rfl⟩:=aP h4'.1
  rw[bV] at hne
  have q1:=G8 (k:=.i64) (n:=(p2:Int)) (m:=p2) (by omega)
  have q2:=G8 (k:=.i64) (n:=(p2:Int)+(M:Int)) (m:=p2+M) (by omega)
  have q5:p2≤p2+M:=by omega
  have q6:p2+M≤b.length:=by omega
  have q7:p2+M-p2=M:=by omega
  have hbd:AQ ((b.drop p2).take M):=QQ hb _ _
  have hdc:=kW ((b.drop p2).take M) cs[k] (ids.length:Int) hbd (by simp; omega)
  simp only[go_sem]
  refine DrawK.mkE ?_
  simp only[go_sem,AA _ hk',q1,q2,q5,q6,q7,Be,← df,← bZ,wrap_i64 (n:=(p2:Int)+(M:Int)) (by omega) (by omega)]
  rcases h5:IA ((b.drop p2).take M) cs[k] (ids.length:Int) with _ | l<;>rw[h5] at hdc hne<;>simp only[C_] at hdc
  ·refine CallE.mk _ hdc ?_
   simp only[go_sem,AA _ hk',q1,q2,q5,q6,q7,Be,← df,← bZ,wrap_i64 (n:=(p2:Int)+(M:Int)) (by omega) (by omega)]
   simp only[dm] at hne
   rw[← hne,Ul]
   simp only[go_sem,VN]
   try simp
  refine CallE.mk _ hdc ?_
  simp only[go_sem,AA _ hk',q1,q2,q5,q6,q7,Be,← df,← bZ,wrap_i64 (n:=(p2:Int)+(M:Int)) (by omega) (by omega)]
  dsimp only at hne
  obtain⟨y1,y2,y3⟩:=VD hbd h5
  have hll:l.length=ids.length:=by omega
  refine LoopH.mk [] (A:=Nat) (fun x=>[(18,.c (.v (.int .i64 (x))))]) (fun x=>ACQ ids c l x) (fun x=>x≤ids.length) (fun x=>ids.length-x) 0 (Head.trans (Head.sel [(0,false),(1,false),(2,true)] ⟨rfl,rfl,rfl,Bf _,Du (A8 _),trivial⟩ (by
   show (⟨139,_,[_,_,⟨193,2,((rowsOf ids c).map DRow.o).map (fun x=>x.map (Ql [(0,false),(1,false),(2,true)])),true,true⟩]⟩:MS)=_
   rw[DR (A8 _),fM]; rfl)) (dK ids c l 0)) (ak _) ?_
  rintro x hx
  rcases bf x ids.length with hx' | hx'
  ·have hdx:decide ((x:Int)<(ids.length:Int))=true:=by simpa using hx'
   have hxl:x<l.length:=by omega
   have hgl:(FU ids c l x).length=ids.length:=UV hx
   have hrow:(((FU ids c l x).map DRow.o).set x [.v (.int .i64 (JY ids c x).id),.ref 3])[x]?=some [.v (.int .i64 (JY ids c x).id),.ref 3]:=by
    rw[di]; simp[hgl,hx']
   rw[vw hx']
   simp only[go_sem,hdx]
   have hal:(JY ids c x).l.length+1≤2147483648:=by simp only[JY,ae]; omega
   refine DrawK.mkE ?_
   simp only[go_sem,AA _ hxl,hgl,hx',hrow,bG,hal,wrap_i64 (n:=(x:Int)+1) (by omega) (by omega)]
   have hnx:(FU ids c l (x+1)).map DRow.o=((FU ids c l x).map DRow.o).set x (DRow.o (JY ids (c ++ [l]) x)):=by rw[← qf hx',abm]
   have hrs:DRow.o (JY ids (c ++ [l]) x) = [.v (.int .i64 (JY ids c x).id),.ow 119 3 ((JY ids c x).l.map DVal.c ++ [l[x].c])]:=by rw[qY hxl,← FN]; rfl
   have hR:((FU ids c l (x+1)).map DRow.o).set x [.v (.int .i64 (JY ids c x).id),.ow 119 3 ((JY ids c x).l.map DVal.c ++ [l[x].c])]=(FU ids c l (x+1)).map DRow.o:=by rw[hnx,cO,hrs]
   refine⟨x+1,Head.trans (Head.selAbs [(0,false),(1,false),(2,true),(5,false)] 3 2 ⟨rfl,rfl,rfl,Bf _, ?inn,KT _ _,trivial⟩
    ⟨x,(FU ids c l (x+1)).map DRow.o,[.v (.int .i64 (JY ids c x).id),.ref 3],[.v (.int .i64 (JY ids c x).id),.ow 119 3 ((JY ids c x).l.map DVal.c ++ [l[x].c])],_,⟨lU 2,rfl, ?rn, ?len,rfl⟩,
     ⟨rfl,rfl,rfl,rfl,rfl,rfl, ?nr,by simp,fun l hl=>by simp at hl; omega⟩,⟨rfl, ?tr⟩, ?eq⟩) (dK ids c l (x+1)),hx',by omega⟩
   case inn =>
    show ((((FU ids c l x).map DRow.o).set x [.v (.int .i64 (JY ids c x).id),.ref 3]).set x [.v (.int .i64 (JY ids c x).id),.ref 5]).all (fun x=>x.all (xP [(0,false),(1,false),(2,true),(5,false)]))=true
    rw[cO]
    refine aG.2 fun y hy=>?_
    rcases aaF hy with hy | rfl
    ·exact aG.1 (Du (A8 _)) y hy
    ·rfl
   case rn =>
    show ((((FU ids c l x).map DRow.o).set x [.v (.int .i64 (JY ids c x).id),.ref 3]).set x [.v (.int .i64 (JY ids c x).id),.ref 5]).map (fun x=>x.map (Ql [(0,false),(1,false),(2,true),(5,false)]))=_
    rw[cO,abm,DR (A8 _),hnx,cO]
    rfl
   case len=>simp only[ae]; rw[UV (by omega)]; exact hx'
   case nr=>rw[← FN]; exact CX _
   case tr =>
    unfold Az
    rw[hR]
    exact AGB rfl (AP (Aq _)) (AP (A8 _))
   case eq =>
    unfold Az
    rw[hR]
    rfl
  ·have hdx:decide ((x:Int)<(ids.length:Int))=false:=by simp; omega
   have hx':x=ids.length:=by omega
   rw[vz (by omega)]
   simp only[go_sem,hdx]
   subst hx'
   have hty:=fO h5
   have hta:=Cf (l:=l) (by omega)
   simp only[go_sem,qZ,wrap_i64 (n:=(k:Int)+1) (by omega) (by omega),wrap_i64 (n:=(p2:Int)+(M:Int)) (by omega) (by omega)]
   exact⟨(k+1,p2+M,c ++ [l]),Head.sel [(0,false),(1,false),(2,true)] ⟨rfl,rfl,rfl,Bf _,Du (A8 _),trivial⟩ (by
    show (⟨139,_,[_,_,⟨193,2,((rowsOf ids (c ++ [l])).map DRow.o).map (fun x=>x.map (Ql [(0,false),(1,false),(2,true)])),true,true⟩]⟩:MS)=_
    rw[DR (A8 _)]; rfl),⟨hk',by simp[hck],⟨fun y hy=>by
     rcases wu.1 hy with hy | hy
     ·exact hcl y hy
     ·rw[aa4.1 hy]; exact hll,fun y hy v hv=>by
     rcases wu.1 hy with hy | hy
     ·exact hsz y hy v hv
     ·rw[aa4.1 hy] at hv; exact Y7 (hta.2.2 v hv).1⟩,q6,fun q=>absurd q hids,fun _=>by
    rw[← hne,zI]; congr 1; funext y; simp⟩,by simp only; omega⟩
theorem lY (a b c:Int):Ctr prog 74 [.c (.v (.int .i64 a)),.c (.v (.int .i64 b)),.c (.v (.int .i64 c))] [.val (.c (.v (.bool (decide (a≥b)&&decide (a≤c)))))]:=by
 refine CM call74 func74 ntmps74 results74 fun hw=>?_
 rcases h1:decide (a≥b) with _ | _<;>simp only[go_sem,h1]<;>simp only[ag,ai]
def Qm (w:DWorld) (n:Int):Option DBuf:=if 0≤n then w.b[n.toNat]? else none
def Ov (b:DBuf) (r:DRef):Bool:=(b.gen==r.gen)&&((b.kind==r.kind)&&((r.kind != 1)||((b.c0.l.length:Int)==r.many)))
def there (w:DWorld) (r:DRef):Bool:=match Qm w r.buf with
 | none=>false
 | some b=>Ov b r
theorem E5 (w:DWorld) (n:Int):(∃ (k:Nat) (h:k<w.b.length),n=k∧Qm w n=some w.b[k])∨((n<0∨(w.b.length:Int)≤n)∧Qm w n=none):=by
 unfold Qm
 by_cases h0:0≤n
 ·obtain⟨k,rfl⟩:=aP h0
  by_cases h1:k<w.b.length
  ·exact .inl ⟨k,h1,rfl,by simp[h1]⟩
  ·refine .inr ⟨.inr (by omega), ?_⟩
   simp only[h0,aW,bV]
   exact bF (by omega)
 ·exact .inr ⟨.inl (by omega),by simp[h0]⟩
theorem LX (w:DWorld) (r:DRef):Ctr prog 150 [.agg w.c,.agg r.c] [.val (.c (.v (.bool (there w r))))]:=by
 refine CM call150 func150 ntmps150 results150 fun hw=>?_
 have hlenb:w.b.length≤9223372036854775807:=by have:=hw.1.2.2.2.2.2.2.2.2.1.1; simpa [Go.maxLen] using this
 simp only[go_sem,ae]
 try refine DrawK.mk ?_
 try simp only[go_sem,ae]
 first | refine CallF.mk _ (lY r.buf 0 _) ?_ | refine CallK.mk _ (lY r.buf 0 _) fun _=>?_
 simp only[go_sem]
 rw[wrap_i64 (n:=(w.b.length:Int)-1) (by omega) (by omega)]
 rcases E5 w r.buf with ⟨k,hk,hb,hat⟩ | ⟨hb,hat⟩
 ·have e0:decide ((k:Int)≥0)=true:=by simp
  have e1:decide ((k:Int)≤(w.b.length:Int)-1)=true:=by simp; omega
  have hth:there w r=Ov w.b[k] r:=by simp only[there,hat]
  rw[hth]
  rcases h1:w.b[k].gen != r.gen with _ | _<;>rcases h2:w.b[k].kind != r.kind with _ | _<;>rcases h3:r.kind != 1 with _ | _ <;>
   simp only[go_sem,ae,hb,e0,e1,AA _ hk,h1,h2,h3] <;>
   simp only[bne_iff_ne,bne_eq_false_iff_eq,ne_eq] at h1 h2 h3 <;>
   first | (simp[Ov,h1,h2,h3]; done) | (simp[Ov,h1,h3]; intro hh; exact absurd (hh.trans h3.symm) h2)
 ·have e1:(decide (r.buf≥0)&&decide (r.buf≤(w.b.length:Int)-1))=false:=by
   rw[Bool.and_eq_false_iff]
   by_cases h0:0≤r.buf
   ·right; simp; omega
   ·left; simp; omega
  have hth:there w r=false:=by simp only[there,hat]
  simp only[go_sem,e1,hth]
theorem Fj (w:DWorld) (r:DRef):Ctr prog 167 [.agg w.c,.agg r.c] [.val (.c (.v (.bool (there w r))))]:=by
 refine CM call167 func167 ntmps167 results167 fun hw=>?_
 rcases E5 w r.buf with ⟨k,hk,hb,hat⟩ | ⟨hb,hat⟩
 ·have e1:decide (r.buf<0)=false:=by rw[hb]; simp
  have e2:decide ((k:Int)≥w.b.length)=false:=by simp; omega
  have e3:decide ((k:Int)<0)=false:=by simp
  have hth:there w r=Ov w.b[k] r:=by simp only[there,hat]
  rw[hth]
  rcases h1:w.b[k].gen==r.gen with _ | _<;>rcases h2:w.b[k].kind==r.kind with _ | _<;>rcases h3:r.kind != 1 with _ | _ <;>
   simp only[go_sem,ae,hb,e2,AA _ hk,h1,h2,h3] <;>
   simp only[Ov,h1,h2,h3,ai,ag,Om,bT]
 ·have hth:there w r=false:=by simp only[there,hat]
  rcases h0:decide (r.buf<0) with _ | _
  ·have e2:decide (r.buf≥(w.b.length:Int))=true:=by simp at h0 ⊢; omega
   simp only[go_sem,ae,h0,e2,hth]
  ·simp only[go_sem,h0,hth]
def Fv:DChunk:=⟨0,[]⟩
def Gy (w:DWorld) (r:DRef):DChunk×Bool:=match Qm w r.buf with
 | none=>(Fv,false)
 | some b=>if(r.kind==1&&Ov b r)=true then(b.c0,true) else(Fv,false)
theorem MI (w:DWorld) (r:DRef):Ctr prog 249 [.agg w.c,.agg r.c] [.val (.agg (Gy w r).1.c),.val (.c (.v (.bool (Gy w r).2)))]:=by
 refine CM call249 func249 ntmps249 results249 fun hw=>?_
 rcases h1:r.kind != 1 with _ | _
 ·have hk1:(r.kind==1)=true:=by simpa using h1
  simp only[go_sem,h1]
  try refine DrawK.mk ?_
  try simp only[go_sem,h1]
  first | refine CY (Fj w r) ?_ | refine CW (Fj w r) fun _=>?_
  rcases h2:there w r with _ | _
  ·have hc:Gy w r=(Fv,false):=by
    unfold Gy
    unfold there at h2
    split
    ·rfl
    ·rename_i b hb
     simp only[hb] at h2
     simp[h2]
   simp only[go_sem,hc,Fv,cZ]
  ·obtain⟨k,hk,hb,hat⟩ | ⟨hb,hat⟩:=E5 w r.buf
   ·have hc:Gy w r=(w.b[k].c0,true):=by
     unfold Gy
     simp only[there,hat] at h2
     simp[hat,h2,hk1]
    simp only[go_sem,hb,AA _ hk,hc]
   ·simp only[there,hat] at h2
    cases h2
 ·have hk1:(r.kind==1)=false:=by simpa using h1
  have hc:Gy w r=(Fv,false):=by
   unfold Gy
   split
   ·rfl
   ·simp[hk1]
  simp only[go_sem,h1,hc,Fv,cZ]
  try refine DrawK.mk ?_
  try simp only[go_sem,h1,hc,Fv,cZ]
noncomputable def Eo (w:DWorld) (r:DRef):List DRow:=match Qm w r.buf with
 | none=>[]
 | some b=>(CU w.c0.cols b.g).getD []
theorem Jg {l:List Int} (h:eF (l.map byteC)):AQ l:=fun n hn=>by
 have h1:=XO h _ (RX.2 ⟨n,hn,rfl⟩)
 have h2:Nu (.int .u8 n)=true:=h1.1
 simp[Nu,Lit.wf,isByte,IntKind.min,IntKind.max,IntKind.bits,IntKind.signed] at h2 ⊢
 omega
theorem Io:∀ (a b:List Cl),TN (a++b)→TN a∧TN b
 | [],b,h=>⟨trivial,h⟩
 | c::a,b,h=>⟨⟨h.1,(Io a b h.2).1⟩,(Io a b h.2).2⟩
theorem SI {w:DWorld} {k:Nat} (h:TN w.c) (hk:k<w.b.length):AQ w.b[k].g:=by
 rw[DWorld.c_eq] at h
 have h1:=(Io _ _ (Io _ _ (Io _ _ (Io _ _ (Io _ _ (Io _ _ h).2).2).2).2).2).1.1
 simp only[oU] at h1
 have h2:=XO h1.2 _ (RX.2 ⟨w.b[k],aj hk,rfl⟩)
 rw[DBuf.c_eq] at h2
 have h3:=(Io _ _ (Io _ _ (Io _ _ h2).2).2).2.1
 simp only[oU] at h3
 exact Jg h3.2
theorem gV {w:DWorld} (hf:AU w) {k:Nat} (hk:k<w.b.length):FY w.b[k].c0∧w.b[k].g.length≤1048576:=by
 rw[BH] at hf
 have:=hf.2.2.1.2 _ (aj hk)
 rw[Gp] at this
 exact this
theorem v_ (x:Option (List DRow)):(VN x).map jS = [.val (.c (.sl ((x.getD []).map DRow.c))),.val (.c (.v (.bool (x.isSome))))]:=by
 cases x with
 | none=>rfl
 | some l =>
  simp only[VN,V3,cZ,jS,KL]
  rfl
theorem Xi (cs:List Int) (b:List Int) (hb:AQ b) (hl:b.length≤1048576):Ctr prog 203 [.c (.sl (cs.map intC)),.c (.sl (b.map byteC))] [.val (.c (.sl (((CU cs b).getD []).map DRow.c))),.val (.c (.v (.bool ((CU cs b).isSome))))]:=by
 rw[← v_]; exact(Xh cs b hb hl).frz
theorem RD (cs:List Int) (b:List Int) (hb:AQ b) (hl:b.length≤1048576):Ctr prog 212 [.c (.sl (cs.map intC)),.c (.sl (b.map byteC))] [.val (.c (.sl (((CU cs b).getD []).map DRow.c))),.val (.c (.v (.bool ((CU cs b).isSome))))]:=by
 rw[← v_]; exact(Y8 cs b hb hl).frz
theorem QB (w:DWorld) (r:DRef) {k:Nat} (hf:AU w) (hk:k<w.b.length) (hb:r.buf=(k:Int)):Ctr prog 151 [.agg w.c,.agg r.c] [.val (.c (.sl ((Eo w r).map DRow.c)))]:=by
 refine CM call151 func151 ntmps151 results151 fun hw=>?_
 have hbo:=SI hw.1 hk
 have hg:Eo w r=(CU w.c0.cols w.b[k].g).getD []:=by simp only[Eo,Qm,hb]; simp[hk]
 simp only[go_sem,hb]
 refine DrawK.mk ?_
 simp only[go_sem,AA _ hk]
 refine CallF.mk _ (Xi w.c0.cols w.b[k].g hbo (gV hf hk).2) ?_
 simp only[go_sem,hg]
theorem J4 (w:DWorld) (r:DRef) (hf:AU w):Ctr prog 168 [.agg w.c,.agg r.c] [.val (.c (.sl ((if(r.kind==2&&there w r)=true then Eo w r else []).map DRow.c)))]:=by
 refine CM call168 func168 ntmps168 results168 fun hw=>?_
 rcases h1:r.kind != 2 with _ | _
 ·have hk1:(r.kind==2)=true:=by simpa using h1
  simp only[go_sem,h1,hk1,ai]
  try refine DrawK.mk ?_
  try simp only[go_sem,h1]
  first | refine CY (Fj w r) ?_ | refine CW (Fj w r) fun _=>?_
  rcases h2:there w r with _ | _
  ·simp only[go_sem]
  ·obtain⟨k,hk,hb,hat⟩ | ⟨hb,hat⟩:=E5 w r.buf
   ·have hbo:=SI hw.1 hk
    have hg:Eo w r=(CU w.c0.cols w.b[k].g).getD []:=by simp only[Eo,hat]
    simp only[go_sem,hb]
    try refine DrawK.mk ?_
    try simp only[go_sem,AA _ hk]
    first | refine CallF.mk _ (RD w.c0.cols w.b[k].g hbo (gV hf hk).2) ?_ | refine CallK.mk _ (RD w.c0.cols w.b[k].g hbo (gV hf hk).2) fun _=>?_
    simp only[go_sem,hg]
   ·simp only[there,hat] at h2
    cases h2
 ·have hk1:(r.kind==2)=false:=by simpa using h1
  simp only[go_sem,h1,hk1,ag]
  try refine DrawK.mk ?_
  try simp only[go_sem,h1,hk1]
  trace_state
def AGC (z:DVal×DVal):List Cl:=z.1.c++z.2.c
@[go_sem] theorem AGD (z:DVal×DVal):AGC z=z.1.c++z.2.c:=rfl
end Go.Proofs.YtnchiiikacemmaaGreat
