/- Walks: groups read, the specification. -/
import Derived.Test.YthoeeoddgkjkkaaGreatYr
namespace Go.Proofs.YthoeeoddgkjkkaaGreat
set_option linter.unusedSimpArgs false
set_option linter.unusedVariables false
open Go.Vm
set_option maxHeartbeats 2000000
set_option maxRecDepth 10000
noncomputable def qG (cs b ids:List Int) (x:Option (List (List DVal)×Nat)):Option (List DRow):=match x with
 | none=>none
 | some (c,q)=>if q=b.length∧CG cs (rowsOf ids c)=true then some (rowsOf ids c) else none
theorem Qj (cs b ids:List Int):qG cs b ids none=none:=rfl
theorem S_ {cs b ids:List Int} {c:List (List DVal)} {p:Nat} (h:¬ (p=b.length∧CG cs (rowsOf ids c)=true)):qG cs b ids (some (c,p))=none:=if_neg h
theorem aH {cs b ids:List Int} {c:List (List DVal)} {p:Nat} (h:p=b.length∧CG cs (rowsOf ids c)=true):qG cs b ids (some (c,p))=some (rowsOf ids c):=if_pos h
def qH (ids:List Int) (c:List (List DVal)) (l:List DVal) (x:Nat):List Ob:=if x<ids.length then
  [⟨121,2,[],true,true⟩,⟨3,1,ids.map intC,true,true⟩,⟨121,2,((EY ids c l x).map DRow.o).set x [.v (.int .i64 (Ho ids c x).id),.ref 3],true,true⟩,⟨72,3,(Ho ids c x).l.map DVal.c,true,true⟩]
 else [⟨121,2,[],true,true⟩,⟨3,1,ids.map intC,true,true⟩,⟨121,2,(EY ids c l x).map DRow.o,true,true⟩]
theorem iE {ids:List Int} {c:List (List DVal)} {l:List DVal} {x:Nat} (h:x<ids.length):qH ids c l x = [⟨121,2,[],true,true⟩,⟨3,1,ids.map intC,true,true⟩,⟨121,2,((EY ids c l x).map DRow.o).set x [.v (.int .i64 (Ho ids c x).id),.ref 3],true,true⟩,⟨72,3,(Ho ids c x).l.map DVal.c,true,true⟩]:=if_pos h
theorem iF {ids:List Int} {c:List (List DVal)} {l:List DVal} {x:Nat} (h:¬ x<ids.length):qH ids c l x = [⟨121,2,[],true,true⟩,⟨3,1,ids.map intC,true,true⟩,⟨121,2,(EY ids c l x).map DRow.o,true,true⟩]:=if_neg h
theorem WA {n:Nat} {env:List (Nat×AV)} (ids:List Int) (c:List (List DVal)) (l:List DVal) (x:Nat) :
  Head ⟨n,env,[⟨121,2,[],true,true⟩,⟨3,1,ids.map intC,true,true⟩,⟨121,2,(EY ids c l x).map DRow.o,true,true⟩]⟩ ⟨n,env,qH ids c l x⟩:=by
 by_cases h:x<ids.length
 ·rw[iE h]
  exact Head.open' (s:=⟨n,env,[⟨121,2,[],true,true⟩,⟨3,1,ids.map intC,true,true⟩,⟨121,2,(EY ids c l x).map DRow.o,true,true⟩]⟩) 2 x 1 (ob:=⟨121,2,(EY ids c l x).map DRow.o,true,true⟩) (row:=DRow.o (Ho ids c x)) rfl rfl
   (by simp only[List.getElem?_map,aB h,Option.map_some]) rfl rfl
 ·rw[iF h]
  exact⟨rfl,fun _ _ St β _ _ h=>⟨St,β,h⟩⟩
theorem ADb {N:Nat} {a b c:Ob} (ha:Bh N a=true) (hb:Bh N b=true) (hc:Bh N c=true) : [a,b,c].all (Bh N)=true:=by simp[ha,hb,hc]
theorem Uw (cs:List Int) (b:List Int) (hb:AY b) (hl:b.length≤1048576):Ctr Tryz.prog 100 [.c (.sl (cs.map intC)),.c (.sl (b.map byteC))] (QA (CU cs b)):=by
 refine Ctr.mk Tryz.call100 Tryz.func100 rfl mixed Tryz.ntmps100 Tryz.results100 (by kernel_rfl) rfl fun hw=>?_
 simp only[go_sem]
 have hg:=VE b 0 hb hl
 rcases h1:Du b 0 with _ | ⟨ids,q⟩<;>rw[h1] at hg<;>simp only[SB] at hg
 ·have e:CU cs b=none:=by simp only[CU,h1]
  rw[e]
  refine CallK.mk _ hg fun _=>?_
  simp only[go_sem,QA]
  try simp[AU,AC,CY]
 refine CallK.mk _ hg fun _=>?_
 obtain⟨n1,n2,n3⟩:=OV hb h1
 simp only[go_sem]
 refine CallK.mk _ (TM _) fun _=>?_
 rcases hc:FI cs with _ | _
 ·have e:CU cs b=none:=by simp only[CU,h1,hc]; rfl
  rw[e]
  simp only[go_sem,hc,QA]
  try simp[AU,AC,CY]
 rcases h12:decide ((ids.length:Int)>12) with _ | _
 rotate_left
 ·have e:CU cs b=none:=by simp only[CU,h1]; exact if_neg fun q=>by simp at h12; omega
  rw[e]
  simp only[go_sem,hc,h12,QA]
  try simp[AU,AC,CY]
 have h12':ids.length≤12:=by simp at h12; omega
 have hcs3:cs.length≤3:=by
  simp only[FI,Bool.and_eq_true] at hc
  have:=hc.2
  simp[BQ] at this; omega
 have hall:CU cs b=qG cs b ids (EE b cs ids q):=by
  simp only[CU,h1]; exact if_pos ⟨hc,h12'⟩
 rw[hall]
 simp only[go_sem,hc,h12]
 refine LoopH.mk [39] (A:=Nat) (fun x=>[(11,.c (.v (.int .i64 (x)))),(10,.c (.ref 2))]) (fun x=>[⟨121,2,[],true,true⟩,⟨3,1,ids.map intC,true,true⟩,⟨121,2,((ids.take x).map fun n=>(⟨n,[]⟩:DRow)).map DRow.o,true,true⟩]) (fun x=>x≤ids.length) (fun x=>ids.length-x) 0 (Head.sel [(0,false),(1,false),(2,false)] ⟨rfl,rfl,rfl,Eh _,rfl,trivial⟩ rfl) (Nat.zero_le _) ?_
 rintro i hi
 simp only[go_sem]
 refine cndC.mk (fun h=>?_) (fun h=>?_)
 ·have hi':i<ids.length:=by simp at h; omega
  have hl2:i+1≤2147483648:=by omega
  simp only[go_sem,AA _ hi',hi',hl2,List.length_take,Nat.min_eq_left hi,wrap_i64 (n:=(i:Int)+1) (by omega) (by omega)]
  have hnr:CY [[Cl.v (.int .i64 ids[i]),Cl.v (.slice none 0 0)]]=true:=rfl
  simp only[go_sem,hnr,AA _ hi',hi',hl2,List.length_take,Nat.min_eq_left hi,wrap_i64 (n:=(i:Int)+1) (by omega) (by omega)]
  have hlen:(((ids.take i).map fun n=>(⟨n,[]⟩:DRow)).map DRow.o).length=i:=by simp; omega
  refine⟨i+1,Head.trans (Head.nilI' 4 i 1 72 3 _ [.v (.int .i64 ids[i]),.v (.slice none 0 0)] (zs:=((ids.take i).map fun n=>(⟨n,[]⟩:DRow)).map DRow.o ++ [[.v (.int .i64 ids[i]),.ref 5]]) rfl ?row rfl ?set) (Head.selAbs [(0,false),(1,false),(4,true),(5,false)] 3 2 ⟨rfl,rfl,rfl,Eh _,I4 DRow.o_nr _ _ rfl,rfl,trivial⟩
   ⟨i,((ids.take i).map fun n=>(⟨n,[]⟩:DRow)).map DRow.o ++ [DRow.o ⟨ids[i],[]⟩],[.v (.int .i64 ids[i]),.ref 3],DRow.o ⟨ids[i],[]⟩,_,⟨Nat.lt_succ_self 2,rfl, ?rn,by simp; omega,rfl⟩,
    ⟨rfl,rfl,rfl,rfl,rfl,rfl,rfl,by simp[GI],fun l hl=>by simp[GI] at hl; omega⟩,⟨rfl, ?tr⟩, ?eq⟩),hi',by omega⟩
  case row=>simp only; rw[List.getElem?_append_right (by omega),hlen]; simp
  case set=>simp only; rw[List.set_append_right _ _ (by omega),hlen]; simp
  case rn =>
   have:=Iz DRow.o_nr [(0,false),(1,false),(4,true),(5,false)] ((ids.take i).map fun n=>(⟨n,[]⟩:DRow)) [.v (.int .i64 ids[i]),.ref 5] (DRow.o ⟨ids[i],[]⟩)
   rw[show ((ids.take i).map fun n=>(⟨n,[]⟩:DRow)).length=i by simp; omega] at this
   exact this
  case tr =>
   unfold BN
   have:=CE (f:=DRow.o) ((ids.take i).map fun n=>(⟨n,[]⟩:DRow)) ⟨ids[i],[]⟩
   rw[show ((ids.take i).map fun n=>(⟨n,[]⟩:DRow)).length=i by simp; omega] at this
   rw[this]
   exact ADb rfl (Ad (Bj _)) (Ad (AX _))
  case eq =>
   unfold BN
   have:=CE (f:=DRow.o) ((ids.take i).map fun n=>(⟨n,[]⟩:DRow)) ⟨ids[i],[]⟩
   rw[show ((ids.take i).map fun n=>(⟨n,[]⟩:DRow)).length=i by simp; omega] at this
   rw[this,Hm (fun n=>(⟨n,[]⟩:DRow)) hi']
   rfl
 ·have hi':i=ids.length:=by simp at h; omega
  subst hi'
  simp only[go_sem,List.take_length]
  have e0:(ids.map fun n=>(⟨n,[]⟩:DRow))=rowsOf ids []:=(Ur ids).symm
  rw[e0]
  refine LoopH.mk [] (A:=Nat×Nat×List (List DVal)) (fun x=>[(12,.c (.v (.int .i64 (x.1)))),(8,.c (.v (.int .i64 ((x.2.1:Int)))))]) (fun x=>[⟨121,2,[],true,true⟩,⟨3,1,ids.map intC,true,true⟩,⟨121,2,(rowsOf ids x.2.2).map DRow.o,true,true⟩]) (fun x=>x.1≤cs.length∧x.2.2.length=x.1∧((∀ c∈x.2.2,c.length=ids.length)∧(∀ c∈x.2.2,∀ v∈c,v.s.size≤6))∧x.2.1≤b.length∧(ids = []→x=(0,q,[]))∧(ids≠ []→(EZ b ids.length (cs.drop x.1) x.2.1).map (fun y=>(x.2.2++y.1,y.2))=EZ b ids.length cs q)) (fun x=>cs.length-x.1) (0,q,[]) (Head.sel [(0,false),(1,false),(2,true)] ⟨rfl,rfl,rfl,Eh _,Ef (AX _),trivial⟩ ?h0) ⟨Nat.zero_le _,rfl,⟨by simp,by simp⟩,n1,fun _=>rfl,fun _=>by simp⟩ ?_
  case h0 =>
   show (⟨139,_,[_,_,⟨121,2,((rowsOf ids []).map DRow.o).map (fun x=>x.map (NQ [(0,false),(1,false),(2,true)])),true,true⟩]⟩:MS)=_
   rw[Ee (AX _)]; rfl
  rintro⟨k,p,c⟩ ⟨hk,hck,⟨hcl,hsz⟩,hpb,hemp,hne⟩
  dsimp only at hk hck hcl hsz hpb hemp hne
  simp only[go_sem]
  rcases hk1:decide ((k:Int)<(cs.length:Int)) with _ | _
  ·have hk':k=cs.length:=by simp at hk1; omega
   have hgc:EE b cs ids q=some (c,p):=by
    by_cases hids:ids = []
    ·have hx:=hemp hids
     simp only[Prod.mk.injEq] at hx
     obtain⟨_,hp0,hc0⟩:=hx
     rw[hc0,hp0]; exact if_pos hids
    ·have hne:=hne hids
     rw[hk',List.drop_length,EZ] at hne
     simp only[Option.map_some,List.append_nil] at hne
     rw[hne]; exact if_neg hids
   rw[hgc]
   rcases hpl:((p:Int) != (b.length:Int)) with _ | _
   rotate_left
   ·have hno:¬ (p=b.length∧CG cs (rowsOf ids c)=true):=fun q=>by simp at hpl; omega
    rw[S_ hno]
    simp only[go_sem,hk1,hpl,QA]
    try simp[AU,AC,CY]
   simp only[go_sem,hk1,hpl]
   refine BorK.mk (args:=[.c (.sl (cs.map intC)),.c (.sl ((rowsOf ids c).map DRow.c))]) _ (by simp only[Bg,D9,go_sem]) rfl (P6 cs (rowsOf ids c) (by rw[CP]; omega)) fun _=>?_
   rcases hok:CG cs (rowsOf ids c) with _ | _
   ·have hno:¬ (p=b.length∧CG cs (rowsOf ids c)=true):=fun q=>by rw[hok] at q; cases q.2
    rw[S_ hno]
    simp only[go_sem,hok,QA]
    try simp[AU,AC,CY]
   ·have hyes:p=b.length∧CG cs (rowsOf ids c)=true:=⟨by simp at hpl; omega,hok⟩
    rw[aH hyes]
    simp only[go_sem,hok,QA,AX]
    try simp[AU,AC]
  have hk':k<cs.length:=by simpa using hk1
  rcases hi0:decide ((ids.length:Int)>0) with _ | _
  ·have hids:ids = []:=by
    apply List.eq_nil_of_length_eq_zero
    simp at hi0; simp[hi0]
   have hx:=hemp hids
   simp only[Prod.mk.injEq] at hx
   obtain⟨_,hp0,hc0⟩:=hx
   have hgc:EE b cs ids q=some (c,p):=by rw[hc0,hp0]; exact if_pos hids
   rw[hgc]
   rcases hpl:((p:Int) != (b.length:Int)) with _ | _
   rotate_left
   ·have hno:¬ (p=b.length∧CG cs (rowsOf ids c)=true):=fun q=>by simp at hpl; omega
    rw[S_ hno]
    simp only[go_sem,hk1,hi0,hpl,QA]
    try simp[AU,AC,CY]
   simp only[go_sem,hk1,hi0,hpl]
   refine BorK.mk (args:=[.c (.sl (cs.map intC)),.c (.sl ((rowsOf ids c).map DRow.c))]) _ (by simp only[Bg,D9,go_sem]) rfl (P6 cs (rowsOf ids c) (by rw[CP]; omega)) fun _=>?_
   rcases hok:CG cs (rowsOf ids c) with _ | _
   ·have hno:¬ (p=b.length∧CG cs (rowsOf ids c)=true):=fun q=>by rw[hok] at q; cases q.2
    rw[S_ hno]
    simp only[go_sem,hok,QA]
    try simp[AU,AC,CY]
   ·have hyes:p=b.length∧CG cs (rowsOf ids c)=true:=⟨by simp at hpl; omega,hok⟩
    rw[aH hyes]
    simp only[go_sem,hok,QA,AX]
    try simp[AU,AC]
  have hids:ids≠ []:=by rintro rfl; simp at hi0
  have hn0:0<ids.length:=List.length_pos_iff.2 hids
  have hne:=hne hids
  have hgc:EE b cs ids q=EZ b ids.length cs q:=if_neg hids
  rw[hgc]
  rw[KY hk',EZ] at hne
  simp only[go_sem,hk1,hi0]
  have hg2:=EM b p hb hl
  rcases h3:A8 b p with _ | ⟨m,p2⟩<;>rw[h3] at hg2 hne<;>simp only[Pi] at hg2
  ·refine CallK.mk _ hg2 fun _=>?_
   simp only[Option.map_none] at hne
   rw[← hne,Qj]
   simp only[go_sem,QA]
   try simp[AU,AC,CY]
  refine CallK.mk _ hg2 fun _=>?_
  dsimp only at hne
  obtain⟨_,z2,z3,z4,z5,_⟩:=FH hb h3
  have hw1:IntKind.i64.wrap ((b.length:Int)-(p2:Int))=(b.length:Int)-(p2:Int):=wrap_i64 (by omega) (by omega)
  simp only[go_sem,hw1]
  refine CallK.mk _ (Am _ _ _) fun _=>?_
  rcases h4:BQ m 0 ((b.length:Int)-(p2:Int)) with _ | _
  ·rw[if_neg (by simp[BQ] at h4; omega)] at hne
   simp only[Option.map_none] at hne
   rw[← hne,Qj]
   simp only[go_sem,h4,QA]
   try simp[AU,AC,CY]
  have h4':0≤m∧m≤(b.length:Int)-(p2:Int):=by simp[BQ] at h4; omega
  rw[if_pos h4'] at hne
  obtain⟨M,rfl⟩:=Int.eq_ofNat_of_zero_le h4'.1
  rw[Int.toNat_natCast] at hne
  have q1:=FQ (k:=.i64) (n:=(p2:Int)) (m:=p2) (by omega)
  have q2:=FQ (k:=.i64) (n:=(p2:Int)+(M:Int)) (m:=p2+M) (by omega)
  have q5:p2≤p2+M:=by omega
  have q6:p2+M≤b.length:=by omega
  have q7:p2+M-p2=M:=by omega
  have hbd:AY ((b.drop p2).take M):=Md hb _ _
  have hdc:=X_ ((b.drop p2).take M) cs[k] (ids.length:Int) hbd (by simp; omega)
  simp only[go_sem,h4]
  refine DrawK.mkE ?_
  simp only[go_sem,AA _ hk',q1,q2,q5,q6,q7,Ar,← List.map_drop,← List.map_take,wrap_i64 (n:=(p2:Int)+(M:Int)) (by omega) (by omega)]
  rcases h5:F8 ((b.drop p2).take M) cs[k] (ids.length:Int) with _ | l<;>rw[h5] at hdc hne<;>simp only[CJ] at hdc
  ·refine CallE.mk _ hdc ?_
   simp only[go_sem,AA _ hk',q1,q2,q5,q6,q7,Ar,← List.map_drop,← List.map_take,wrap_i64 (n:=(p2:Int)+(M:Int)) (by omega) (by omega)]
   simp only[Option.map_none] at hne
   rw[← hne,Qj]
   simp only[go_sem,QA]
   try simp[AU,AC,CY]
  refine CallE.mk _ hdc ?_
  simp only[go_sem,AA _ hk',q1,q2,q5,q6,q7,Ar,← List.map_drop,← List.map_take,wrap_i64 (n:=(p2:Int)+(M:Int)) (by omega) (by omega)]
  dsimp only at hne
  obtain⟨y1,y2,y3⟩:=QX hbd h5
  have hll:l.length=ids.length:=by omega
  refine LoopH.mk [] (A:=Nat) (fun x=>[(18,.c (.v (.int .i64 (x))))]) (fun x=>qH ids c l x) (fun x=>x≤ids.length) (fun x=>ids.length-x) 0 (Head.trans (Head.sel [(0,false),(1,false),(2,true)] ⟨rfl,rfl,rfl,Eh _,Ef (AX _),trivial⟩ (by
   show (⟨139,_,[_,_,⟨121,2,((rowsOf ids c).map DRow.o).map (fun x=>x.map (NQ [(0,false),(1,false),(2,true)])),true,true⟩]⟩:MS)=_
   rw[Ee (AX _),V8]; rfl)) (WA ids c l 0)) (Nat.zero_le _) ?_
  rintro x hx
  rcases Nat.lt_or_ge x ids.length with hx' | hx'
  ·have hdx:decide ((x:Int)<(ids.length:Int))=true:=by simpa using hx'
   have hxl:x<l.length:=by omega
   have hgl:(EY ids c l x).length=ids.length:=P7 hx
   have hrow:(((EY ids c l x).map DRow.o).set x [.v (.int .i64 (Ho ids c x).id),.ref 3])[x]?=some [.v (.int .i64 (Ho ids c x).id),.ref 3]:=by
    rw[List.getElem?_set]; simp[hgl,hx']
   rw[iE hx']
   simp only[go_sem,hdx,AA _ hxl,hgl,hx',hrow,List.length_set]
   have hal:(Ho ids c x).l.length+1≤2147483648:=by simp only[Ho,List.length_map]; omega
   refine DrawK.mkE ?_
   simp only[go_sem,AA _ hxl,hgl,hx',hrow,List.length_set,hal,wrap_i64 (n:=(x:Int)+1) (by omega) (by omega)]
   have hnx:(EY ids c l (x+1)).map DRow.o=((EY ids c l x).map DRow.o).set x (DRow.o (Ho ids (c ++ [l]) x)):=by rw[← aC hx',List.map_set]
   have hrs:DRow.o (Ho ids (c ++ [l]) x) = [.v (.int .i64 (Ho ids c x).id),.ow 72 3 ((Ho ids c x).l.map DVal.c ++ [l[x].c])]:=by rw[Z_ hxl,← EQ]; rfl
   have hR:((EY ids c l (x+1)).map DRow.o).set x [.v (.int .i64 (Ho ids c x).id),.ow 72 3 ((Ho ids c x).l.map DVal.c ++ [l[x].c])]=(EY ids c l (x+1)).map DRow.o:=by rw[hnx,List.set_set,hrs]
   refine⟨x+1,Head.trans (Head.selAbs [(0,false),(1,false),(2,true),(5,false)] 3 2 ⟨rfl,rfl,rfl,Eh _, ?inn,Ib _ _,trivial⟩
    ⟨x,(EY ids c l (x+1)).map DRow.o,[.v (.int .i64 (Ho ids c x).id),.ref 3],[.v (.int .i64 (Ho ids c x).id),.ow 72 3 ((Ho ids c x).l.map DVal.c ++ [l[x].c])],_,⟨Nat.lt_succ_self 2,rfl, ?rn, ?len,rfl⟩,
     ⟨rfl,rfl,rfl,rfl,rfl,rfl, ?nr,by simp[GI],fun l hl=>by simp[GI] at hl; omega⟩,⟨rfl, ?tr⟩, ?eq⟩) (WA ids c l (x+1)),hx',by omega⟩
   case inn =>
    show ((((EY ids c l x).map DRow.o).set x [.v (.int .i64 (Ho ids c x).id),.ref 3]).set x [.v (.int .i64 (Ho ids c x).id),.ref 5]).all (fun x=>x.all (fQ [(0,false),(1,false),(2,true),(5,false)]))=true
    rw[List.set_set]
    refine List.all_eq_true.2 fun y hy=>?_
    rcases List.mem_or_eq_of_mem_set hy with hy | rfl
    ·exact List.all_eq_true.1 (Ef (AX _)) y hy
    ·rfl
   case rn =>
    show ((((EY ids c l x).map DRow.o).set x [.v (.int .i64 (Ho ids c x).id),.ref 3]).set x [.v (.int .i64 (Ho ids c x).id),.ref 5]).map (fun x=>x.map (NQ [(0,false),(1,false),(2,true),(5,false)]))=_
    rw[List.set_set,List.map_set,Ee (AX _),hnx,List.set_set]
    rfl
   case len=>simp only[List.length_map]; rw[P7 (by omega)]; exact hx'
   case nr=>rw[← EQ]; exact Bl _
   case tr =>
    unfold BN
    rw[hR]
    exact ADb rfl (Ad (Bj _)) (Ad (AX _))
   case eq =>
    unfold BN
    rw[hR]
    rfl
  ·have hdx:decide ((x:Int)<(ids.length:Int))=false:=by simp; omega
   have hx':x=ids.length:=by omega
   rw[iF (by omega)]
   simp only[go_sem,hdx]
   subst hx'
   have hty:=V9 h5
   have hta:=Bv (l:=l) (by omega)
   simp only[go_sem,aA,wrap_i64 (n:=(k:Int)+1) (by omega) (by omega),wrap_i64 (n:=(p2:Int)+(M:Int)) (by omega) (by omega)]
   exact⟨(k+1,p2+M,c ++ [l]),Head.sel [(0,false),(1,false),(2,true)] ⟨rfl,rfl,rfl,Eh _,Ef (AX _),trivial⟩ (by
    show (⟨139,_,[_,_,⟨121,2,((rowsOf ids (c ++ [l])).map DRow.o).map (fun x=>x.map (NQ [(0,false),(1,false),(2,true)])),true,true⟩]⟩:MS)=_
    rw[Ee (AX _)]; rfl),⟨hk',by simp[hck],⟨fun y hy=>by
     rcases List.mem_append.1 hy with hy | hy
     ·exact hcl y hy
     ·rw[List.mem_singleton.1 hy]; exact hll,fun y hy v hv=>by
     rcases List.mem_append.1 hy with hy | hy
     ·exact hsz y hy v hv
     ·rw[List.mem_singleton.1 hy] at hv; exact Oe (hta.2.2 v hv).1⟩,q6,fun q=>absurd q hids,fun _=>by
    rw[← hne,Option.map_map]; congr 1; funext y; simp⟩,by simp only; omega⟩
end Go.Proofs.YthoeeoddgkjkkaaGreat
