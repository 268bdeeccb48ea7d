/- Walks: columns of runs. -/
import Derived.Test.YthoeeoddgkjkkaaGreatYj
namespace Go.Proofs.YthoeeoddgkjkkaaGreat
set_option linter.unusedSimpArgs false
set_option linter.unusedVariables false
open Go.Vm
set_option maxHeartbeats 2000000
set_option maxRecDepth 10000
theorem X4 (r:List (DVal×Int)) (hl:r.length≤1048576):Ctr Tryz.prog 203 [.c (.sl (r.map Dw))] [.val (.c (.sl ((spread r).map DVal.c)))]:=by
 refine Ctr.mk Tryz.call203 Tryz.func203 rfl mixed Tryz.ntmps203 Tryz.results203 (by kernel_rfl) rfl fun hw=>?_
 simp only[go_sem]
 refine LoopH.mk [6] (A:=Nat×List DVal) (fun x=>[(4,.c (.v (.int .i64 (x.1)))),(3,.c (.ref 0))]) (fun x=>[⟨72,3,x.2.map DVal.c,true,true⟩]) (fun x=>x.1≤r.length∧x.2.length≤64∧(FO (r.drop x.1) x.2.length).map (fun y=>x.2++y)=FO r 0) (fun x=>r.length-x.1) (0,[]) (Head.sel [(0,false)] ⟨rfl,rfl,rfl,trivial⟩ rfl) ⟨Nat.zero_le _,Nat.zero_le _,by simp⟩ ?_
 rintro⟨i,out⟩ ⟨hi,hll,hp⟩
 dsimp only at hi hll hp
 simp only[go_sem]
 refine cndC.mk (fun h=>?_) (fun h=>?_)
 ·have hi':i<r.length:=by simp at h; omega
  rw[KY hi',show r[i]=(r[i].1,r[i].2) from rfl,KX] at hp
  rcases h2:decide (r[i].2<1) with _ | _
  rotate_left
  ·rw[if_pos (.inl (by simpa using h2))] at hp
   simp only[Option.map_none] at hp
   have e:spread r = []:=by rw[spread,← hp]; rfl
   rw[e]
   simp only[go_sem,AA _ hi',Dw,h2,List.map_nil]
   try simp[CY]
  have h2':1≤r[i].2:=by simp at h2; omega
  have hw1:IntKind.i64.wrap (64-(out.length:Int))=64-(out.length:Int):=wrap_i64 (by omega) (by omega)
  rcases h3:decide (r[i].2>64-(out.length:Int)) with _ | _
  rotate_left
  ·rw[if_pos (.inr (by simpa using h3))] at hp
   simp only[Option.map_none] at hp
   have e:spread r = []:=by rw[spread,← hp]; rfl
   rw[e]
   simp only[go_sem,AA _ hi',Dw,h2,hw1,h3,List.map_nil]
   try simp[CY]
  have h3':r[i].2≤64-(out.length:Int):=by simp at h3; omega
  obtain⟨K,hK⟩:=Int.eq_ofNat_of_zero_le (show 0≤r[i].2 by omega)
  rw[if_neg (by omega),hK,Int.toNat_natCast] at hp
  rw[hK] at h2 h3 h2' h3'
  simp only[go_sem,AA _ hi',Dw,hK,h2,hw1,h3]
  refine LoopH.mk [25] (A:=Nat) (fun x=>[(5,.c (.v (.int .i64 (x)))),(3,.c (.ref 0))]) (fun x=>[⟨72,3,(out++List.replicate x r[i].1).map DVal.c,true,true⟩]) (fun x=>x≤K) (fun x=>K-x) 0 (Head.sel [(0,false)] ⟨rfl,rfl,KR _,trivial⟩ (by simp only[List.replicate_zero,List.append_nil]; rfl)) (Nat.zero_le _) ?_
  rintro j hj
  have hl2:out.length+j+1≤2147483648:=by omega
  simp only[go_sem,AA _ hi',Dw,hK]
  refine cndC.mk (fun h=>?_) (fun h=>?_)
  ·have hj':j<K:=by simp at h; omega
   simp only[go_sem,AA _ hi',Dw,hl2,List.length_replicate,wrap_i64 (n:=(j:Int)+1) (by omega) (by omega)]
   exact⟨j+1,Head.sel [(2,false)] ⟨rfl,rfl,nJ _ _ _,trivial⟩ (by rw[Zv]; rfl),hj',by omega⟩
  ·have hj':j=K:=by simp at h; omega
   subst hj'
   simp only[go_sem,Dw,wrap_i64 (n:=(i:Int)+1) (by omega) (by omega)]
   exact⟨(i+1,out++List.replicate j r[i].1),Head.sel [(0,false)] ⟨rfl,rfl,KR _,trivial⟩ rfl,⟨hi',by simp; omega,by
    rw[← hp,Option.map_map,List.length_append,List.length_replicate]; congr 1; funext y; simp⟩,by simp only; omega⟩
 ·have hi':i=r.length:=by simp at h; omega
  subst hi'
  rw[List.drop_length] at hp
  simp only[FO,Option.map_some,List.append_nil] at hp
  have e:spread r=out:=by rw[spread,← hp]; rfl
  rw[e]
  simp only[go_sem]
  try simp[AU,AC]
def Qg (r:DVal×Int):List Int:=Dh r.2++PU r.1
theorem OZ (l:List DVal) (h:typeOf l≠0):Dt l=Dh (runs l).length++((runs l).map Qg).flatten:=if_neg h
theorem V3 {α:Type} (f:α→List Int) {l:List α} {i:Nat} (h:i<l.length):((l.take (i+1)).map f).flatten=((l.take i).map f).flatten++f l[i]:=by
 rw[List.take_succ_eq_append_getElem h]
 simp only[List.map_append,List.flatten_append,List.map_cons,List.map_nil,List.flatten_cons,List.flatten_nil,List.append_nil]
theorem MF {α:Type} (f:α→List Int) (m:Nat):∀ (l:List α),(∀ x∈l,(f x).length≤m)→((l.map f).flatten).length≤m*l.length
 | [],_=>by simp
 | x::l,h=>by
  have h1:=h x (by simp)
  have h2:=MF f m l fun y hy=>h y (by simp[hy])
  simp only[List.map_cons,List.flatten_cons,List.length_append,List.length_cons,Nat.mul_add]
  omega
theorem Np (l:List DVal) (hl:l.length≤1048576):Ctr Tryz.prog 220 [.c (.sl (l.map DVal.c))] [.own 5 1 ((Dt l).map byteC) true]:=by
 refine Ctr.mk Tryz.call220 Tryz.func220 rfl mixed Tryz.ntmps220 Tryz.results220 (by kernel_rfl) rfl fun hw=>?_
 simp only[go_sem]
 refine CallK.mk _ (BP l hl) fun _=>?_
 rcases h1:typeOf l==0 with _ | _
 rotate_left
 ·have h1':typeOf l=0:=by simpa using h1
  have e:Dt l = []:=if_pos h1'
  rw[e]
  simp only[go_sem,h1]
  try simp[AU,AC,CY]
 have h1':typeOf l≠0:=by simpa using h1
 obtain⟨q1,q2,q3⟩:=Bv h1'
 rw[OZ l h1']
 simp only[go_sem,h1]
 refine CallK.mk _ (dY l hl) fun _=>?_
 simp only[go_sem]
 refine CallK.mk _ (EO [] ((runs l).length:Int) (by simp)) fun _=>?_
 have hrl:=Jw l
 have hq:=Ci ((runs l).length:Int)
 rw[G7 (by simp[C9,BQ]; omega),List.nil_append]
 simp only[go_sem]
 refine LoopH.mk [7,14,17] (A:=Nat) (fun x=>[(20,.c (.v (.int .i64 (x)))),(3,.c (.ref 0))]) (fun x=>[⟨5,1,(Dh (runs l).length++(((runs l).take x).map Qg).flatten).map byteC,true,true⟩]) (fun x=>x≤(runs l).length) (fun x=>(runs l).length-x) 0 (Head.sel [(1,false)] ⟨rfl,rfl,Df _,trivial⟩ (by simp only[List.take_zero,List.map_nil,List.flatten_nil,List.append_nil]; rfl)) (Nat.zero_le _) ?_
 rintro i hi
 simp only[go_sem]
 refine cndC.mk (fun h=>?_) (fun h=>?_)
 ·have hi':i<(runs l).length:=by simp at h; omega
  obtain⟨b1,b2,b3⟩:=IC (List.getElem_mem hi')
  have hv:=(q3 _ b1).1
  have hn:C9 (runs l)[i].2=true:=(CX _).2 ⟨by omega,by omega⟩
  have hfl:=MF Qg 12 ((runs l).take i) fun x hx=>by
   have hx':=IC (List.mem_of_mem_take hx)
   have h1:=Ci x.2
   have h2:=Pq (q3 _ hx'.1).1
   simp only[Qg,List.length_append]; omega
  rw[List.length_take] at hfl
  have hq2:=Ci (runs l)[i].2
  simp only[go_sem,AA _ hi',Dw]
  refine DrawK.mkE ?_
  simp only[go_sem,AA _ hi',Dw]
  refine CallE.mk _ (EO _ _ (by simp only[List.length_append]; omega)) ?_
  rw[G7 hn]
  simp only[go_sem,AA _ hi',Dw]
  refine CallE.mk _ (KT _ (runs l)[i].1 (by simp only[List.length_append]; omega)) ?_
  rw[NH hv]
  simp only[go_sem,AA _ hi',Dw,wrap_i64 (n:=(i:Int)+1) (by omega) (by omega)]
  exact⟨i+1,Head.sel [(3,false)] ⟨rfl,rfl,Df _,trivial⟩ (by rw[V3 Qg hi',Qg]; simp only[List.append_assoc]; rfl),hi',by omega⟩
 ·have hi':i=(runs l).length:=by simp at h; omega
  subst hi'
  simp only[go_sem,List.take_length]
  try simp[AU,AC]
theorem Nq (l:List DVal) (hl:l.length≤1048576):Ctr Tryz.prog 204 [.c (.sl (l.map DVal.c))] [.own 5 1 ((Dt l).map byteC) true]:=by
 refine Ctr.mk Tryz.call204 Tryz.func204 rfl mixed Tryz.ntmps204 Tryz.results204 (by kernel_rfl) rfl fun hw=>?_
 simp only[go_sem]
 refine CallK.mk _ (DU l hl) fun _=>?_
 rcases h1:typeOf l==0 with _ | _
 rotate_left
 ·have h1':typeOf l=0:=by simpa using h1
  have e:Dt l = []:=if_pos h1'
  rw[e]
  simp only[go_sem,h1]
  try simp[AU,AC,CY]
 have h1':typeOf l≠0:=by simpa using h1
 obtain⟨q1,q2,q3⟩:=Bv h1'
 rw[OZ l h1']
 simp only[go_sem,h1]
 refine CallK.mk _ (dZ l hl) fun _=>?_
 simp only[go_sem]
 refine CallK.mk _ (G6 [] ((runs l).length:Int) (by simp)) fun _=>?_
 have hrl:=Jw l
 have hq:=Ci ((runs l).length:Int)
 rw[G7 (by simp[C9,BQ]; omega),List.nil_append]
 simp only[go_sem]
 refine LoopH.mk [12,15] (A:=Nat) (fun x=>[(5,.c (.v (.int .i64 (x)))),(4,.c (.ref 0))]) (fun x=>[⟨5,1,(Dh (runs l).length++(((runs l).take x).map Qg).flatten).map byteC,true,true⟩]) (fun x=>x≤(runs l).length) (fun x=>(runs l).length-x) 0 (Head.sel [(1,false)] ⟨rfl,rfl,Df _,trivial⟩ (by simp only[List.take_zero,List.map_nil,List.flatten_nil,List.append_nil]; rfl)) (Nat.zero_le _) ?_
 rintro i hi
 simp only[go_sem]
 refine cndC.mk (fun h=>?_) (fun h=>?_)
 ·have hi':i<(runs l).length:=by simp at h; omega
  obtain⟨b1,b2,b3⟩:=IC (List.getElem_mem hi')
  have hv:=(q3 _ b1).1
  have hn:C9 (runs l)[i].2=true:=(CX _).2 ⟨by omega,by omega⟩
  have hfl:=MF Qg 12 ((runs l).take i) fun x hx=>by
   have hx':=IC (List.mem_of_mem_take hx)
   have h1:=Ci x.2
   have h2:=Pq (q3 _ hx'.1).1
   simp only[Qg,List.length_append]; omega
  rw[List.length_take] at hfl
  have hq2:=Ci (runs l)[i].2
  simp only[go_sem,AA _ hi',Dw]
  refine DrawK.mkE ?_
  simp only[go_sem,AA _ hi',Dw]
  refine CallE.mk _ (G6 _ _ (by simp only[List.length_append]; omega)) ?_
  rw[G7 hn]
  simp only[go_sem,AA _ hi',Dw]
  refine CallE.mk _ (KU _ (runs l)[i].1 (by simp only[List.length_append]; omega)) ?_
  rw[NH hv]
  simp only[go_sem,AA _ hi',Dw,wrap_i64 (n:=(i:Int)+1) (by omega) (by omega)]
  exact⟨i+1,Head.sel [(2,false)] ⟨rfl,rfl,Df _,trivial⟩ (by rw[V3 Qg hi',Qg]; simp only[List.append_assoc]; rfl),hi',by omega⟩
 ·have hi':i=(runs l).length:=by simp at h; omega
  subst hi'
  simp only[go_sem,List.take_length]
  try simp[AU,AC]
theorem Rk:∀ {r:List (DVal×Int)} {n:Nat} {l:List DVal},n≤64→FO r n=some l→n+l.length≤64
 | [],n,l,hn,h=>by
  simp only[FO,Option.some.injEq] at h
  subst h; simpa using hn
 | (v,k)::r,n,l,hn,h=>by
  rw[KX] at h
  split at h
  ·cases h
  ·rename_i hk
   cases h2:FO r (n+k.toNat) with
   | none=>rw[h2] at h; cases h
   | some l' =>
    rw[h2] at h
    simp only[Option.map_some,Option.some.injEq] at h
    subst h
    have:=Rk (by omega) h2
    simp only[List.length_append,List.length_replicate]; omega
theorem Uh (r:List (DVal×Int)):(spread r).length≤64:=by
 unfold spread
 cases h:FO r 0 with
 | none=>simp
 | some l =>
  have:=Rk (Nat.zero_le _) h
  simpa using this
theorem X5 (rs:List (DVal×Int)) (v:DVal) (m:Int):(rs ++ [(v,m)]).map Dw=rs.map Dw ++ [[.v (.int .i64 v.ty),.v (.int .i64 v.n),.v (.string v.s),.v (.int .i64 m)]]:=by simp[Dw]
theorem sO (rs:List (DVal×Int)) (v:DVal) (m:Int):E5 (rs.map Dw ++ [[.v (.int .i64 v.ty),.v (.int .i64 v.n),.v (.string v.s),.v (.int .i64 m)]])=true:=by rw[← X5]; exact Hg _
theorem VJ (b:List Int) (ty k:Int) (hb:AY b) (hl:b.length≤1048576):Ctr Tryz.prog 188 [.c (.sl (b.map byteC)),.c (.v (.int .i64 (ty))),.c (.v (.int .i64 (k)))] (CJ (DI b ty k)):=by
 refine Ctr.mk Tryz.call188 Tryz.func188 rfl mixed Tryz.ntmps188 Tryz.results188 (by kernel_rfl) rfl fun hw=>?_
 simp only[go_sem]
 have hg:=EN b 0 hb hl
 rcases h1:A8 b 0 with _ | ⟨n,q⟩<;>rw[h1] at hg<;>simp only[Pi] at hg
 ·have e:DI b ty k=none:=by simp only[DI,h1]
  rw[e]
  refine CallK.mk _ hg fun _=>?_
  simp only[go_sem,CJ]
 refine CallK.mk _ hg fun _=>?_
 simp only[go_sem]
 refine CallK.mk _ (BK _ _ _) fun _=>?_
 rcases h2:BQ n 1 64 with _ | _
 ·have e:DI b ty k=none:=by simp only[DI,h1]; exact if_neg (by simp[BQ] at h2; omega)
  rw[e]
  simp only[go_sem,h2,CJ]
 have h2':1≤n∧n≤64:=by simp[BQ] at h2; omega
 have hall:DI b ty k=match GN b ty n.toNat q with
   | none=>none
   | some r=>again b k (spread r) (Dt (spread r)):=by simp only[DI,h1]; exact if_pos h2'
 simp only[go_sem,h2]
 obtain⟨N,rfl⟩:=Int.eq_ofNat_of_zero_le (show 0≤n by omega)
 rw[Int.toNat_natCast] at hall
 refine LoopH.mk [32] (A:=Nat×Nat×List (DVal×Int)) (fun x=>[(12,.c (.v (.int .i64 (x.1)))),(11,.c (.ref 0)),(9,.c (.v (.int .i64 ((x.2.1:Int)))))]) (fun x=>[⟨248,4,x.2.2.map Dw,true,true⟩]) (fun x=>x.1≤N∧x.2.2.length=x.1∧(GN b ty (N-x.1) x.2.1).map (fun y=>x.2.2++y)=GN b ty N q) (fun x=>N-x.1) (0,q,[]) (Head.sel [(0,false)] ⟨rfl,rfl,rfl,trivial⟩ rfl) ⟨Nat.zero_le _,rfl,by simp⟩ ?_
 rintro⟨i,p,r⟩ ⟨hi,hll,hp⟩
 dsimp only at hi hll hp
 simp only[go_sem]
 refine cndC.mk (fun h=>?_) (fun h=>?_)
 ·have hi':i<N:=by simp at h; omega
  rw[show N-i=(N-(i+1))+1 by omega,GN] at hp
  have hg2:=EN b p hb hl
  simp only[go_sem]
  rcases h3:A8 b p with _ | ⟨m,p2⟩<;>rw[h3] at hg2 hp<;>simp only[Pi] at hg2
  ·refine CallK.mk _ hg2 fun _=>?_
   simp only[Option.map_none] at hp
   rw[hall,← hp]
   simp only[go_sem,CJ]
  refine CallK.mk _ hg2 fun _=>?_
  have hg3:=Po b p2 ty hb hl
  simp only[go_sem]
  rcases h4:D6 b p2 ty with _ | ⟨v,p3⟩<;>rw[h4] at hg3<;>simp only[h4] at hp<;>simp only[Ua] at hg3
  ·refine CallK.mk _ hg3 fun _=>?_
   simp only[Option.map_none] at hp
   rw[hall,← hp]
   simp only[go_sem,CJ]
  refine CallK.mk _ hg3 fun _=>?_
  have hl2:r.length+1≤2147483648:=by omega
  simp only[go_sem,hl2,wrap_i64 (n:=(i:Int)+1) (by omega) (by omega)]
  exact⟨(i+1,p3,r ++ [(v,m)]),Head.sel [(3,false)] ⟨rfl,rfl,sO _ _ _,trivial⟩ (by rw[X5]; rfl),⟨hi',by simp; omega,by rw[← hp,Option.map_map]; congr 1; funext y; simp⟩,by simp only; omega⟩
 ·have hi':i=N:=by simp at h; omega
  subst hi'
  rw[Nat.sub_self,GN] at hp
  simp only[Option.map_some,List.append_nil] at hp
  rw[hall,← hp]
  simp only[go_sem,Hg]
  refine CallK.mk _ (Xv r (by omega)) fun _=>?_
  simp only[go_sem]
  have hsl:(spread r).length≤1048576:=by have:=Uh r; omega
  refine CallK.mk _ (Np (spread r) hsl) fun _=>?_
  simp only[go_sem]
  refine CallK.mk _ (BL b k (spread r) (Dt (spread r))) fun _=>?_
  rcases h4:again b k (spread r) (Dt (spread r)) with _ | l'<;>simp only[go_sem,CJ]
theorem VK (b:List Int) (ty k:Int) (hb:AY b) (hl:b.length≤1048576):Ctr Tryz.prog 177 [.c (.sl (b.map byteC)),.c (.v (.int .i64 (ty))),.c (.v (.int .i64 (k)))] (CJ (DI b ty k)):=by
 refine Ctr.mk Tryz.call177 Tryz.func177 rfl mixed Tryz.ntmps177 Tryz.results177 (by kernel_rfl) rfl fun hw=>?_
 simp only[go_sem]
 have hg:=EM b 0 hb hl
 rcases h1:A8 b 0 with _ | ⟨n,q⟩<;>rw[h1] at hg<;>simp only[Pi] at hg
 ·have e:DI b ty k=none:=by simp only[DI,h1]
  rw[e]
  refine CallK.mk _ hg fun _=>?_
  simp only[go_sem,CJ]
  try simp[CY]
 refine CallK.mk _ hg fun _=>?_
 simp only[go_sem]
 refine CallK.mk _ (Am _ _ _) fun _=>?_
 have hkn:¬ (1≤k∧k≤64)→DI b ty k=none:=fun hk=>by
  simp only[DI,h1]
  split
  ·split
   ·rfl
   ·exact if_neg fun q=>hk ⟨q.1,q.2.1⟩
  ·rfl
 rcases h2:BQ k 1 64 with _ | _
 ·rw[hkn (by simp[BQ] at h2; omega)]
  simp only[go_sem,h2,CJ]
  try simp[CY]
 simp only[go_sem,h2]
 refine CallK.mk _ (Am _ _ _) fun _=>?_
 have hk:1≤k∧k≤64:=by simp[BQ] at h2; omega
 rcases h3:BQ n 1 64 with _ | _
 ·have e:DI b ty k=none:=by simp only[DI,h1]; exact if_neg (by simp[BQ] at h3; omega)
  rw[e]
  simp only[go_sem,h3,CJ]
  try simp[CY]
 have h3':1≤n∧n≤64:=by simp[BQ] at h3; omega
 have hall:DI b ty k=match GN b ty n.toNat q with
   | none=>none
   | some r=>again b k (spread r) (Dt (spread r)):=by simp only[DI,h1]; exact if_pos h3'
 simp only[go_sem,h3]
 obtain⟨N,rfl⟩:=Int.eq_ofNat_of_zero_le (show 0≤n by omega)
 rw[Int.toNat_natCast] at hall
 refine LoopH.mk [41] (A:=Nat×Nat×List (DVal×Int)) (fun x=>[(13,.c (.v (.int .i64 (x.1)))),(12,.c (.ref 1)),(10,.c (.v (.int .i64 ((x.2.1:Int)))))]) (fun x=>[⟨72,3,[],true,true⟩,⟨248,4,x.2.2.map Dw,true,true⟩]) (fun x=>x.1≤N∧x.2.2.length=x.1∧(GN b ty (N-x.1) x.2.1).map (fun y=>x.2.2++y)=GN b ty N q) (fun x=>N-x.1) (0,q,[]) (Head.sel [(0,false),(1,false)] ⟨rfl,rfl,rfl,rfl,trivial⟩ rfl) ⟨Nat.zero_le _,rfl,by simp⟩ ?_
 rintro⟨i,p,r⟩ ⟨hi,hll,hp⟩
 dsimp only at hi hll hp
 simp only[go_sem]
 refine cndC.mk (fun h=>?_) (fun h=>?_)
 ·have hi':i<N:=by simp at h; omega
  rw[show N-i=(N-(i+1))+1 by omega,GN] at hp
  have hg2:=EM b p hb hl
  simp only[go_sem]
  rcases h4:A8 b p with _ | ⟨m,p2⟩<;>rw[h4] at hg2 hp<;>simp only[Pi] at hg2
  ·refine CallK.mk _ hg2 fun _=>?_
   simp only[Option.map_none] at hp
   rw[hall,← hp]
   have hg3:=Ia b 0 ty hb hl
   simp only[go_sem]
   rcases h5:D6 b 0 ty with _ | ⟨v,p3⟩<;>rw[h5] at hg3<;>simp only[Ua] at hg3
   ·refine CallK.mk _ hg3 fun _=>?_
    simp only[go_sem,CJ]
   ·refine CallK.mk _ hg3 fun _=>?_
    simp only[go_sem,CJ]
  refine CallK.mk _ hg2 fun _=>?_
  have hg3:=Ia b p2 ty hb hl
  simp only[go_sem]
  rcases h5:D6 b p2 ty with _ | ⟨v,p3⟩<;>rw[h5] at hg3<;>simp only[h5] at hp<;>simp only[Ua] at hg3
  ·refine CallK.mk _ hg3 fun _=>?_
   simp only[Option.map_none] at hp
   rw[hall,← hp]
   simp only[go_sem,CJ]
  refine CallK.mk _ hg3 fun _=>?_
  have hl2:r.length+1≤2147483648:=by omega
  simp only[go_sem,hl2,wrap_i64 (n:=(i:Int)+1) (by omega) (by omega)]
  exact⟨(i+1,p3,r ++ [(v,m)]),Head.sel [(0,false),(4,false)] ⟨rfl,rfl,rfl,sO _ _ _,trivial⟩ (by rw[X5]; rfl),⟨hi',by simp; omega,by rw[← hp,Option.map_map]; congr 1; funext y; simp⟩,by simp only; omega⟩
 ·have hi':i=N:=by simp at h; omega
  subst hi'
  rw[Nat.sub_self,GN] at hp
  simp only[Option.map_some,List.append_nil] at hp
  rw[hall,← hp]
  simp only[go_sem,Hg]
  refine CallK.mk _ (X4 r (by omega)) fun _=>?_
  simp only[go_sem]
  have hsl:(spread r).length≤1048576:=by have:=Uh r; omega
  rcases h5:((spread r).length:Int) != k with _ | _
  rotate_left
  ·have e:again b k (spread r) (Dt (spread r))=none:=if_neg fun q=>by simp at h5; exact h5 q.2.2.1
   simp only[go_sem,h5,e,CJ]
  have h5':((spread r).length:Int)=k:=by simpa using h5
  simp only[go_sem,h5]
  refine CallK.mk _ (Nq (spread r) hsl) fun _=>?_
  simp only[go_sem]
  refine CallK.mk _ (Ff (Dt (spread r)) b) fun _=>?_
  rcases h6:decide (Dt (spread r)=b) with _ | _
  ·have e:again b k (spread r) (Dt (spread r))=none:=if_neg fun q=>by simp at h6; exact h6 q.2.2.2.symm
   simp only[go_sem,h5,h6,e,CJ]
  ·have e:again b k (spread r) (Dt (spread r))=some (spread r):=if_pos ⟨hk.1,hk.2,h5',by simp at h6; exact h6.symm⟩
   simp only[go_sem,h5,h6,e,CJ]
end Go.Proofs.YthoeeoddgkjkkaaGreat
