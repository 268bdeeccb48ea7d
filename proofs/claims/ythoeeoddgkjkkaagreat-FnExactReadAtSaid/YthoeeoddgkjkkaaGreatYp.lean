/- Walks: columns read. -/
import Derived.Test.YthoeeoddgkjkkaaGreatYn
namespace Go.Proofs.YthoeeoddgkjkkaaGreat
set_option linter.unusedSimpArgs false
set_option linter.unusedVariables false
open Go.Vm
set_option maxHeartbeats 2000000
set_option maxRecDepth 10000
theorem VN (b:List Int) (ty k:Int) (hb:AY b) (hl:b.length≤1048576):Ctr Tryz.prog 189 [.c (.sl (b.map byteC)),.c (.v (.int .i64 (ty))),.c (.v (.int .i64 (k)))] (CJ (D8 b ty k)):=by
 rw[← UC hb]
 refine Ctr.mk Tryz.call189 Tryz.func189 rfl mixed Tryz.ntmps189 Tryz.results189 (by kernel_rfl) rfl fun hw=>?_
 simp only[go_sem]
 have hg:=EN b 0 hb hl
 rcases h1:A8 b 0 with _ | ⟨n,q⟩<;>rw[h1] at hg<;>simp only[Pi] at hg
 ·have e:Gx b ty k=none:=by simp only[Gx,h1]
  rw[e]
  refine CallK.mk _ hg fun _=>?_
  simp only[go_sem,CJ]
 refine CallK.mk _ hg fun _=>?_
 simp only[go_sem]
 refine CallK.mk _ (BK _ _ _) fun _=>?_
 rcases h2:BQ n 1 64 with _ | _
 ·have e:Gx b ty k=none:=by simp only[Gx,h1]; exact if_neg (by simp[BQ] at h2; omega)
  rw[e]
  simp only[go_sem,h2,CJ]
 have h2':1≤n∧n≤64:=by simp[BQ] at h2; omega
 have hall:Gx b ty k=match BJ b ty n.toNat q with
   | none=>none
   | some (d,q)=>match unpack (b.drop q) (Af (n-1)) k with
    | none=>none
    | some o=>again b k ((picked d o).getD []) (Cm ((picked d o).getD [])):=by simp only[Gx,h1]; exact if_pos h2'
 rw[hall]
 have hgv:=Pv b q ty n hb hl h2'.2
 simp only[go_sem,h2]
 rcases h3:BJ b ty n.toNat q with _ | ⟨d,q2⟩<;>rw[h3] at hgv<;>simp only[nH] at hgv
 ·refine CallK.mk _ hgv fun _=>?_
  simp only[go_sem,CJ]
 refine CallK.mk _ hgv fun _=>?_
 have hq0:=(FH hb h1).2.2.1
 obtain⟨a1,a2,a3,_⟩:=GZ hb _ _ _ _ hq0 h3
 have q1:=FQ (k:=.i64) (n:=(q2:Int)) (m:=q2) (by omega)
 have hw1:IntKind.i64.wrap (n-1)=n-1:=wrap_i64 (by omega) (by omega)
 have htk:(b.drop q2).take (b.length-q2)=b.drop q2:=List.take_of_length_le (by simp)
 have hbd:AY (b.drop q2):=fun c hc=>hb c (List.mem_of_mem_drop hc)
 have hu:=Pj (b.drop q2) (Af (n-1)) k hbd (by simp; omega)
 simp only[go_sem,q1,a2,Ar,Nat.le_refl,← List.map_drop,← List.map_take,htk,hw1]
 refine DrawK.mkE ?_
 simp only[go_sem,q1,a2,Ar,Nat.le_refl,← List.map_drop,← List.map_take,htk,hw1]
 refine CallE.mk _ (Ht _) ?_
 simp only[go_sem,q1,a2,Ar,Nat.le_refl,← List.map_drop,← List.map_take,htk,hw1]
 rcases h4:unpack (b.drop q2) (Af (n-1)) k with _ | o<;>rw[h4] at hu<;>simp only[Su] at hu
 ·refine CallE.mk _ hu ?_
  simp only[go_sem,q1,a2,Ar,Nat.le_refl,← List.map_drop,← List.map_take,htk,hw1]
  simp only[go_sem,CJ]
 refine CallE.mk _ hu ?_
 have hol:=NK h4
 simp only[go_sem,q1,a2,Ar,Nat.le_refl,← List.map_drop,← List.map_take,htk,hw1]
 have hr:=X0 d o (by omega) (by omega)
 rcases h5:picked d o with _ | l<;>rw[h5] at hr<;>simp only[CJ] at hr
 ·refine CallK.mk _ hr fun _=>?_
  simp only[go_sem,Option.getD_none]
  refine CallK.mk _ (Jh [] (by simp)) fun _=>?_
  simp only[go_sem]
  refine CallK.mk _ (BL b k [] (Cm [])) fun _=>?_
  rcases h6:again b k [] (Cm []) with _ | l'<;>simp only[go_sem,CJ]
 ·have hll:=I8 h5
  refine CallK.mk _ hr fun _=>?_
  simp only[go_sem]
  refine CallK.mk _ (Jh l (by omega)) fun _=>?_
  simp only[go_sem]
  refine CallK.mk _ (BL b k l (Cm l)) fun _=>?_
  rcases h6:again b k l (Cm l) with _ | l'<;>simp only[go_sem,CJ]
theorem VO (b:List Int) (ty k:Int) (hb:AY b) (hl:b.length≤1048576):Ctr Tryz.prog 178 [.c (.sl (b.map byteC)),.c (.v (.int .i64 (ty))),.c (.v (.int .i64 (k)))] (CJ (D8 b ty k)):=by
 refine Ctr.mk Tryz.call178 Tryz.func178 rfl mixed Tryz.ntmps178 Tryz.results178 (by kernel_rfl) rfl fun hw=>?_
 simp only[go_sem]
 have hg:=EM b 0 hb hl
 rcases h1:A8 b 0 with _ | ⟨n,q⟩<;>rw[h1] at hg<;>simp only[Pi] at hg
 ·have e:D8 b ty k=none:=by simp only[D8,h1]
  rw[e]
  refine CallK.mk _ hg fun _=>?_
  simp only[go_sem,CJ]
 refine CallK.mk _ hg fun _=>?_
 simp only[go_sem]
 refine CallK.mk _ (Am _ _ _) fun _=>?_
 rcases h2:BQ k 1 64 with _ | _
 ·have e:D8 b ty k=none:=by simp only[D8,h1]; exact if_neg (by simp[BQ] at h2; omega)
  rw[e]
  simp only[go_sem,h2,CJ]
 simp only[go_sem,h2]
 refine CallK.mk _ (Am _ _ _) fun _=>?_
 rcases h3:BQ n 1 k with _ | _
 ·have e:D8 b ty k=none:=by simp only[D8,h1]; exact if_neg (by simp[BQ] at h3; omega)
  rw[e]
  simp only[go_sem,h3,CJ]
 have hk:1≤k∧k≤64:=by simp[BQ] at h2; omega
 have hn:1≤n∧n≤k:=by simp[BQ] at h3; omega
 have hall:D8 b ty k=match BJ b ty n.toNat q with
   | none=>none
   | some (d,q)=>match unpack (b.drop q) (Af (n-1)) k with
    | none=>none
    | some o=>match picked d o with
     | none=>none
     | some l=>if Cm l=b then some l else none:=by simp only[D8,h1]; exact if_pos ⟨hk,hn⟩
 rw[hall]
 simp only[go_sem,h3]
 obtain⟨N,rfl⟩:=Int.eq_ofNat_of_zero_le (show 0≤n by omega)
 simp only[Int.toNat_natCast]
 have hq0:=(FH hb h1).2.2.1
 refine LoopH.mk [42] (A:=Nat×Nat×List DVal) (fun x=>[(13,.c (.v (.int .i64 (x.1)))),(12,.c (.ref 1)),(10,.c (.v (.int .i64 ((x.2.1:Int)))))]) (fun x=>[⟨72,3,[],true,true⟩,⟨72,3,x.2.2.map DVal.c,true,true⟩]) (fun x=>x.1≤N∧x.2.2.length=x.1∧(BJ b ty (N-x.1) x.2.1).map (fun y=>(x.2.2++y.1,y.2))=BJ b ty N q) (fun x=>N-x.1) (0,q,[]) (Head.sel [(0,false),(1,false)] ⟨rfl,rfl,rfl,rfl,trivial⟩ rfl) ⟨Nat.zero_le _,rfl,by simp⟩ ?_
 rintro⟨i,p,d⟩ ⟨hi,hll,hp⟩
 dsimp only at hi hll hp
 simp only[go_sem]
 refine cndC.mk (fun h=>?_) (fun h=>?_)
 ·have hi':i<N:=by simp at h; omega
  rw[show N-i=(N-(i+1))+1 by omega,BJ] at hp
  have hg2:=Ia b p ty hb hl
  simp only[go_sem]
  rcases h4:D6 b p ty with _ | ⟨v,p2⟩<;>rw[h4] at hg2 hp<;>simp only[Ua] at hg2
  ·refine CallK.mk _ hg2 fun _=>?_
   simp only[Option.map_none] at hp
   rw[← hp]
   simp only[go_sem,CJ]
  ·refine CallK.mk _ hg2 fun _=>?_
   have hl2:d.length+1≤2147483648:=by omega
   simp only[go_sem,hl2,wrap_i64 (n:=(i:Int)+1) (by omega) (by omega)]
   exact⟨(i+1,p2,d ++ [v]),Head.sel [(0,false),(4,false)] ⟨rfl,rfl,rfl,Ib _ _,trivial⟩ (by rw[EQ]; rfl),⟨hi',by simp; omega,by rw[← hp,Option.map_map]; congr 1; funext y; simp⟩,by simp only; omega⟩
 ·have hi':i=N:=by simp at h; omega
  subst hi'
  rw[Nat.sub_self,BJ] at hp
  simp only[Option.map_some,List.append_nil] at hp
  obtain⟨a1,a2,a3,_⟩:=GZ hb _ _ _ _ hq0 hp.symm
  rw[← hp]
  have q1:=FQ (k:=.i64) (n:=(p:Int)) (m:=p) (by omega)
  have hw1:IntKind.i64.wrap ((i:Int)-1)=(i:Int)-1:=wrap_i64 (by omega) (by omega)
  have htk:(b.drop p).take (b.length-p)=b.drop p:=List.take_of_length_le (by simp)
  have hbd:AY (b.drop p):=fun c hc=>hb c (List.mem_of_mem_drop hc)
  have hu:=Pm (b.drop p) (Af ((i:Int)-1)) k hbd (by simp; omega)
  simp only[go_sem,q1,a2,Ar,Nat.le_refl,← List.map_drop,← List.map_take,htk,hw1]
  refine DrawK.mkE ?_
  simp only[go_sem,q1,a2,Ar,Nat.le_refl,← List.map_drop,← List.map_take,htk,hw1]
  refine CallE.mk _ (GL _) ?_
  simp only[go_sem,q1,a2,Ar,Nat.le_refl,← List.map_drop,← List.map_take,htk,hw1]
  rcases h4:unpack (b.drop p) (Af ((i:Int)-1)) k with _ | o<;>rw[h4] at hu<;>simp only[Su] at hu
  ·refine CallE.mk _ hu ?_
   simp only[go_sem,q1,a2,Ar,Nat.le_refl,← List.map_drop,← List.map_take,htk,hw1]
   have hr:=Px d [] (by simp) (by omega)
   rcases h5:picked d [] with _ | l<;>rw[h5] at hr<;>simp only[CJ] at hr
   ·refine CallK.mk _ hr fun _=>?_
    simp only[go_sem,CJ]
   ·refine CallK.mk _ hr fun _=>?_
    simp only[go_sem,CJ]
  refine CallE.mk _ hu ?_
  have hol:=NK h4
  simp only[go_sem,q1,a2,Ar,Nat.le_refl,← List.map_drop,← List.map_take,htk,hw1]
  have hr:=Px d o (by omega) (by omega)
  rcases h5:picked d o with _ | l<;>rw[h5] at hr<;>simp only[CJ] at hr
  ·refine CallK.mk _ hr fun _=>?_
   simp only[go_sem,CJ]
  have hll2:=I8 h5
  refine CallK.mk _ hr fun _=>?_
  simp only[go_sem]
  refine CallK.mk _ (Nr l (by omega)) fun _=>?_
  simp only[go_sem]
  refine CallK.mk _ (Ff (Cm l) b) fun _=>?_
  rcases h6:decide (Cm l=b) with _ | _
  ·have e:¬ Cm l=b:=by simpa using h6
   simp only[go_sem,h6,if_neg e,CJ]
  ·have e:Cm l=b:=by simpa using h6
   simp only[go_sem,h6,if_pos e,CJ]
theorem V4 {b:List Int} (h:0<b.length) (ty k:Int):QW b ty k=if b[0]=0 then EK (b.drop 1) ty k else if b[0]=1 then DI (b.drop 1) ty k else if b[0]=2 then D8 (b.drop 1) ty k else if b[0]=3 then DN (b.drop 1) k else none:=by
 cases b with
 | nil=>simp at h
 | cons c r=>rfl
theorem X9 (b:List Int) (ty k:Int) (hb:AY b) (hl:b.length≤1048576):Ctr Tryz.prog 160 [.c (.sl (b.map byteC)),.c (.v (.int .i64 (ty))),.c (.v (.int .i64 (k)))] (CJ (F8 b ty k)):=by
 rw[← jg hb]
 refine Ctr.mk Tryz.call160 Tryz.func160 rfl mixed Tryz.ntmps160 Tryz.results160 (by kernel_rfl) rfl fun hw=>?_
 rcases h0:((b.length:Int)==0) with _ | _
 rotate_left
 ·have e:b = []:=by simpa using h0
  have e2:Sl b ty k=none:=if_pos e
  rw[e2]
  simp only[go_sem,h0,CJ]
 have h0':0<b.length:=by
  rcases Nat.eq_zero_or_pos b.length with h | h
  ·rw[h] at h0; exact absurd h0 (by decide)
  ·exact h
 have hall:Sl b ty k=if typeOf ((QW b ty k).getD [])=ty then again b k ((QW b ty k).getD []) (Ah ((QW b ty k).getD [])) else none:=by
  rw[← gV hb]
  exact if_neg fun q=>by rw[q] at h0'; simp at h0'
 rw[hall]
 simp only[go_sem,h0,AA _ h0']
 have hc:isByte b[0]:=hb _ (List.getElem_mem h0')
 have hc2:=hc.1
 have hc3:=hc.2
 have hw1:IntKind.i64.wrap b[0]=b[0]:=wrap_i64 (by omega) (by omega)
 have hdd:=V4 h0' ty k
 have a2:1≤b.length:=h0'
 have q1:=FQ (k:=.i64) (n:=(1:Int)) (m:=1) (by omega)
 have htk:(b.drop 1).take (b.length-1)=b.drop 1:=List.take_of_length_le (by simp)
 have hbd:AY (b.drop 1):=fun c hc=>hb c (List.mem_of_mem_drop hc)
 have hdl:(b.drop 1).length≤1048576:=by simp; omega
 rcases hk0:b[0]==0 with _ | _
 rotate_left
 ·rw[if_pos (by simpa using hk0)] at hdd
  simp only[go_sem,q1,a2,Ar,Nat.le_refl,← List.map_drop,← List.map_take,htk,hw1,hk0]
  have hr:=Uc (b.drop 1) ty k hbd hdl
  rcases hd:EK (b.drop 1) ty k with _ | l<;>rw[hd] at hr hdd<;>simp only[CJ] at hr<;>rw[hdd]
  ·refine CallK.mk _ hr fun _=>?_
   simp only[go_sem,Option.getD_none]
   refine CallK.mk _ (BP [] (by simp)) fun _=>?_
   rcases h5:typeOf [] != ty with _ | _
   rotate_left
   ·rw[if_neg (by simpa using h5)]
    simp only[go_sem,h5,CJ]
   rw[if_pos (by simpa using h5)]
   simp only[go_sem,h5]
   refine CallK.mk _ (DV [] (by simp)) fun _=>?_
   simp only[go_sem]
   refine CallK.mk _ (BL b k [] (Ah [])) fun _=>?_
   rcases h6:again b k [] (Ah []) with _ | l'<;>simp only[go_sem,CJ]
  ·have hll:l.length≤1048576:=by have:=(Hr hb hdd).1; omega
   refine CallK.mk _ hr fun _=>?_
   simp only[go_sem,Option.getD_some]
   refine CallK.mk _ (BP l hll) fun _=>?_
   rcases h5:typeOf l != ty with _ | _
   rotate_left
   ·rw[if_neg (by simpa using h5)]
    simp only[go_sem,h5,CJ]
   rw[if_pos (by simpa using h5)]
   simp only[go_sem,h5]
   refine CallK.mk _ (DV l hll) fun _=>?_
   simp only[go_sem]
   refine CallK.mk _ (BL b k l (Ah l)) fun _=>?_
   rcases h6:again b k l (Ah l) with _ | l'<;>simp only[go_sem,CJ]
 rcases hk1:b[0]==1 with _ | _
 rotate_left
 ·rw[if_neg (by simpa using hk0),if_pos (by simpa using hk1)] at hdd
  simp only[go_sem,q1,a2,Ar,Nat.le_refl,← List.map_drop,← List.map_take,htk,hw1,hk0,hk1]
  have hr:=VJ (b.drop 1) ty k hbd hdl
  rcases hd:DI (b.drop 1) ty k with _ | l<;>rw[hd] at hr hdd<;>simp only[CJ] at hr<;>rw[hdd]
  ·refine CallK.mk _ hr fun _=>?_
   simp only[go_sem,Option.getD_none]
   refine CallK.mk _ (BP [] (by simp)) fun _=>?_
   rcases h5:typeOf [] != ty with _ | _
   rotate_left
   ·rw[if_neg (by simpa using h5)]
    simp only[go_sem,h5,CJ]
   rw[if_pos (by simpa using h5)]
   simp only[go_sem,h5]
   refine CallK.mk _ (DV [] (by simp)) fun _=>?_
   simp only[go_sem]
   refine CallK.mk _ (BL b k [] (Ah [])) fun _=>?_
   rcases h6:again b k [] (Ah []) with _ | l'<;>simp only[go_sem,CJ]
  ·have hll:l.length≤1048576:=by have:=(Hr hb hdd).1; omega
   refine CallK.mk _ hr fun _=>?_
   simp only[go_sem,Option.getD_some]
   refine CallK.mk _ (BP l hll) fun _=>?_
   rcases h5:typeOf l != ty with _ | _
   rotate_left
   ·rw[if_neg (by simpa using h5)]
    simp only[go_sem,h5,CJ]
   rw[if_pos (by simpa using h5)]
   simp only[go_sem,h5]
   refine CallK.mk _ (DV l hll) fun _=>?_
   simp only[go_sem]
   refine CallK.mk _ (BL b k l (Ah l)) fun _=>?_
   rcases h6:again b k l (Ah l) with _ | l'<;>simp only[go_sem,CJ]
 rcases hk2:b[0]==2 with _ | _
 rotate_left
 ·rw[if_neg (by simpa using hk0),if_neg (by simpa using hk1),if_pos (by simpa using hk2)] at hdd
  simp only[go_sem,q1,a2,Ar,Nat.le_refl,← List.map_drop,← List.map_take,htk,hw1,hk0,hk1,hk2]
  have hr:=VN (b.drop 1) ty k hbd hdl
  rcases hd:D8 (b.drop 1) ty k with _ | l<;>rw[hd] at hr hdd<;>simp only[CJ] at hr<;>rw[hdd]
  ·refine CallK.mk _ hr fun _=>?_
   simp only[go_sem,Option.getD_none]
   refine CallK.mk _ (BP [] (by simp)) fun _=>?_
   rcases h5:typeOf [] != ty with _ | _
   rotate_left
   ·rw[if_neg (by simpa using h5)]
    simp only[go_sem,h5,CJ]
   rw[if_pos (by simpa using h5)]
   simp only[go_sem,h5]
   refine CallK.mk _ (DV [] (by simp)) fun _=>?_
   simp only[go_sem]
   refine CallK.mk _ (BL b k [] (Ah [])) fun _=>?_
   rcases h6:again b k [] (Ah []) with _ | l'<;>simp only[go_sem,CJ]
  ·have hll:l.length≤1048576:=by have:=(Hr hb hdd).1; omega
   refine CallK.mk _ hr fun _=>?_
   simp only[go_sem,Option.getD_some]
   refine CallK.mk _ (BP l hll) fun _=>?_
   rcases h5:typeOf l != ty with _ | _
   rotate_left
   ·rw[if_neg (by simpa using h5)]
    simp only[go_sem,h5,CJ]
   rw[if_pos (by simpa using h5)]
   simp only[go_sem,h5]
   refine CallK.mk _ (DV l hll) fun _=>?_
   simp only[go_sem]
   refine CallK.mk _ (BL b k l (Ah l)) fun _=>?_
   rcases h6:again b k l (Ah l) with _ | l'<;>simp only[go_sem,CJ]
 rcases hk3:b[0]==3 with _ | _
 rotate_left
 ·rw[if_neg (by simpa using hk0),if_neg (by simpa using hk1),if_neg (by simpa using hk2),if_pos (by simpa using hk3)] at hdd
  simp only[go_sem,q1,a2,Ar,Nat.le_refl,← List.map_drop,← List.map_take,htk,hw1,hk0,hk1,hk2,hk3]
  have hr:=Uj (b.drop 1) k hbd hdl
  rcases hd:DN (b.drop 1) k with _ | l<;>rw[hd] at hr hdd<;>simp only[CJ] at hr<;>rw[hdd]
  ·refine CallK.mk _ hr fun _=>?_
   simp only[go_sem,Option.getD_none]
   refine CallK.mk _ (BP [] (by simp)) fun _=>?_
   rcases h5:typeOf [] != ty with _ | _
   rotate_left
   ·rw[if_neg (by simpa using h5)]
    simp only[go_sem,h5,CJ]
   rw[if_pos (by simpa using h5)]
   simp only[go_sem,h5]
   refine CallK.mk _ (DV [] (by simp)) fun _=>?_
   simp only[go_sem]
   refine CallK.mk _ (BL b k [] (Ah [])) fun _=>?_
   rcases h6:again b k [] (Ah []) with _ | l'<;>simp only[go_sem,CJ]
  ·have hll:l.length≤1048576:=by have:=(Hr hb hdd).1; omega
   refine CallK.mk _ hr fun _=>?_
   simp only[go_sem,Option.getD_some]
   refine CallK.mk _ (BP l hll) fun _=>?_
   rcases h5:typeOf l != ty with _ | _
   rotate_left
   ·rw[if_neg (by simpa using h5)]
    simp only[go_sem,h5,CJ]
   rw[if_pos (by simpa using h5)]
   simp only[go_sem,h5]
   refine CallK.mk _ (DV l hll) fun _=>?_
   simp only[go_sem]
   refine CallK.mk _ (BL b k l (Ah l)) fun _=>?_
   rcases h6:again b k l (Ah l) with _ | l'<;>simp only[go_sem,CJ]
 rw[if_neg (by simpa using hk0),if_neg (by simpa using hk1),if_neg (by simpa using hk2),if_neg (by simpa using hk3)] at hdd
 rw[hdd]
 simp only[go_sem,q1,a2,Ar,Nat.le_refl,← List.map_drop,← List.map_take,htk,hw1,hk0,hk1,hk2,hk3,Option.getD_none]
 refine CallK.mk _ (BP [] (by simp)) fun _=>?_
 rcases h5:typeOf [] != ty with _ | _
 rotate_left
 ·rw[if_neg (by simpa using h5)]
  simp only[go_sem,h5,CJ]
 rw[if_pos (by simpa using h5)]
 simp only[go_sem,h5]
 refine CallK.mk _ (DV [] (by simp)) fun _=>?_
 simp only[go_sem]
 refine CallK.mk _ (BL b k [] (Ah [])) fun _=>?_
 rcases h6:again b k [] (Ah []) with _ | l'<;>simp only[go_sem,CJ]
theorem X_ (b:List Int) (ty k:Int) (hb:AY b) (hl:b.length≤1048576):Ctr Tryz.prog 149 [.c (.sl (b.map byteC)),.c (.v (.int .i64 (ty))),.c (.v (.int .i64 (k)))] (CJ (F8 b ty k)):=by
 refine Ctr.mk Tryz.call149 Tryz.func149 rfl mixed Tryz.ntmps149 Tryz.results149 (by kernel_rfl) rfl fun hw=>?_
 rcases h0:((b.length:Int)==0) with _ | _
 rotate_left
 ·have e:b = []:=by simpa using h0
  have e2:F8 b ty k=none:=by rw[e,F8]; split<;>rfl
  rw[e2]
  simp only[go_sem,h0,CJ]
 have h0':0<b.length:=by
  rcases Nat.eq_zero_or_pos b.length with h | h
  ·rw[h] at h0; exact absurd h0 (by decide)
  ·exact h
 simp only[go_sem,h0,AA _ h0']
 refine CallK.mk _ (Am _ _ _) fun _=>?_
 rcases h1:BQ ty 1 2 with _ | _
 ·have e:F8 b ty k=none:=if_neg (by simp[BQ] at h1; omega)
  rw[e]
  simp only[go_sem,h1,CJ]
 have hty:1≤ty∧ty≤2:=by simp[BQ] at h1; omega
 have hall:F8 b ty k=match QW b ty k with
  | none=>none
  | some l=>if typeOf l=ty∧Ah l=b then some l else none:=if_pos hty
 rw[hall]
 simp only[go_sem,h1,AA _ h0']
 have hc:isByte b[0]:=hb _ (List.getElem_mem h0')
 have hc2:=hc.1
 have hc3:=hc.2
 have hw1:IntKind.i64.wrap b[0]=b[0]:=wrap_i64 (by omega) (by omega)
 have hdd:=V4 h0' ty k
 have a2:1≤b.length:=h0'
 have q1:=FQ (k:=.i64) (n:=(1:Int)) (m:=1) (by omega)
 have htk:(b.drop 1).take (b.length-1)=b.drop 1:=List.take_of_length_le (by simp)
 have hbd:AY (b.drop 1):=fun c hc=>hb c (List.mem_of_mem_drop hc)
 have hdl:(b.drop 1).length≤1048576:=by simp; omega
 rcases hk0:b[0]==0 with _ | _
 rotate_left
 ·rw[if_pos (by simpa using hk0)] at hdd
  simp only[go_sem,q1,a2,Ar,Nat.le_refl,← List.map_drop,← List.map_take,htk,hw1,hk0]
  have hr:=Ub (b.drop 1) ty k hbd hdl
  rcases hd:EK (b.drop 1) ty k with _ | l<;>rw[hd] at hr hdd<;>simp only[CJ] at hr<;>rw[hdd]
  ·refine CallK.mk _ hr fun _=>?_
   simp only[go_sem,CJ]
  ·have hll:l.length≤1048576:=by have:=(Hr hb hdd).1; omega
   refine CallK.mk _ hr fun _=>?_
   simp only[go_sem]
   refine CallK.mk _ (DU l hll) fun _=>?_
   rcases h5:typeOf l != ty with _ | _
   rotate_left
   ·have h5':¬ (typeOf l=ty∧Ah l=b):=fun q=>by simp at h5; exact h5 q.1
    simp only[go_sem,h5,if_neg h5',CJ]
   have h5':typeOf l=ty:=by simpa using h5
   simp only[go_sem,h5]
   refine CallK.mk _ (Ie l hll) fun _=>?_
   simp only[go_sem]
   refine CallK.mk _ (Ff (Ah l) b) fun _=>?_
   rcases h6:decide (Ah l=b) with _ | _
   ·have h7:¬ (typeOf l=ty∧Ah l=b):=fun q=>by simp at h6; exact h6 q.2
    simp only[go_sem,h5,h6,if_neg h7,CJ]
   ·have h7:typeOf l=ty∧Ah l=b:=⟨h5',by simpa using h6⟩
    simp only[go_sem,h5,h6,if_pos h7,CJ]
 rcases hk1:b[0]==1 with _ | _
 rotate_left
 ·rw[if_neg (by simpa using hk0),if_pos (by simpa using hk1)] at hdd
  simp only[go_sem,q1,a2,Ar,Nat.le_refl,← List.map_drop,← List.map_take,htk,hw1,hk0,hk1]
  have hr:=VK (b.drop 1) ty k hbd hdl
  rcases hd:DI (b.drop 1) ty k with _ | l<;>rw[hd] at hr hdd<;>simp only[CJ] at hr<;>rw[hdd]
  ·refine CallK.mk _ hr fun _=>?_
   simp only[go_sem,CJ]
  ·have hll:l.length≤1048576:=by have:=(Hr hb hdd).1; omega
   refine CallK.mk _ hr fun _=>?_
   simp only[go_sem]
   refine CallK.mk _ (DU l hll) fun _=>?_
   rcases h5:typeOf l != ty with _ | _
   rotate_left
   ·have h5':¬ (typeOf l=ty∧Ah l=b):=fun q=>by simp at h5; exact h5 q.1
    simp only[go_sem,h5,if_neg h5',CJ]
   have h5':typeOf l=ty:=by simpa using h5
   simp only[go_sem,h5]
   refine CallK.mk _ (Ie l hll) fun _=>?_
   simp only[go_sem]
   refine CallK.mk _ (Ff (Ah l) b) fun _=>?_
   rcases h6:decide (Ah l=b) with _ | _
   ·have h7:¬ (typeOf l=ty∧Ah l=b):=fun q=>by simp at h6; exact h6 q.2
    simp only[go_sem,h5,h6,if_neg h7,CJ]
   ·have h7:typeOf l=ty∧Ah l=b:=⟨h5',by simpa using h6⟩
    simp only[go_sem,h5,h6,if_pos h7,CJ]
 rcases hk2:b[0]==2 with _ | _
 rotate_left
 ·rw[if_neg (by simpa using hk0),if_neg (by simpa using hk1),if_pos (by simpa using hk2)] at hdd
  simp only[go_sem,q1,a2,Ar,Nat.le_refl,← List.map_drop,← List.map_take,htk,hw1,hk0,hk1,hk2]
  have hr:=VO (b.drop 1) ty k hbd hdl
  rcases hd:D8 (b.drop 1) ty k with _ | l<;>rw[hd] at hr hdd<;>simp only[CJ] at hr<;>rw[hdd]
  ·refine CallK.mk _ hr fun _=>?_
   simp only[go_sem,CJ]
  ·have hll:l.length≤1048576:=by have:=(Hr hb hdd).1; omega
   refine CallK.mk _ hr fun _=>?_
   simp only[go_sem]
   refine CallK.mk _ (DU l hll) fun _=>?_
   rcases h5:typeOf l != ty with _ | _
   rotate_left
   ·have h5':¬ (typeOf l=ty∧Ah l=b):=fun q=>by simp at h5; exact h5 q.1
    simp only[go_sem,h5,if_neg h5',CJ]
   have h5':typeOf l=ty:=by simpa using h5
   simp only[go_sem,h5]
   refine CallK.mk _ (Ie l hll) fun _=>?_
   simp only[go_sem]
   refine CallK.mk _ (Ff (Ah l) b) fun _=>?_
   rcases h6:decide (Ah l=b) with _ | _
   ·have h7:¬ (typeOf l=ty∧Ah l=b):=fun q=>by simp at h6; exact h6 q.2
    simp only[go_sem,h5,h6,if_neg h7,CJ]
   ·have h7:typeOf l=ty∧Ah l=b:=⟨h5',by simpa using h6⟩
    simp only[go_sem,h5,h6,if_pos h7,CJ]
 rcases hk3:b[0]==3 with _ | _
 rotate_left
 ·rw[if_neg (by simpa using hk0),if_neg (by simpa using hk1),if_neg (by simpa using hk2),if_pos (by simpa using hk3)] at hdd
  simp only[go_sem,q1,a2,Ar,Nat.le_refl,← List.map_drop,← List.map_take,htk,hw1,hk0,hk1,hk2,hk3]
  have hr:=Uk (b.drop 1) k hbd hdl
  rcases hd:DN (b.drop 1) k with _ | l<;>rw[hd] at hr hdd<;>simp only[CJ] at hr<;>rw[hdd]
  ·refine CallK.mk _ hr fun _=>?_
   simp only[go_sem,CJ]
  ·have hll:l.length≤1048576:=by have:=(Hr hb hdd).1; omega
   refine CallK.mk _ hr fun _=>?_
   simp only[go_sem]
   refine CallK.mk _ (DU l hll) fun _=>?_
   rcases h5:typeOf l != ty with _ | _
   rotate_left
   ·have h5':¬ (typeOf l=ty∧Ah l=b):=fun q=>by simp at h5; exact h5 q.1
    simp only[go_sem,h5,if_neg h5',CJ]
   have h5':typeOf l=ty:=by simpa using h5
   simp only[go_sem,h5]
   refine CallK.mk _ (Ie l hll) fun _=>?_
   simp only[go_sem]
   refine CallK.mk _ (Ff (Ah l) b) fun _=>?_
   rcases h6:decide (Ah l=b) with _ | _
   ·have h7:¬ (typeOf l=ty∧Ah l=b):=fun q=>by simp at h6; exact h6 q.2
    simp only[go_sem,h5,h6,if_neg h7,CJ]
   ·have h7:typeOf l=ty∧Ah l=b:=⟨h5',by simpa using h6⟩
    simp only[go_sem,h5,h6,if_pos h7,CJ]
 rw[if_neg (by simpa using hk0),if_neg (by simpa using hk1),if_neg (by simpa using hk2),if_neg (by simpa using hk3)] at hdd
 rw[hdd]
 simp only[go_sem,q1,a2,Ar,Nat.le_refl,← List.map_drop,← List.map_take,htk,hw1,hk0,hk1,hk2,hk3,CJ]
end Go.Proofs.YthoeeoddgkjkkaaGreat
