/- Walks: columns of frames. -/
import Derived.Test.YthoeeoddgkjkkaaGreatYj
import Derived.Test.YthoeeoddgkjkkaaGreatYe
namespace Go.Proofs.YthoeeoddgkjkkaaGreat
set_option linter.unusedSimpArgs false
set_option linter.unusedVariables false
open Go.Vm
set_option maxHeartbeats 2000000
set_option maxRecDepth 10000
theorem NK {b:List Int} {w k:Int} {o:List Int} (h:unpack b w k=some o):o.length≤64:=by
 have h1:=I7 h
 unfold unpack at h
 split at h
 ·rename_i h2
  omega
 ·cases h
theorem gz:∀ (f:Nat) (x:Int),0≤EX f x∧EX f x≤f
 | 0,_=>by simp[EX]
 | f+1,x=>by
  have:=gz f (x/2)
  rw[EX]
  split<;>omega
theorem di (n:Int):0≤Af n∧Af n≤32:=by
 unfold Af
 split
 ·exact gz 32 n
 ·omega
theorem Rl (l:List Int):0≤BU l∧BU l≤32:=by
 have key:∀ (l:List Int) (w:Int),0≤w∧w≤32→0≤l.foldl (fun w n=>max w (Af n)) w∧l.foldl (fun w n=>max w (Af n)) w≤32:=by
  intro l
  induction l with
  | nil=>intro w h; exact h
  | cons n l ih =>
   intro w h
   have:=di n
   exact ih (max w (Af n)) ⟨by omega,by omega⟩
 exact key l 0 (by omega)
theorem F6 (l:List Int) (w:Int):(DL l w).length≤4*l.length+1:=by
 unfold DL
 split
 ·rename_i h
  simp only[List.length_map,List.length_range]
  have:l.length*w.toNat≤l.length*31:=Nat.mul_le_mul_left _ (by omega)
  omega
 ·simp
theorem JC (l:List DVal) (hl:l.length≤1048576):Ctr Tryz.prog 226 [.c (.sl (l.map DVal.c))] [.own 5 1 ((Bc l).map byteC) true]:=by
 refine Ctr.mk Tryz.call226 Tryz.func226 rfl mixed Tryz.ntmps226 Tryz.results226 (by kernel_rfl) rfl fun hw=>?_
 simp only[go_sem]
 refine CallK.mk _ (BP l hl) fun _=>?_
 rcases h1:typeOf l != 1 with _ | _
 rotate_left
 ·have h1':typeOf l≠1:=by simpa using h1
  have e:Bc l = []:=if_pos h1'
  rw[e]
  simp only[go_sem,h1]
  try simp[AU,AC,CY]
 have h1':typeOf l=1:=by simpa using h1
 obtain⟨q1,q2,q3⟩:=Bv (l:=l) (by omega)
 have e:Bc l=Dh (BO l)++(BU (offsets l)::DL (offsets l) (BU (offsets l))):=if_neg (by omega)
 have hol:(offsets l).length=l.length:=by rw[offsets,if_neg (by omega)]; simp
 rw[e]
 simp only[go_sem,h1]
 refine CallK.mk _ (VH l hl) fun _=>?_
 simp only[go_sem]
 refine CallK.mk _ (UT (offsets l) (by omega)) fun _=>?_
 simp only[go_sem]
 refine CallK.mk _ (Uf l hl) fun _=>?_
 have hw:=Rl (offsets l)
 have hpl:=F6 (offsets l) (BU (offsets l))
 have hq:=Ci (BO l)
 have hbn:C9 (BO l)=true:=by
  have h0:0<l.length:=by omega
  obtain⟨_,x,hx,e2⟩:=Qd (List.getElem_mem h0)
  have:=Sz (q3 x hx).1 ((q3 x hx).2.trans h1')
  rw[CX,e2]; exact this
 have hw1:IntKind.u8.wrap (BU (offsets l))=BU (offsets l):=wrap_u8 (by omega) (by omega)
 simp only[go_sem]
 refine CallK.mk _ (EO [] (BO l) (by simp)) fun _=>?_
 rw[G7 hbn,List.nil_append]
 have hl2:(Dh (BO l)).length+1≤2147483648:=by omega
 simp only[go_sem,hw1,hl2]
 refine CallK.mk _ (UY (offsets l) (BU (offsets l)) (by omega)) fun _=>?_
 have hl3:(Dh (BO l)).length+1+(DL (offsets l) (BU (offsets l))).length≤2147483648:=by omega
 simp only[go_sem,hl3,Eg]
 try simp[AU,AC,byteC]
theorem MG (l:List DVal) (hl:l.length≤1048576):Ctr Tryz.prog 210 [.c (.sl (l.map DVal.c))] [.own 5 1 ((Bc l).map byteC) true]:=by
 refine Ctr.mk Tryz.call210 Tryz.func210 rfl mixed Tryz.ntmps210 Tryz.results210 (by kernel_rfl) rfl fun hw=>?_
 simp only[go_sem]
 refine CallK.mk _ (DU l hl) fun _=>?_
 rcases h1:typeOf l != 1 with _ | _
 rotate_left
 ·have h1':typeOf l≠1:=by simpa using h1
  have e:Bc l = []:=if_pos h1'
  rw[e]
  simp only[go_sem,h1]
  try simp[AU,AC,CY]
 have h1':typeOf l=1:=by simpa using h1
 obtain⟨q1,q2,q3⟩:=Bv (l:=l) (by omega)
 have e:Bc l=Dh (BO l)++(BU (offsets l)::DL (offsets l) (BU (offsets l))):=if_neg (by omega)
 have hol:(offsets l).length=l.length:=by rw[offsets,if_neg (by omega)]; simp
 rw[e]
 simp only[go_sem,h1]
 refine CallK.mk _ (VI l hl) fun _=>?_
 simp only[go_sem]
 refine CallK.mk _ (UU (offsets l) (by omega)) fun _=>?_
 simp only[go_sem]
 refine CallK.mk _ (Ue l hl) fun _=>?_
 have hw:=Rl (offsets l)
 have hpl:=F6 (offsets l) (BU (offsets l))
 have hq:=Ci (BO l)
 have hbn:C9 (BO l)=true:=by
  have h0:0<l.length:=by omega
  obtain⟨_,x,hx,e2⟩:=Qd (List.getElem_mem h0)
  have:=Sz (q3 x hx).1 ((q3 x hx).2.trans h1')
  rw[CX,e2]; exact this
 have hw1:IntKind.u8.wrap (BU (offsets l))=BU (offsets l):=wrap_u8 (by omega) (by omega)
 simp only[go_sem]
 refine CallK.mk _ (G6 [] (BO l) (by simp)) fun _=>?_
 rw[G7 hbn,List.nil_append]
 have hl2:(Dh (BO l)).length+1≤2147483648:=by omega
 simp only[go_sem,hw1,hl2]
 refine CallK.mk _ (UZ (offsets l) (BU (offsets l)) (by omega)) fun _=>?_
 have hl3:(Dh (BO l)).length+1+(DL (offsets l) (BU (offsets l))).length≤2147483648:=by omega
 simp only[go_sem,hl3,Eg]
 try simp[AU,AC,byteC]
theorem Uj (b:List Int) (k:Int) (hb:AY b) (hl:b.length≤1048576):Ctr Tryz.prog 190 [.c (.sl (b.map byteC)),.c (.v (.int .i64 (k)))] (CJ (DN b k)):=by
 rw[← RU]
 refine Ctr.mk Tryz.call190 Tryz.func190 rfl mixed Tryz.ntmps190 Tryz.results190 (by kernel_rfl) rfl fun hw=>?_
 simp only[go_sem]
 have hg:=EN b 0 hb hl
 rcases h1:A8 b 0 with _ | ⟨n,q⟩<;>rw[h1] at hg<;>simp only[Pi] at hg
 ·have e:Fz b k=none:=by simp only[Fz,h1]
  rw[e]
  refine CallK.mk _ hg fun _=>?_
  simp only[go_sem,CJ]
 refine CallK.mk _ hg fun _=>?_
 rcases h2:decide ((q:Int)≥(b.length:Int)) with _ | _
 rotate_left
 ·have e:Fz b k=none:=by
   have:b[q]?=none:=by rw[List.getElem?_eq_none_iff]; simp at h2; omega
   simp only[Fz,h1,this]
  rw[e]
  simp only[go_sem,h2,CJ]
 have hq:q<b.length:=by simp at h2; omega
 have hc:isByte b[q]:=hb _ (List.getElem_mem hq)
 have hall:Fz b k=match unpack (b.drop (q+1)) b[q] k with
    | none=>none
    | some o=>again b k ((raised n o).getD []) (Bc ((raised n o).getD [])):=by simp only[Fz,h1,List.getElem?_eq_getElem hq]; rfl
 rw[hall]
 have q1:=FQ (k:=.i64) (n:=(q:Int)+1) (m:=q+1) (by omega)
 have q5:q+1≤b.length:=hq
 have hc2:=hc.1
 have hc3:=hc.2
 have q7:(b.map byteC).length-(q+1)=(b.drop (q+1)).length:=by simp
 simp only[go_sem,h2,AA _ hq,q1,q5,Ar,Nat.le_refl,wrap_i64 (n:=(q:Int)+1) (by omega) (by omega),wrap_i64 (n:=b[q]) (by omega) (by omega),← List.map_drop,← List.map_take]
 have htk:(b.drop (q+1)).take (b.length-(q+1))=b.drop (q+1):=List.take_of_length_le (by simp)
 have hbd:AY (b.drop (q+1)):=fun c hc=>hb c (List.mem_of_mem_drop hc)
 have hu:=Pj (b.drop (q+1)) b[q] k hbd (by simp; omega)
 refine DrawK.mkE ?_
 simp only[go_sem,h2,AA _ hq,q1,q5,Ar,Nat.le_refl,wrap_i64 (n:=(q:Int)+1) (by omega) (by omega),wrap_i64 (n:=b[q]) (by omega) (by omega),← List.map_drop,← List.map_take,htk]
 rcases h3:unpack (b.drop (q+1)) b[q] k with _ | o<;>rw[h3] at hu<;>simp only[Su] at hu
 ·refine CallE.mk _ hu ?_
  simp only[go_sem,CJ,AA _ hq,q1,q5,Ar,Nat.le_refl,← List.map_drop,← List.map_take,htk,wrap_i64 (n:=b[q]) (by omega) (by omega),wrap_i64 (n:=(q:Int)+1) (by omega) (by omega)]
 refine CallE.mk _ hu ?_
 have hol:=NK h3
 simp only[go_sem,AA _ hq,q1,q5,Ar,Nat.le_refl,← List.map_drop,← List.map_take,htk,wrap_i64 (n:=b[q]) (by omega) (by omega),wrap_i64 (n:=(q:Int)+1) (by omega) (by omega)]
 have hr:=X3 n o (by omega)
 rcases h4:raised n o with _ | l<;>rw[h4] at hr<;>simp only[CJ] at hr
 ·refine CallK.mk _ hr fun _=>?_
  simp only[go_sem,Option.getD_none]
  refine CallK.mk _ (JC [] (by simp)) fun _=>?_
  simp only[go_sem]
  refine CallK.mk _ (BL b k [] (Bc [])) fun _=>?_
  rcases h5:again b k [] (Bc []) with _ | l'<;>simp only[go_sem,CJ]
 ·have hll:=KL h4
  refine CallK.mk _ hr fun _=>?_
  simp only[go_sem]
  refine CallK.mk _ (JC l (by omega)) fun _=>?_
  simp only[go_sem]
  refine CallK.mk _ (BL b k l (Bc l)) fun _=>?_
  rcases h5:again b k l (Bc l) with _ | l'<;>simp only[go_sem,CJ]
theorem Uk (b:List Int) (k:Int) (hb:AY b) (hl:b.length≤1048576):Ctr Tryz.prog 179 [.c (.sl (b.map byteC)),.c (.v (.int .i64 (k)))] (CJ (DN b k)):=by
 refine Ctr.mk Tryz.call179 Tryz.func179 rfl mixed Tryz.ntmps179 Tryz.results179 (by kernel_rfl) rfl fun hw=>?_
 simp only[go_sem]
 have hg:=EM b 0 hb hl
 rcases h1:A8 b 0 with _ | ⟨n,q⟩<;>rw[h1] at hg<;>simp only[Pi] at hg
 ·have e:DN b k=none:=by simp only[DN,h1]
  rw[e]
  refine CallK.mk _ hg fun _=>?_
  simp only[go_sem,CJ]
 refine CallK.mk _ hg fun _=>?_
 rcases h2:decide ((q:Int)≥(b.length:Int)) with _ | _
 rotate_left
 ·have e:DN b k=none:=by
   have:b[q]?=none:=by rw[List.getElem?_eq_none_iff]; simp at h2; omega
   simp only[DN,h1,this]
  rw[e]
  simp only[go_sem,h2,CJ]
 have hq:q<b.length:=by simp at h2; omega
 have hc:isByte b[q]:=hb _ (List.getElem_mem hq)
 simp only[go_sem,h2]
 refine CallK.mk _ (Am _ _ _) fun _=>?_
 rcases h6:BQ k 1 64 with _ | _
 ·have e:DN b k=none:=by
   simp only[DN,h1,List.getElem?_eq_getElem hq]
   exact if_neg (by simp[BQ] at h6; omega)
  rw[e]
  simp only[go_sem,h6,CJ]
 have hk:1≤k∧k≤64:=by simp[BQ] at h6; omega
 have hall:DN b k=match unpack (b.drop (q+1)) b[q] k with
    | none=>none
    | some o=>match raised n o with
     | none=>none
     | some l=>if Bc l=b then some l else none:=by
  simp only[DN,h1,List.getElem?_eq_getElem hq]
  exact if_pos hk
 rw[hall]
 have q1:=FQ (k:=.i64) (n:=(q:Int)+1) (m:=q+1) (by omega)
 have q5:q+1≤b.length:=hq
 have hc2:=hc.1
 have hc3:=hc.2
 have htk:(b.drop (q+1)).take (b.length-(q+1))=b.drop (q+1):=List.take_of_length_le (by simp)
 have hbd:AY (b.drop (q+1)):=fun c hc=>hb c (List.mem_of_mem_drop hc)
 have hu:=Pm (b.drop (q+1)) b[q] k hbd (by simp; omega)
 simp only[go_sem,h6,AA _ hq,q1,q5,Ar,Nat.le_refl,wrap_i64 (n:=(q:Int)+1) (by omega) (by omega),wrap_i64 (n:=b[q]) (by omega) (by omega),← List.map_drop,← List.map_take]
 refine DrawK.mkE ?_
 simp only[go_sem,AA _ hq,q1,q5,Ar,Nat.le_refl,wrap_i64 (n:=(q:Int)+1) (by omega) (by omega),wrap_i64 (n:=b[q]) (by omega) (by omega),← List.map_drop,← List.map_take,htk]
 rcases h3:unpack (b.drop (q+1)) b[q] k with _ | o<;>rw[h3] at hu<;>simp only[Su] at hu
 ·refine CallE.mk _ hu ?_
  simp only[go_sem,AA _ hq,q1,q5,Ar,Nat.le_refl,← List.map_drop,← List.map_take,htk,wrap_i64 (n:=b[q]) (by omega) (by omega),wrap_i64 (n:=(q:Int)+1) (by omega) (by omega)]
  have hr:=Py n [] (by simp)
  rcases h4:raised n [] with _ | l<;>rw[h4] at hr<;>simp only[CJ] at hr
  ·refine CallK.mk _ hr fun _=>?_
   simp only[go_sem,CJ]
  ·refine CallK.mk _ hr fun _=>?_
   simp only[go_sem,CJ]
 refine CallE.mk _ hu ?_
 have hol:=NK h3
 simp only[go_sem,AA _ hq,q1,q5,Ar,Nat.le_refl,← List.map_drop,← List.map_take,htk,wrap_i64 (n:=b[q]) (by omega) (by omega),wrap_i64 (n:=(q:Int)+1) (by omega) (by omega)]
 have hr:=Py n o (by omega)
 rcases h4:raised n o with _ | l<;>rw[h4] at hr<;>simp only[CJ] at hr
 ·refine CallK.mk _ hr fun _=>?_
  simp only[go_sem,CJ]
 have hll:=KL h4
 refine CallK.mk _ hr fun _=>?_
 simp only[go_sem]
 refine CallK.mk _ (MG l (by omega)) fun _=>?_
 simp only[go_sem]
 refine CallK.mk _ (Ff (Bc l) b) fun _=>?_
 rcases h5:decide (Bc l=b) with _ | _
 ·have e:¬ Bc l=b:=by simpa using h5
  simp only[go_sem,h5,if_neg e,CJ]
 ·have e:Bc l=b:=by simpa using h5
  simp only[go_sem,h5,if_pos e,CJ]
end Go.Proofs.YthoeeoddgkjkkaaGreat
