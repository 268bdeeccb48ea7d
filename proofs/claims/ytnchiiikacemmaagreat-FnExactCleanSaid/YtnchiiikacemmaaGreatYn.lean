/- A part. -/
import Derived.Test.YtnchiiikacemmaaGreatYl
import Derived.Test.YtnchiiikacemmaaGreatYf
import Derived.Test.YtnchiiikacemmaaGreatYk
set_option linter.unusedSimpArgs false
set_option linter.unusedVariables false
set_option maxHeartbeats 2000000
set_option maxRecDepth 10000
open Go.Proofs.Tryz
namespace Go.Proofs.YtnchiiikacemmaaGreat
open Go.Vm
theorem Qa {b:List Int} {w k:Int} {o:List Int} (h:unpack b w k=some o):o.length≤64:=by
 have h1:=LP h
 unfold unpack at h
 split at h
 ·rename_i h2
  omega
 ·cases h
theorem yA:∀ (f:Nat) (x:Int),0≤FV f x∧FV f x≤f
 | 0,_=>by simp[FV]
 | f+1,x=>by
  have:=yA f (x/2)
  rw[FV]
  split<;>omega
theorem vK (n:Int):0≤Ai n∧Ai n≤32:=by
 unfold Ai
 split
 ·exact yA 32 n
 ·omega
theorem WO (l:List Int):0≤CJ l∧CJ l≤32:=by
 have key:∀ (l:List Int) (w:Int),0≤w∧w≤32→0≤l.foldl (fun w n=>max w (Ai n)) w∧l.foldl (fun w n=>max w (Ai n)) w≤32:=by
  intro l
  induction l with
  | nil=>intro w h; exact h
  | cons n l ih =>
   intro w h
   have:=vK n
   exact ih (max w (Ai n)) ⟨by omega,by omega⟩
 exact key l 0 (by omega)
theorem Hz (l:List Int) (w:Int):(Dz l w).length≤4*l.length+1:=by
 unfold Dz
 split
 ·rename_i h
  simp only[ae,List.length_range]
  have:l.length*w.toNat≤l.length*31:=Nat.mul_le_mul_left _ (by omega)
  omega
 ·simp
theorem LK (l:List DVal) (hl:l.length≤1048576):Ctr prog 297 [.c (.sl (l.map DVal.c))] [.own 5 1 ((CV l).map byteC) true]:=by
 refine CM call297 func297 ntmps297 results297 fun hw=>?_
 simp only[go_sem]
 refine CallK.mk _ (CB l hl) fun _=>?_
 rcases h1:typeOf l != 1 with _ | _
 rotate_left
 ·have h1':typeOf l≠1:=by simpa using h1
  have e:CV l = []:=aX h1'
  rw[e]
  simp only[go_sem,h1]
  try simp[BX,AY,FT]
 have h1':typeOf l=1:=by simpa using h1
 obtain⟨q1,q2,q3⟩:=Cf (l:=l) (by omega)
 have e:CV l=EO (Bq l)++(CJ (offsets l)::Dz (offsets l) (CJ (offsets l))):=aV (by omega)
 have hol:(offsets l).length=l.length:=by rw[offsets,aV (by omega)]; simp
 rw[e]
 simp only[go_sem,h1]
 refine CallK.mk _ (dA l hl) fun _=>?_
 simp only[go_sem]
 refine CallK.mk _ (Yd (offsets l) (by omega)) fun _=>?_
 simp only[go_sem]
 refine CallK.mk _ (Yw l hl) fun _=>?_
 have hw:=WO (offsets l)
 have hpl:=Hz (offsets l) (CJ (offsets l))
 have hq:=DZ (Bq l)
 have hbn:Di (Bq l)=true:=by
  have h0:0<l.length:=by omega
  obtain⟨_,x,hx,e2⟩:=VI (aj h0)
  have:=Xc (q3 x hx).1 ((q3 x hx).2.trans h1')
  rw[DW,e2]; exact this
 have hw1:IntKind.u8.wrap (CJ (offsets l))=CJ (offsets l):=wrap_u8 (by omega) (by omega)
 simp only[go_sem]
 refine CallK.mk _ (FK [] (Bq l) (by simp)) fun _=>?_
 rw[I8 hbn,bi]
 have hl2:(EO (Bq l)).length+1≤2147483648:=by omega
 simp only[go_sem,hw1,hl2]
 refine CallK.mk _ (Ym (offsets l) (CJ (offsets l)) (by omega)) fun _=>?_
 have hl3:(EO (Bq l)).length+1+(Dz (offsets l) (CJ (offsets l))).length≤2147483648:=by omega
 simp only[go_sem,hl3,Fg]
 try simp[byteC]
theorem Ph (l:List DVal) (hl:l.length≤1048576):Ctr prog 284 [.c (.sl (l.map DVal.c))] [.own 5 1 ((CV l).map byteC) true]:=by
 refine CM call284 func284 ntmps284 results284 fun hw=>?_
 simp only[go_sem]
 refine CallK.mk _ (D_ l hl) fun _=>?_
 rcases h1:typeOf l != 1 with _ | _
 rotate_left
 ·have h1':typeOf l≠1:=by simpa using h1
  have e:CV l = []:=aX h1'
  rw[e]
  simp only[go_sem,h1]
  try simp
 have h1':typeOf l=1:=by simpa using h1
 obtain⟨q1,q2,q3⟩:=Cf (l:=l) (by omega)
 have e:CV l=EO (Bq l)++(CJ (offsets l)::Dz (offsets l) (CJ (offsets l))):=aV (by omega)
 have hol:(offsets l).length=l.length:=by rw[offsets,aV (by omega)]; simp
 rw[e]
 simp only[go_sem,h1]
 refine CallK.mk _ (dB l hl) fun _=>?_
 simp only[go_sem]
 refine CallK.mk _ (Ye (offsets l) (by omega)) fun _=>?_
 simp only[go_sem]
 refine CallK.mk _ (Yv l hl) fun _=>?_
 have hw:=WO (offsets l)
 have hpl:=Hz (offsets l) (CJ (offsets l))
 have hq:=DZ (Bq l)
 have hbn:Di (Bq l)=true:=by
  have h0:0<l.length:=by omega
  obtain⟨_,x,hx,e2⟩:=VI (aj h0)
  have:=Xc (q3 x hx).1 ((q3 x hx).2.trans h1')
  rw[DW,e2]; exact this
 have hw1:IntKind.u8.wrap (CJ (offsets l))=CJ (offsets l):=wrap_u8 (by omega) (by omega)
 simp only[go_sem]
 refine CallK.mk _ (I7 [] (Bq l) (by simp)) fun _=>?_
 rw[I8 hbn,bi]
 have hl2:(EO (Bq l)).length+1≤2147483648:=by omega
 simp only[go_sem,hw1,hl2]
 refine CallK.mk _ (Yn (offsets l) (CJ (offsets l)) (by omega)) fun _=>?_
 have hl3:(EO (Bq l)).length+1+(Dz (offsets l) (CJ (offsets l))).length≤2147483648:=by omega
 simp only[go_sem,hl3,Fg]
 try simp[byteC]
theorem Yz (b:List Int) (k:Int) (hb:AQ b) (hl:b.length≤1048576):Ctr prog 266 [.c (.sl (b.map byteC)),.c (.v (.int .i64 (k)))] (C_ (D5 b k)):=by
 rw[← WR]
 refine CM call266 func266 ntmps266 results266 fun hw=>?_
 simp only[go_sem]
 have hg:=FI b 0 hb hl
 rcases h1:BK b 0 with _ | ⟨n,q⟩<;>rw[h1] at hg<;>simp only[UH] at hg
 ·have e:H5 b k=none:=by simp only[H5,h1]
  rw[e]
  refine CallK.mk _ hg fun _=>?_
  simp only[go_sem,C_]
 refine CallK.mk _ hg fun _=>?_
 rcases h2:decide ((q:Int)≥(b.length:Int)) with _ | _
 rotate_left
 ·have e:H5 b k=none:=by
   have:b[q]?=none:=by rw[abr]; simp at h2; omega
   simp only[H5,h1,this]
  rw[e]
  simp only[go_sem,h2,C_]
 have hq:q<b.length:=by simp at h2; omega
 have hc:isByte b[q]:=hb _ (aj hq)
 have hall:H5 b k=match unpack (b.drop (q+1)) b[q] k with
    | none=>none
    | some o=>again b k ((raised n o).getD []) (CV ((raised n o).getD [])):=by simp only[H5,h1,aA hq]; rfl
 rw[hall]
 have q1:=G8 (k:=.i64) (n:=(q:Int)+1) (m:=q+1) (by omega)
 have q5:q+1≤b.length:=hq
 have hc2:=hc.1
 have hc3:=hc.2
 have q7:(b.map byteC).length-(q+1)=(b.drop (q+1)).length:=by simp
 simp only[go_sem,h2]
 have htk:(b.drop (q+1)).take (b.length-(q+1))=b.drop (q+1):=aaE (by simp)
 have hbd:AQ (b.drop (q+1)):=fun c hc=>hb c (aaH hc)
 have hu:=UI (b.drop (q+1)) b[q] k hbd (by simp; omega)
 refine DrawK.mkE ?_
 simp only[go_sem,AA _ hq,q1,q5,Be,aK,wrap_i64 (n:=(q:Int)+1) (by omega) (by omega),wrap_i64 (n:=b[q]) (by omega) (by omega),← df,← bZ,htk]
 rcases h3:unpack (b.drop (q+1)) b[q] k with _ | o<;>rw[h3] at hu<;>simp only[XZ] at hu
 ·refine CallE.mk _ hu ?_
  simp only[go_sem,C_,AA _ hq,q1,q5,Be,aK,← df,← bZ,htk,wrap_i64 (n:=b[q]) (by omega) (by omega),wrap_i64 (n:=(q:Int)+1) (by omega) (by omega)]
 refine CallE.mk _ hu ?_
 have hol:=Qa h3
 simp only[go_sem,AA _ hq,q1,q5,Be,aK,← df,← bZ,htk,wrap_i64 (n:=b[q]) (by omega) (by omega),wrap_i64 (n:=(q:Int)+1) (by omega) (by omega)]
 have hr:=kR n o (by omega)
 rcases h4:raised n o with _ | l<;>rw[h4] at hr<;>simp only[C_] at hr
 ·refine CallK.mk _ hr fun _=>?_
  simp only[go_sem,rV]
  refine CallK.mk _ (LK [] (by simp)) fun _=>?_
  simp only[go_sem]
  refine CallK.mk _ (Bg b k [] (CV [])) fun _=>?_
  rcases h5:again b k [] (CV []) with _ | l'<;>simp only[go_sem,C_]
 ·have hll:=OT h4
  refine CallK.mk _ hr fun _=>?_
  simp only[go_sem]
  refine CallK.mk _ (LK l (by omega)) fun _=>?_
  simp only[go_sem]
  refine CallK.mk _ (Bg b k l (CV l)) fun _=>?_
  rcases h5:again b k l (CV l) with _ | l'<;>simp only[go_sem,C_]
theorem Y0 (b:List Int) (k:Int) (hb:AQ b) (hl:b.length≤1048576):Ctr prog 254 [.c (.sl (b.map byteC)),.c (.v (.int .i64 (k)))] (C_ (D5 b k)):=by
 refine CM call254 func254 ntmps254 results254 fun hw=>?_
 simp only[go_sem]
 have hg:=FH b 0 hb hl
 rcases h1:BK b 0 with _ | ⟨n,q⟩<;>rw[h1] at hg<;>simp only[UH] at hg
 ·have e:D5 b k=none:=by simp only[D5,h1]
  rw[e]
  refine CallK.mk _ hg fun _=>?_
  simp only[go_sem,C_]
 refine CallK.mk _ hg fun _=>?_
 rcases h2:decide ((q:Int)≥(b.length:Int)) with _ | _
 rotate_left
 ·have e:D5 b k=none:=by
   have:b[q]?=none:=by rw[abr]; simp at h2; omega
   simp only[D5,h1,this]
  rw[e]
  simp only[go_sem,h2,C_]
 have hq:q<b.length:=by simp at h2; omega
 have hc:isByte b[q]:=hb _ (aj hq)
 simp only[go_sem,h2]
 refine CallK.mk _ (AL _ _ _) fun _=>?_
 rcases h6:Ac k 1 64 with _ | _
 ·have e:D5 b k=none:=by
   simp only[D5,h1,aA hq]
   exact aV (by simp[Ac] at h6; omega)
  rw[e]
  simp only[go_sem,C_]
 have hk:1≤k∧k≤64:=by simp[Ac] at h6; omega
 have hall:D5 b k=match unpack (b.drop (q+1)) b[q] k with
    | none=>none
    | some o=>match raised n o with
     | none=>none
     | some l=>if CV l=b then some l else none:=by
  simp only[D5,h1,aA hq]
  exact aX hk
 rw[hall]
 have q1:=G8 (k:=.i64) (n:=(q:Int)+1) (m:=q+1) (by omega)
 have q5:q+1≤b.length:=hq
 have hc2:=hc.1
 have hc3:=hc.2
 have htk:(b.drop (q+1)).take (b.length-(q+1))=b.drop (q+1):=aaE (by simp)
 have hbd:AQ (b.drop (q+1)):=fun c hc=>hb c (aaH hc)
 have hu:=UJ (b.drop (q+1)) b[q] k hbd (by simp; omega)
 simp only[go_sem]
 refine DrawK.mkE ?_
 simp only[go_sem,AA _ hq,q1,q5,Be,aK,wrap_i64 (n:=(q:Int)+1) (by omega) (by omega),wrap_i64 (n:=b[q]) (by omega) (by omega),← df,← bZ,htk]
 rcases h3:unpack (b.drop (q+1)) b[q] k with _ | o<;>rw[h3] at hu<;>simp only[XZ] at hu
 ·refine CallE.mk _ hu ?_
  simp only[go_sem,AA _ hq,q1,q5,Be,aK,← df,← bZ,htk,wrap_i64 (n:=b[q]) (by omega) (by omega),wrap_i64 (n:=(q:Int)+1) (by omega) (by omega)]
  have hr:=UQ n [] (by simp)
  rcases h4:raised n [] with _ | l<;>rw[h4] at hr<;>simp only[C_] at hr
  ·refine CallK.mk _ hr fun _=>?_
   simp only[go_sem,C_]
  ·refine CallK.mk _ hr fun _=>?_
   simp only[go_sem,C_]
 refine CallE.mk _ hu ?_
 have hol:=Qa h3
 simp only[go_sem,AA _ hq,q1,q5,Be,aK,← df,← bZ,htk,wrap_i64 (n:=b[q]) (by omega) (by omega),wrap_i64 (n:=(q:Int)+1) (by omega) (by omega)]
 have hr:=UQ n o (by omega)
 rcases h4:raised n o with _ | l<;>rw[h4] at hr<;>simp only[C_] at hr
 ·refine CallK.mk _ hr fun _=>?_
  simp only[go_sem,C_]
 have hll:=OT h4
 refine CallK.mk _ hr fun _=>?_
 simp only[go_sem]
 refine CallK.mk _ (Ph l (by omega)) fun _=>?_
 simp only[go_sem]
 refine CallK.mk _ (Hr (CV l) b) fun _=>?_
 rcases h5:decide (CV l=b) with _ | _
 ·have e:¬ CV l=b:=by simpa using h5
  simp only[go_sem,aV e,C_]
 ·have e:CV l=b:=by simpa using h5
  simp only[go_sem,aX e,C_]
theorem Pi (l:List DVal):∃ p,places (CO l) l=some p∧p.length=l.length:=by
 have key:∀ (d l:List DVal),(∀ x∈l,x∈d)→∃ p,places d l=some p∧p.length=l.length:=by
  intro d l
  induction l with
  | nil=>intro _; exact⟨[],rfl,rfl⟩
  | cons v l ih =>
   intro h
   obtain⟨p,h1,h2⟩:=ih fun x hx=>h x (aaX v hx)
   have key2:∀ (d:List DVal) (k:Nat),v∈d→∃ i,placeOf v d k=some i:=by
    intro d
    induction d with
    | nil=>intro k hk; cases hk
    | cons x r ih =>
     intro k hk
     rw[KU]
     split
     ·exact⟨_,rfl⟩
     ·rename_i hne
      rcases bW.1 hk with rfl | hk
      ·exact absurd ((I_ v v).2 rfl) hne
      ·exact ih (k+1) hk
   obtain⟨i,hi⟩:=key2 d 0 (h v (by simp))
   exact⟨i::p,by rw[places_cons,hi,h1],by simp[h2]⟩
 exact key _ _ fun x hx=>(Jw l x).2 hx
theorem R_ {l:List DVal} (h:typeOf l≠0) {p:List Int} (hp:places (CO l) l=some p):Df l=EO (CO l).length++(I5 (CO l)++Dz p (Ai ((CO l).length-1))):=by
 unfold Df
 rw[aV h,hp]; rfl
theorem Q5 (l:List DVal) (hl:l.length≤1048576):Ctr prog 282 [.c (.sl (l.map DVal.c))] [.own 5 1 ((Df l).map byteC) true]:=by
 refine CM call282 func282 ntmps282 results282 fun hw=>?_
 simp only[go_sem]
 refine CallK.mk _ (D_ l hl) fun _=>?_
 rcases h1:typeOf l==0 with _ | _
 rotate_left
 ·have h1':typeOf l=0:=by simpa using h1
  have e:Df l = []:=aX h1'
  rw[e]
  simp only[go_sem,h1]
  try simp
 have h1':typeOf l≠0:=by simpa using h1
 obtain⟨q1,q2,q3⟩:=Cf h1'
 have hdl:=NP l
 obtain⟨p,hp,hpl⟩:=Pi l
 rw[R_ h1' hp]
 simp only[go_sem,h1]
 refine CallK.mk _ (vJ l hl) fun _=>?_
 simp only[go_sem]
 have hps:=kP (CO l) l hl (by omega)
 rw[hp] at hps
 simp only[XZ] at hps
 refine CallK.mk _ hps fun _=>?_
 have hd0:0<(CO l).length:=by
  have:l[0]∈CO l:=(Jw l _).2 (aj (by omega))
  exact List.length_pos_of_mem this
 have hq:=DZ ((CO l).length:Int)
 have hdv:∀ v∈CO l,BF v=true:=fun v hv=>(q3 v ((Jw l v).1 hv)).1
 simp only[go_sem]
 refine CallK.mk _ (I7 [] ((CO l).length:Int) (by simp)) fun _=>?_
 rw[I8 (by rw[DW]; omega),bi]
 simp only[go_sem]
 have hvl:=fun i=>JW (l:=(CO l).take i) fun v hv=>hdv v (zD hv)
 refine LoopH.mk [20,23] (A:=Nat) (fun x=>[(7,.c (.v (.int .i64 (x)))),(6,.c (.ref 1))]) (fun x=>[⟨3,1,p.map intC,true,true⟩,⟨5,1,(EO (CO l).length++I5 ((CO l).take x)).map byteC,true,true⟩]) (fun x=>x≤(CO l).length) (fun x=>(CO l).length-x) 0 (Head.sel [(0,false),(2,false)] ⟨rfl,rfl,Bf _,EJ _,trivial⟩ (by simp only[abh,I5,cZ,lT,bz]; rfl)) (ak _) ?_
 rintro i hi
 simp only[go_sem]
 refine cndC.mk (fun h=>?_) (fun h=>?_)
 ·have hi':i<(CO l).length:=by simp at h; omega
  have hvi:=hvl i
  rw[bn] at hvi
  simp only[go_sem,AA _ hi']
  refine CallK.mk _ (OI _ _ (by simp only[aT]; omega)) fun _=>?_
  rw[QW (hdv _ (aj hi')),bJ,← OJ hi']
  simp only[go_sem,wrap_i64 (n:=(i:Int)+1) (by omega) (by omega)]
  exact⟨i+1,Head.sel [(0,false),(2,false)] ⟨rfl,rfl,Bf _,EJ _,trivial⟩ rfl,hi',by omega⟩
 ·have hpb:=Hz p (Ai ((CO l).length-1))
  have hw1:IntKind.i64.wrap (((CO l).length:Int)-1)=((CO l).length:Int)-1:=wrap_i64 (by omega) (by omega)
  have hvi:=hvl (CO l).length
  rw[bn] at hvi
  have hl3:(EO (CO l).length).length+(I5 (CO l)).length+(Dz p (Ai ((CO l).length-1))).length≤2147483648:=by
   rw[bP] at hvi; omega
  have hi':i=(CO l).length:=by simp at h; omega
  subst hi'
  simp only[go_sem,bP,hw1]
  refine CallK.mk _ (IK _) fun _=>?_
  simp only[go_sem]
  refine CallK.mk _ (Yn p (Ai ((CO l).length-1)) (by omega)) fun _=>?_
  simp only[go_sem,hl3,Fg,bJ,PZ]
  try simp
theorem MP (l:List DVal) (hl:l.length≤1048576):Ctr prog 295 [.c (.sl (l.map DVal.c))] [.own 5 1 ((Df l).map byteC) true]:=by
 refine CM call295 func295 ntmps295 results295 fun hw=>?_
 simp only[go_sem]
 refine CallK.mk _ (CB l hl) fun _=>?_
 rcases h1:typeOf l==0 with _ | _
 rotate_left
 ·have h1':typeOf l=0:=by simpa using h1
  have e:Df l = []:=aX h1'
  rw[e]
  simp only[go_sem,h1]
  try simp
 have h1':typeOf l≠0:=by simpa using h1
 obtain⟨q1,q2,q3⟩:=Cf h1'
 have hdl:=NP l
 obtain⟨p,hp,hpl⟩:=Pi l
 rw[R_ h1' hp]
 simp only[go_sem,h1]
 refine CallK.mk _ (vH l hl) fun _=>?_
 have hd0:0<(CO l).length:=by
  have:l[0]∈CO l:=(Jw l _).2 (aj (by omega))
  exact List.length_pos_of_mem this
 have hq:=DZ ((CO l).length:Int)
 have hdv:∀ v∈CO l,BF v=true:=fun v hv=>(q3 v ((Jw l v).1 hv)).1
 have hps:=kN (CO l) l hl (by omega)
 rw[hp] at hps
 simp only[XZ] at hps
 simp only[go_sem]
 refine CallK.mk _ (FK [] ((CO l).length:Int) (by simp)) fun _=>?_
 rw[I8 (by rw[DW]; omega),bi]
 simp only[go_sem]
 have hvl:=fun i=>JW (l:=(CO l).take i) fun v hv=>hdv v (zD hv)
 refine LoopH.mk [9,16,19] (A:=Nat) (fun x=>[(22,.c (.v (.int .i64 (x)))),(3,.c (.ref 0))]) (fun x=>[⟨5,1,(EO (CO l).length++I5 ((CO l).take x)).map byteC,true,true⟩]) (fun x=>x≤(CO l).length) (fun x=>(CO l).length-x) 0 (Head.sel [(1,false)] ⟨rfl,rfl,EJ _,trivial⟩ (by simp only[abh,I5,cZ,lT,bz]; rfl)) (ak _) ?_
 rintro i hi
 simp only[go_sem]
 refine cndC.mk (fun h=>?_) (fun h=>?_)
 ·have hi':i<(CO l).length:=by simp at h; omega
  have hvi:=hvl i
  rw[bn] at hvi
  simp only[go_sem,AA _ hi']
  refine CallK.mk _ (OH _ _ (by simp only[aT]; omega)) fun _=>?_
  rw[QW (hdv _ (aj hi')),bJ,← OJ hi']
  simp only[go_sem,wrap_i64 (n:=(i:Int)+1) (by omega) (by omega)]
  exact⟨i+1,Head.sel [(2,false)] ⟨rfl,rfl,EJ _,trivial⟩ rfl,hi',by omega⟩
 ·have hpb:=Hz p (Ai ((CO l).length-1))
  have hw1:IntKind.i64.wrap (((CO l).length:Int)-1)=((CO l).length:Int)-1:=wrap_i64 (by omega) (by omega)
  have hvi:=hvl (CO l).length
  rw[bn] at hvi
  have hl3:(EO (CO l).length).length+(I5 (CO l)).length+(Dz p (Ai ((CO l).length-1))).length≤2147483648:=by
   rw[bP] at hvi; omega
  have hi':i=(CO l).length:=by simp at h; omega
  subst hi'
  simp only[go_sem,bP]
  refine CallK.mk _ hps fun _=>?_
  simp only[go_sem,hw1]
  refine CallK.mk _ (Jd _) fun _=>?_
  simp only[go_sem]
  refine CallK.mk _ (Ym p (Ai ((CO l).length-1)) (by omega)) fun _=>?_
  simp only[go_sem,hl3,Fg,bJ,PZ]
  try simp
theorem WP (kind:Int) (l:List DVal) (hl:l.length≤1048576):Ctr prog 286 [.c (.v (.int .i64 (kind))),.c (.sl (l.map DVal.c))] [.own 5 1 ((Dq kind l).map byteC) true]:=by
 refine CM call286 func286 ntmps286 results286 fun hw=>?_
 unfold Dq
 rcases h0:kind==0 with _ | _
 rotate_left
 ·rw[aX (by simpa using h0)]
  simp only[go_sem,h0]
  refine CallK.mk _ (Pe l hl) fun _=>?_
  simp only[go_sem]
  try simp
 rw[aV (by simpa using h0)]
 rcases h1:kind==1 with _ | _
 rotate_left
 ·rw[aX (by simpa using h1)]
  simp only[go_sem,h0,h1]
  refine CallK.mk _ (Q4 l hl) fun _=>?_
  simp only[go_sem]
  try simp
 rw[aV (by simpa using h1)]
 rcases h2:kind==2 with _ | _
 rotate_left
 ·rw[aX (by simpa using h2)]
  simp only[go_sem,h0,h1,h2]
  refine CallK.mk _ (Q5 l hl) fun _=>?_
  simp only[go_sem]
  try simp
 rw[aV (by simpa using h2)]
 rcases h3:kind==3 with _ | _
 rotate_left
 ·rw[aX (by simpa using h3)]
  simp only[go_sem,h0,h1,h2,h3]
  refine CallK.mk _ (Ph l hl) fun _=>?_
  simp only[go_sem]
  try simp
 rw[aV (by simpa using h3)]
 simp only[go_sem,h0,h1,h2,h3]
 try simp
theorem Jv (kind:Int) (l:List DVal) (hl:l.length≤1048576):Ctr prog 299 [.c (.v (.int .i64 (kind))),.c (.sl (l.map DVal.c))] [.own 5 1 ((Dq kind l).map byteC) true]:=by
 refine CM call299 func299 ntmps299 results299 fun hw=>?_
 unfold Dq
 rcases h0:kind==0 with _ | _
 rotate_left
 ·rw[aX (by simpa using h0)]
  simp only[go_sem,h0]
  refine CallK.mk _ (LJ l hl) fun _=>?_
  simp only[go_sem]
  try simp
 rw[aV (by simpa using h0)]
 rcases h1:kind==1 with _ | _
 rotate_left
 ·rw[aX (by simpa using h1)]
  simp only[go_sem,h0,h1]
  refine CallK.mk _ (Q3 l hl) fun _=>?_
  simp only[go_sem]
  try simp
 rw[aV (by simpa using h1)]
 rcases h2:kind==2 with _ | _
 rotate_left
 ·rw[aX (by simpa using h2)]
  simp only[go_sem,h0,h1,h2]
  refine CallK.mk _ (MP l hl) fun _=>?_
  simp only[go_sem]
  try simp
 rw[aV (by simpa using h2)]
 rcases h3:kind==3 with _ | _
 rotate_left
 ·rw[aX (by simpa using h3)]
  simp only[go_sem,h0,h1,h2,h3]
  refine CallK.mk _ (LK l hl) fun _=>?_
  simp only[go_sem]
  try simp
 rw[aV (by simpa using h3)]
 simp only[go_sem,h0,h1,h2,h3]
 try simp[BX,AY,FT]
noncomputable def J_ (l:List DVal):Nat→Int
 | 0=>0
 | x+1=>if(x=2→typeOf l=1)∧(Dq ((x:Int)+1) l).length<(Dq (J_ l x) l).length then(x:Int)+1 else J_ l x
theorem vM (l:List DVal):bk3 l=J_ l 3:=by
 have h1:bk1 l=J_ l 1:=by simp[J_,bk1]
 have h2:bk2 l=J_ l 2:=by
  rw[bk2,h1]
  show _=(if((1:Nat)=2→typeOf l=1)∧(Dq (((1:Nat):Int)+1) l).length<(Dq (J_ l 1) l).length then((1:Nat):Int)+1 else J_ l 1)
  simp
 rw[bk3,h2]
 show _=(if((2:Nat)=2→typeOf l=1)∧(Dq (((2:Nat):Int)+1) l).length<(Dq (J_ l 2) l).length then((2:Nat):Int)+1 else J_ l 2)
 simp
theorem UR {l:List DVal} {x:Nat} (h1:x=2→typeOf l=1) (h2:(Dq ((x:Int)+1) l).length<(Dq (J_ l x) l).length):J_ l (x+1)=(x:Int)+1:=aX ⟨h1,h2⟩
theorem kS {l:List DVal} {x:Nat} (h1:x=2) (h2:typeOf l≠1):J_ l (x+1)=J_ l x:=aV fun q=>h2 (q.1 h1)
theorem UT {l:List DVal} {x:Nat} (h2:¬ (Dq ((x:Int)+1) l).length<(Dq (J_ l x) l).length):J_ l (x+1)=J_ l x:=aV fun q=>h2 q.2
theorem Y1 (l:List DVal) (hl:l.length≤1048576):Ctr prog 285 [.c (.sl (l.map DVal.c))] [.val (.c (.v (.int .i64 (Ar l))))]:=by
 refine CM call285 func285 ntmps285 results285 fun hw=>?_
 simp only[go_sem]
 refine CallK.mk _ (D_ l hl) fun _=>?_
 rcases h1:typeOf l==0 with _ | _
 rotate_left
 ·have h1':typeOf l=0:=by simpa using h1
  have e:Ar l = -1:=aX h1'
  rw[e]
  simp only[go_sem,h1]
 have e:Ar l=J_ l 3:=by rw[← vM]; exact aV (by simpa using h1)
 have e0:Dy l=Dq 0 l:=rfl
 rw[e]
 simp only[go_sem,h1]
 refine CallK.mk _ (Pe l hl) fun _=>?_
 simp only[go_sem]
 refine LoopH.mk [13] (A:=Nat) (fun x=>[(6,.c (.v (.int .i64 ((x:Int)+1)))),(5,.c (.v (.int .i64 ((Dq (J_ l x) l).length:Int)))),(4,.c (.v (.int .i64 (J_ l x))))]) (fun _=>[]) (fun x=>x≤3) (fun x=>3-x) 0 (Head.sel [] ⟨rfl,rfl,trivial⟩ rfl) (ak _) ?_
 rintro x hx
 simp only[go_sem]
 refine cndC.mk (fun h=>?_) (fun h=>?_)
 ·have hx':x<3:=by simp at h; omega
  simp only[go_sem]
  refine CallK.mk _ (WP _ l hl) fun _=>?_
  rcases h2:((x:Int)+1 != 3) with _ | _<;>rcases h3:(typeOf l==1) with _ | _<;>rcases h4:decide (((Dq ((x:Int)+1) l).length:Int)<((Dq (J_ l x) l).length:Int)) with _ | _<;>simp only[go_sem,h2,h3,h4,wrap_i64 (n:=(x:Int)+1+1) (by omega) (by omega)]
  ·have hb:J_ l (x+1)=J_ l x:=kS (by simp at h2; omega) (by simpa using h3)
   exact⟨x+1,Head.sel [] ⟨rfl,rfl,trivial⟩ (by rw[hb]; rfl),hx',by omega⟩
  ·have hb:J_ l (x+1)=J_ l x:=kS (by simp at h2; omega) (by simpa using h3)
   exact⟨x+1,Head.sel [] ⟨rfl,rfl,trivial⟩ (by rw[hb]; rfl),hx',by omega⟩
  ·have hb:J_ l (x+1)=J_ l x:=UT (by simpa using h4)
   exact⟨x+1,Head.sel [] ⟨rfl,rfl,trivial⟩ (by rw[hb]; rfl),hx',by omega⟩
  ·have hb:J_ l (x+1)=(x:Int)+1:=UR (fun _=>by simpa using h3) (by simpa using h4)
   exact⟨x+1,Head.sel [] ⟨rfl,rfl,trivial⟩ (by rw[hb]; rfl),hx',by omega⟩
  ·have hb:J_ l (x+1)=J_ l x:=UT (by simpa using h4)
   exact⟨x+1,Head.sel [] ⟨rfl,rfl,trivial⟩ (by rw[hb]; rfl),hx',by omega⟩
  ·have hb:J_ l (x+1)=(x:Int)+1:=UR (fun q=>by simp at h2; omega) (by simpa using h4)
   exact⟨x+1,Head.sel [] ⟨rfl,rfl,trivial⟩ (by rw[hb]; rfl),hx',by omega⟩
  ·have hb:J_ l (x+1)=J_ l x:=UT (by simpa using h4)
   exact⟨x+1,Head.sel [] ⟨rfl,rfl,trivial⟩ (by rw[hb]; rfl),hx',by omega⟩
  ·have hb:J_ l (x+1)=(x:Int)+1:=UR (fun q=>by simp at h2; omega) (by simpa using h4)
   exact⟨x+1,Head.sel [] ⟨rfl,rfl,trivial⟩ (by rw[hb]; rfl),hx',by omega⟩
 ·have hx':x=3:=by simp at h; omega
  subst hx'
  simp only[go_sem]
theorem Y2 (l:List DVal) (hl:l.length≤1048576):Ctr prog 298 [.c (.sl (l.map DVal.c))] [.val (.c (.v (.int .i64 (Ar l))))]:=by
 refine CM call298 func298 ntmps298 results298 fun hw=>?_
 simp only[go_sem]
 refine CallK.mk _ (CB l hl) fun _=>?_
 rcases h1:typeOf l==0 with _ | _
 rotate_left
 ·have h1':typeOf l=0:=by simpa using h1
  have e:Ar l = -1:=aX h1'
  rw[e]
  simp only[go_sem,h1]
 have e:Ar l=J_ l 3:=by rw[← vM]; exact aV (by simpa using h1)
 rw[e]
 simp only[go_sem,h1]
 refine LoopH.mk [] (A:=Nat) (fun x=>[(5,.c (.v (.int .i64 ((x:Int)+1)))),(4,.c (.v (.int .i64 (J_ l x))))]) (fun _=>[]) (fun x=>x≤3) (fun x=>3-x) 0 (Head.sel [] ⟨rfl,rfl,trivial⟩ rfl) (ak _) ?_
 rintro x hx
 simp only[go_sem]
 refine cndC.mk (fun h=>?_) (fun h=>?_)
 ·have hx':x<3:=by simp at h; omega
  rcases h2:((x:Int)+1==3) with _ | _
  ·simp only[go_sem,h2]
   refine CallK.mk _ (Jv _ l hl) fun _=>?_
   simp only[go_sem]
   refine CallK.mk _ (Jv _ l hl) fun _=>?_
   rcases h4:decide (((Dq ((x:Int)+1) l).length:Int)<((Dq (J_ l x) l).length:Int)) with _ | _<;>simp only[go_sem,h4,wrap_i64 (n:=(x:Int)+1+1) (by omega) (by omega)]
   ·have hb:J_ l (x+1)=J_ l x:=UT (by simpa using h4)
    exact⟨x+1,Head.sel [] ⟨rfl,rfl,trivial⟩ (by rw[hb]; rfl),hx',by omega⟩
   ·have hb:J_ l (x+1)=(x:Int)+1:=UR (fun q=>by simp at h2; omega) (by simpa using h4)
    exact⟨x+1,Head.sel [] ⟨rfl,rfl,trivial⟩ (by rw[hb]; rfl),hx',by omega⟩
  ·rcases h3:(typeOf l != 1) with _ | _
   ·simp only[go_sem,h2,h3]
    refine CallK.mk _ (Jv _ l hl) fun _=>?_
    simp only[go_sem]
    refine CallK.mk _ (Jv _ l hl) fun _=>?_
    rcases h4:decide (((Dq ((x:Int)+1) l).length:Int)<((Dq (J_ l x) l).length:Int)) with _ | _<;>simp only[go_sem,h4,wrap_i64 (n:=(x:Int)+1+1) (by omega) (by omega)]
    ·have hb:J_ l (x+1)=J_ l x:=UT (by simpa using h4)
     exact⟨x+1,Head.sel [] ⟨rfl,rfl,trivial⟩ (by rw[hb]; rfl),hx',by omega⟩
    ·have hb:J_ l (x+1)=(x:Int)+1:=UR (fun _=>by simpa using h3) (by simpa using h4)
     exact⟨x+1,Head.sel [] ⟨rfl,rfl,trivial⟩ (by rw[hb]; rfl),hx',by omega⟩
   ·simp only[go_sem,h2,h3,wrap_i64 (n:=(x:Int)+1+1) (by omega) (by omega)]
    have hb:J_ l (x+1)=J_ l x:=kS (by simp at h2; omega) (by simpa using h3)
    exact⟨x+1,Head.sel [] ⟨rfl,rfl,trivial⟩ (by rw[hb]; rfl),hx',by omega⟩
 ·have hx':x=3:=by simp at h; omega
  subst hx'
  simp only[go_sem]
theorem AB3 (l:List DVal):∀ x,0≤J_ l x∧J_ l x≤x
 | 0=>by simp[J_]
 | x+1=>by
  have:=AB3 l x
  rw[J_]
  split<;>omega
theorem WQ {l:List DVal} (h:typeOf l≠0):0≤Ar l∧Ar l≤3:=by
 have e:Ar l=J_ l 3:=by rw[← vM]; exact aV h
 have:=AB3 l 3
 rw[e]; omega
theorem kT (l:List DVal):(Dy l).length≤448:=by
 unfold Dy
 split
 ·simp
 ·rename_i h
  obtain⟨q1,q2,q3⟩:=Cf h
  have:=JW fun v hv=>(q3 v hv).1
  omega
theorem qV (l:List DVal):(EZ l).length≤1000:=by
 by_cases h:typeOf l=0
 ·rw[show EZ l = [] from aX h]; simp
 ·obtain⟨q1,q2,q3⟩:=Cf h
  rw[Rw l h]
  have h1:=DZ ((runs l).length:Int)
  have h2:=NK l
  have h3:=Pg VH 12 (runs l) fun x hx=>by
   have hx':=Ju hx
   have h1:=DZ x.2
   have h2:=UM (q3 _ hx'.1).1
   simp only[VH,aT]; omega
  simp only[aT]; omega
theorem qW (l:List DVal):(Df l).length≤1000:=by
 by_cases h:typeOf l=0
 ·rw[show Df l = [] from aX h]; simp
 ·obtain⟨q1,q2,q3⟩:=Cf h
  obtain⟨p,hp,hpl⟩:=Pi l
  rw[R_ h hp]
  have h1:=DZ ((CO l).length:Int)
  have h2:=NP l
  have h3:=JW (l:=CO l) fun v hv=>(q3 v ((Jw l v).1 hv)).1
  have h4:=Hz p (Ai ((CO l).length-1))
  simp only[aT]; omega
theorem kU (l:List DVal):(CV l).length≤1000:=by
 by_cases h:typeOf l=1
 ·obtain⟨q1,q2,q3⟩:=Cf (l:=l) (by omega)
  have e:CV l=EO (Bq l)++(CJ (offsets l)::Dz (offsets l) (CJ (offsets l))):=aV (by omega)
  have hol:(offsets l).length=l.length:=by rw[offsets,aV (by omega)]; simp
  have h1:=DZ (Bq l)
  have h4:=Hz (offsets l) (CJ (offsets l))
  rw[e]
  simp only[aT,bY]; omega
 ·rw[show CV l = [] from aX h]; simp
theorem VK (k:Int) (l:List DVal):(Dq k l).length≤1000:=by
 have h0:=kT l
 have h1:=qV l
 have h2:=qW l
 have h3:=kU l
 unfold Dq
 repeat' split
 all_goals first | omega | simp
theorem Y3 (l:List DVal):(Am l).length≤1001:=by
 have:=VK (Ar l) l
 unfold Am
 split
 ·simp
 ·simp only[bY]; omega
theorem KW (l:List DVal) (hl:l.length≤1048576):Ctr prog 257 [.c (.sl (l.map DVal.c))] [.own 5 1 ((Am l).map byteC) true]:=by
 refine CM call257 func257 ntmps257 results257 fun hw=>?_
 simp only[go_sem]
 refine CallK.mk _ (Y1 l hl) fun _=>?_
 rcases h1:decide (Ar l<0) with _ | _
 rotate_left
 ·have e:Am l = []:=aX (by simpa using h1)
  rw[e]
  simp only[go_sem,h1]
  try simp
 have h1':¬ Ar l<0:=by simpa using h1
 have e:Am l=Ar l::Dq (Ar l) l:=aV h1'
 have ht:typeOf l≠0:=fun q=>h1' (by rw[show Ar l = -1 from aX q]; decide)
 have hk:=WQ ht
 have hw1:IntKind.u8.wrap (Ar l)=Ar l:=wrap_u8 (by omega) (by omega)
 rw[e]
 simp only[go_sem,h1,hw1]
 have hel:=VK (Ar l) l
 have hl2:1+(Dq (Ar l) l).length≤2147483648:=by omega
 have hl3:(Dq (Ar l) l).length+1≤2147483648:=by omega
 refine CallK.mk _ (WP (Ar l) l hl) fun _=>?_
 simp only[go_sem,hl2,Fg]
 try simp
 exact B_ (Ar l::Dq (Ar l) l)
theorem EC (l:List DVal) (hl:l.length≤1048576):Ctr prog 269 [.c (.sl (l.map DVal.c))] [.own 5 1 ((Am l).map byteC) true]:=by
 refine CM call269 func269 ntmps269 results269 fun hw=>?_
 simp only[go_sem]
 refine CallK.mk _ (Y2 l hl) fun _=>?_
 rcases h1:decide (Ar l<0) with _ | _
 rotate_left
 ·have e:Am l = []:=aX (by simpa using h1)
  rw[e]
  simp only[go_sem,h1]
  try simp[BX,AY,FT]
 have h1':¬ Ar l<0:=by simpa using h1
 have e:Am l=Ar l::Dq (Ar l) l:=aV h1'
 have ht:typeOf l≠0:=fun q=>h1' (by rw[show Ar l = -1 from aX q]; decide)
 have hk:=WQ ht
 have hw1:IntKind.u8.wrap (Ar l)=Ar l:=wrap_u8 (by omega) (by omega)
 rw[e]
 simp only[go_sem,h1,hw1]
 have hel:=VK (Ar l) l
 have hl2:1+(Dq (Ar l) l).length≤2147483648:=by omega
 have hl3:(Dq (Ar l) l).length+1≤2147483648:=by omega
 refine CallK.mk _ (Jv (Ar l) l hl) fun _=>?_
 simp only[go_sem,hl2,Fg]
 try simp
 exact B_ (Ar l::Dq (Ar l) l)
end Go.Proofs.YtnchiiikacemmaaGreat
