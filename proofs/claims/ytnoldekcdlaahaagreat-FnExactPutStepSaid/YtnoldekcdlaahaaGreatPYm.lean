/- A part. -/
import Derived.Test.YtnoldekcdlaahaaGreatPYi
import Derived.Test.YtnoldekcdlaahaaGreatPYj
import Derived.Test.YtnoldekcdlaahaaGreatPYe
set_option linter.unusedSimpArgs false
set_option linter.unusedVariables false
set_option maxHeartbeats 2000000
set_option maxRecDepth 10000
open Go.Proofs.Tryz
namespace Go.Proofs.YtnoldekcdlaahaaGreat
open Go.Vm
theorem Sz {b:List Int} {w k:Int} {o:List Int} (h:unpack b w k=some o):o.length≤64:=by
 have h1:=Na h
 unfold unpack at h
 split at h
 ·rename_i h2
  omega
 ·cases h
theorem AAe:∀ (f:Nat) (x:Int),0≤Gt f x∧Gt f x≤f
 | 0,_=>by simp[Gt]
 | f+1,x=>by
  have:=AAe f (x/2)
  rw[Gt]
  split<;>omega
theorem yl (n:Int):0≤Az n∧Az n≤32:=by
 unfold Az
 split
 ·exact AAe 32 n
 ·omega
theorem YA (l:List Int):0≤DK l∧DK l≤32:=by
 have key:∀ (l:List Int) (w:Int),0≤w∧w≤32→0≤l.foldl (fun w n=>max w (Az n)) w∧l.foldl (fun w n=>max w (Az n)) w≤32:=by
  intro l
  induction l with
  | nil=>intro w h; exact h
  | cons n l ih =>
   intro w h
   have:=yl n
   exact ih (max w (Az n)) ⟨AOQ,AOQ⟩
 exact key l 0 AOQ
theorem Iy (l:List Int) (w:Int):(En l w).length≤4*l.length+1:=by
 unfold En
 split
 ·rename_i h
  simp only[ae,List.length_range]
  have:l.length*w.toNat≤l.length*31:=Nat.mul_le_mul_left _ AOQ
  omega
 ·simp
theorem NY (l:List DVal) (hl:l.length≤1048576):Ctr prog 405 [.c (.sl (l.map DVal.c))] [.own 5 1 ((Dl l).map byteC) true]:=by
 refine CM call405 func405 ntmps405 results405 fun hw=>?_
 simp only[go_sem]
 refine AAM _ (DF l hl) fun _=>?_
 rcases h1:typeOf l != 1 with _ | _
 rotate_left
 ·have h1':typeOf l≠1:=by simpa using h1
  have e:Dl l = []:=bF h1'
  exact AI6
 have h1':typeOf l=1:=AOn
 obtain⟨q1,q2,q3⟩:=Dk (l:=l) AOQ
 have e:Dl l=FO (Cm l)++(DK (offsets l)::En (offsets l) (DK (offsets l))):=bz AOQ
 have hol:(offsets l).length=l.length:=APs
 rw[e]
 simp only[go_sem,h1]
 refine AAM _ (iy l hl) fun _=>?_
 simp only[go_sem]
 refine AAM _ (d_ (offsets l) AOQ) fun _=>?_
 simp only[go_sem]
 refine AAM _ (fD l hl) fun _=>?_
 have hw:=YA (offsets l)
 have hpl:=Iy (offsets l) (DK (offsets l))
 have hq:=EN (Cm l)
 have hbn:ER (Cm l)=true:=by
  exact AMd
 have hw1:IntKind.u8.wrap (DK (offsets l))=DK (offsets l):=wrap_u8 AOQ AOQ
 simp only[go_sem]
 refine AAM _ (GX [] (Cm l) AOR) fun _=>?_
 rw[Jv hbn,aO]
 have hl2:(FO (Cm l)).length+1≤2147483648:=AOQ
 simp only[go_sem,hw1,hl2]
 refine AAM _ (eQ (offsets l) (DK (offsets l)) AOQ) fun _=>?_
 exact AMI
theorem RH (l:List DVal) (hl:l.length≤1048576):Ctr prog 401 [.c (.sl (l.map DVal.c))] [.own 5 1 ((Dl l).map byteC) true]:=by
 refine CM call401 func401 ntmps401 results401 fun hw=>?_
 simp only[go_sem]
 refine AAM _ (Ez l hl) fun _=>?_
 rcases h1:typeOf l != 1 with _ | _
 rotate_left
 ·have h1':typeOf l≠1:=by simpa using h1
  have e:Dl l = []:=bF h1'
  exact AI6
 have h1':typeOf l=1:=AOn
 obtain⟨q1,q2,q3⟩:=Dk (l:=l) AOQ
 have e:Dl l=FO (Cm l)++(DK (offsets l)::En (offsets l) (DK (offsets l))):=bz AOQ
 have hol:(offsets l).length=l.length:=APs
 rw[e]
 simp only[go_sem,h1]
 refine AAM _ (jA l hl) fun _=>?_
 simp only[go_sem]
 refine AAM _ (eF (offsets l) AOQ) fun _=>?_
 simp only[go_sem]
 refine AAM _ (fC l hl) fun _=>?_
 have hw:=YA (offsets l)
 have hpl:=Iy (offsets l) (DK (offsets l))
 have hq:=EN (Cm l)
 have hbn:ER (Cm l)=true:=by
  exact AMd
 have hw1:IntKind.u8.wrap (DK (offsets l))=DK (offsets l):=wrap_u8 AOQ AOQ
 simp only[go_sem]
 refine AAM _ (Ju [] (Cm l) AOR) fun _=>?_
 rw[Jv hbn,aO]
 have hl2:(FO (Cm l)).length+1≤2147483648:=AOQ
 simp only[go_sem,hw1,hl2]
 refine AAM _ (eU (offsets l) (DK (offsets l)) AOQ) fun _=>?_
 exact AMI
theorem fG (b:List Int) (k:Int) (hb:Ae b) (hl:b.length≤1048576):Ctr prog 394 [.c (.sl (b.map byteC)),.c (.v (.int .i64 (k)))] (Dv (Eo b k)):=by
 rw[← YC]
 refine CM call394 func394 ntmps394 results394 fun hw=>?_
 simp only[go_sem]
 have hg:=GV b 0 hb hl
 rcases h1:Bf b 0 with _ | ⟨n,q⟩<;>rw[h1] at hg<;>simp only[Ve] at hg
 ·have e:Iz b k=none:=by simp only[Iz,h1]
  rw[e]
  refine AAM _ hg fun _=>?_
  exact ALC
 refine AAM _ hg fun _=>?_
 rcases h2:decide ((q:Int)≥(b.length:Int)) with _ | _
 rotate_left
 ·have e:Iz b k=none:=by
   have:b[q]?=none:=by rw[abq]; simp at h2; omega
   simp only[Iz,h1,this]
  rw[e]
  exact ANE
 have hq:q<b.length:=AOh
 have hc:isByte b[q]:=hb _ (ax hq)
 have hall:Iz b k=match unpack (b.drop (q+1)) b[q] k with
    | none=>none
    | some o=>again b k ((raised n o).getD []) (Dl ((raised n o).getD [])):=by simp only[Iz,h1,au hq]; rfl
 rw[hall]
 have q1:=IU (k:=.i64) (n:=(q:Int)+1) (m:=q+1) AOQ
 have q5:q+1≤b.length:=hq
 have hc2:=hc.1
 have hc3:=hc.2
 have q7:(b.map byteC).length-(q+1)=(b.drop (q+1)).length:=AOR
 simp only[go_sem,h2,AA _ hq,q1,q5,BN,aT,wrap_i64 (n:=(q:Int)+1) AOQ AOQ,wrap_i64 (n:=b[q]) AOQ AOQ,← cZ,← cu]
 have htk:(b.drop (q+1)).take (b.length-(q+1))=b.drop (q+1):=aaD AOR
 have hbd:Ae (b.drop (q+1)):=fun c hc=>hb c (xR hc)
 have hu:=Vf (b.drop (q+1)) b[q] k hbd AOS
 refine ABH ?_
 simp only[go_sem,h2,AA _ hq,q1,q5,BN,aT,wrap_i64 (n:=(q:Int)+1) AOQ AOQ,wrap_i64 (n:=b[q]) AOQ AOQ,← cZ,← cu,htk]
 rcases h3:unpack (b.drop (q+1)) b[q] k with _ | o<;>rw[h3] at hu<;>simp only[Y0] at hu
 ·refine ACI _ hu ?_
  simp only[go_sem,Dv,AA _ hq,q1,q5,BN,aT,← cZ,← cu,htk,wrap_i64 (n:=b[q]) AOQ AOQ,wrap_i64 (n:=(q:Int)+1) AOQ AOQ]
 refine ACI _ hu ?_
 have hol:=Sz h3
 simp only[go_sem,AA _ hq,q1,q5,BN,aT,← cZ,← cu,htk,wrap_i64 (n:=b[q]) AOQ AOQ,wrap_i64 (n:=(q:Int)+1) AOQ AOQ]
 have hr:=oz n o AOQ
 rcases h4:raised n o with _ | l<;>rw[h4] at hr<;>simp only[Dv] at hr
 ·refine AAM _ hr fun _=>?_
  simp only[go_sem,wF]
  refine AAM _ (NY [] AOR) fun _=>?_
  simp only[go_sem]
  refine AAM _ (Cb b k [] (Dl [])) fun _=>?_
  rcases h5:again b k [] (Dl []) with _ | l'<;>simp only[go_sem,Dv]
 ·have hll:=P7 h4
  refine AAM _ hr fun _=>?_
  simp only[go_sem]
  refine AAM _ (NY l AOQ) fun _=>?_
  simp only[go_sem]
  refine AAM _ (Cb b k l (Dl l)) fun _=>?_
  rcases h5:again b k l (Dl l) with _ | l'<;>simp only[go_sem,Dv]
theorem fH (b:List Int) (k:Int) (hb:Ae b) (hl:b.length≤1048576):Ctr prog 385 [.c (.sl (b.map byteC)),.c (.v (.int .i64 (k)))] (Dv (Eo b k)):=by
 refine CM call385 func385 ntmps385 results385 fun hw=>?_
 simp only[go_sem]
 have hg:=GU b 0 hb hl
 rcases h1:Bf b 0 with _ | ⟨n,q⟩<;>rw[h1] at hg<;>simp only[Ve] at hg
 ·have e:Eo b k=none:=by simp only[Eo,h1]
  rw[e]
  refine AAM _ hg fun _=>?_
  exact ALC
 refine AAM _ hg fun _=>?_
 rcases h2:decide ((q:Int)≥(b.length:Int)) with _ | _
 rotate_left
 ·have e:Eo b k=none:=by
   have:b[q]?=none:=by rw[abq]; simp at h2; omega
   simp only[Eo,h1,this]
  rw[e]
  exact ANE
 have hq:q<b.length:=AOh
 have hc:isByte b[q]:=hb _ (ax hq)
 simp only[go_sem,h2]
 refine AAM _ (AO _ _ _) fun _=>?_
 rcases h6:Ad k 1 64 with _ | _
 ·have e:Eo b k=none:=by
   simp only[Eo,h1,au hq]
   exact bz (by simp[Ad] at h6; omega)
  rw[e]
  simp only[go_sem,h6,Dv]
 have hk:1≤k∧k≤64:=by simp[Ad] at h6; omega
 have hall:Eo b k=match unpack (b.drop (q+1)) b[q] k with
    | none=>none
    | some o=>match raised n o with
     | none=>none
     | some l=>if Dl l=b then some l else none:=by
  simp only[Eo,h1,au hq]
  exact bF hk
 rw[hall]
 have q1:=IU (k:=.i64) (n:=(q:Int)+1) (m:=q+1) AOQ
 have q5:q+1≤b.length:=hq
 have hc2:=hc.1
 have hc3:=hc.2
 have htk:(b.drop (q+1)).take (b.length-(q+1))=b.drop (q+1):=aaD AOR
 have hbd:Ae (b.drop (q+1)):=fun c hc=>hb c (xR hc)
 have hu:=Vg (b.drop (q+1)) b[q] k hbd AOS
 simp only[go_sem,h6,AA _ hq,q1,q5,BN,aT,wrap_i64 (n:=(q:Int)+1) AOQ AOQ,wrap_i64 (n:=b[q]) AOQ AOQ,← cZ,← cu]
 refine ABH ?_
 simp only[go_sem,AA _ hq,q1,q5,BN,aT,wrap_i64 (n:=(q:Int)+1) AOQ AOQ,wrap_i64 (n:=b[q]) AOQ AOQ,← cZ,← cu,htk]
 rcases h3:unpack (b.drop (q+1)) b[q] k with _ | o<;>rw[h3] at hu<;>simp only[Y0] at hu
 ·refine ACI _ hu ?_
  simp only[go_sem,AA _ hq,q1,q5,BN,aT,← cZ,← cu,htk,wrap_i64 (n:=b[q]) AOQ AOQ,wrap_i64 (n:=(q:Int)+1) AOQ AOQ]
  have hr:=Vp n [] AOR
  rcases h4:raised n [] with _ | l<;>rw[h4] at hr<;>simp only[Dv] at hr
  ·exact AKZ
  ·exact AKZ
 refine ACI _ hu ?_
 have hol:=Sz h3
 simp only[go_sem,AA _ hq,q1,q5,BN,aT,← cZ,← cu,htk,wrap_i64 (n:=b[q]) AOQ AOQ,wrap_i64 (n:=(q:Int)+1) AOQ AOQ]
 have hr:=Vp n o AOQ
 rcases h4:raised n o with _ | l<;>rw[h4] at hr<;>simp only[Dv] at hr
 ·exact AKZ
 have hll:=P7 h4
 refine AAM _ hr fun _=>?_
 simp only[go_sem]
 refine AAM _ (RH l AOQ) fun _=>?_
 simp only[go_sem]
 refine AAM _ (Ik (Dl l) b) fun _=>?_
 rcases h5:decide (Dl l=b) with _ | _
 ·have e:¬ Dl l=b:=by simpa using h5
  simp only[go_sem,h5,bz e,Dv]
 ·have e:Dl l=b:=by simpa using h5
  simp only[go_sem,h5,bF e,Dv]
end Go.Proofs.YtnoldekcdlaahaaGreat
