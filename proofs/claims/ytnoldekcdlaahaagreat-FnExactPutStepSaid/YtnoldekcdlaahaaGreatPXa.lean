/- A part. -/
import Derived.Test.YtnoldekcdlaahaaGreatPYo
import Derived.Test.YtnoldekcdlaahaaGreatPYk
import Derived.Test.YtnoldekcdlaahaaGreatPYm
import Derived.Test.YtnoldekcdlaahaaGreatPAc
set_option linter.unusedSimpArgs false
set_option linter.unusedVariables false
set_option maxHeartbeats 2000000
set_option maxRecDepth 10000
open Go.Proofs.Tryz
namespace Go.Proofs.YtnoldekcdlaahaaGreat
open Go.Vm
theorem Q7 (l:List DVal):∃ p,places (DL l) l=some p∧p.length=l.length:=by
 have key:∀ (d l:List DVal),(∀ x∈l,x∈d)→∃ p,places d l=some p∧p.length=l.length:=by
  intro d l
  induction l with
  | nil=>intro _; exact⟨[],rfl,rfl⟩
  | cons v l ih =>
   intro h
   obtain⟨p,h1,h2⟩:=ih fun x hx=>h x (abg v hx)
   have key2:∀ (d:List DVal) (k:Nat),v∈d→∃ i,placeOf v d k=some i:=by
    intro d
    induction d with
    | nil=>intro k hk; cases hk
    | cons x r ih =>
     intro k hk
     rw[MW]
     split
     ·exact⟨_,rfl⟩
     ·rename_i hne
      rcases SK.1 hk with rfl | hk
      ·exact absurd ((LD v v).2 rfl) hne
      ·exact ih (k+1) hk
   obtain⟨i,hi⟩:=key2 d 0 (h v AOR)
   exact⟨i::p,by rw[places_cons,hi,h1],by simp[h2]⟩
 exact key _ _ fun x hx=>(Ld l x).2 hx
theorem UJ {l:List DVal} (h:typeOf l≠0) {p:List Int} (hp:places (DL l) l=some p):Eb l=FO (DL l).length++(Jy (DL l)++En p (Az ((DL l).length-1))):=by
 unfold Eb
 rw[bz h,hp]; rfl
theorem TS (l:List DVal) (hl:l.length≤1048576):Ctr prog 400 [.c (.sl (l.map DVal.c))] [.own 5 1 ((Eb l).map byteC) true]:=by
 refine CM call400 func400 ntmps400 results400 fun hw=>?_
 simp only[go_sem]
 refine AAM _ (Ez l hl) fun _=>?_
 rcases h1:typeOf l==0 with _ | _
 rotate_left
 ·have h1':typeOf l=0:=by simpa using h1
  have e:Eb l = []:=bF h1'
  exact AI6
 have h1':typeOf l≠0:=AOn
 obtain⟨q1,q2,q3⟩:=Dk h1'
 have hdl:=O6 l
 obtain⟨p,hp,hpl⟩:=Q7 l
 rw[UJ h1' hp]
 simp only[go_sem,h1]
 refine AAM _ (yu l hl) fun _=>?_
 simp only[go_sem]
 have hps:=oq (DL l) l hl AOQ
 rw[hp] at hps
 simp only[Y0] at hps
 refine AAM _ hps fun _=>?_
 have hd0:0<(DL l).length:=by
  exact ANx
 have hq:=EN ((DL l).length:Int)
 have hdv:∀ v∈DL l,BQ v=true:=fun v hv=>(q3 v ((Ld l v).1 hv)).1
 simp only[go_sem]
 refine AAM _ (Ju [] ((DL l).length:Int) AOR) fun _=>?_
 rw[Jv (by rw[EH]; omega),aO]
 simp only[go_sem]
 have hvl:=fun i=>Kq (l:=(DL l).take i) fun v hv=>hdv v (ru hv)
 refine ABZ [20,23] (A:=Nat) (fun x=>[(7,.c (.v (.int .i64 (x)))),(6,.c (.ref 1))]) (fun x=>[⟨3,1,p.map intC,true,true⟩,⟨5,1,(FO (DL l).length++Jy ((DL l).take x)).map byteC,true,true⟩]) (fun x=>x≤(DL l).length) (fun x=>(DL l).length-x) 0 (ABJ [(0,false),(2,false)] ⟨rfl,rfl,CX _,FI _,trivial⟩ (by simp only[abj,Jy,di,aaH,bQ]; rfl)) (aA _) ?_
 rintro i hi
 refine AOJ (fun h=>?_) fun h=>?_
 ·have hi':i<(DL l).length:=by simp at h; omega
  have hvi:=hvl i
  rw[bI] at hvi
  simp only[go_sem,AA _ hi']
  refine AAM _ (Px _ _ AO8) fun _=>?_
  rw[Sr (hdv _ (ax hi')),bT,← Py hi']
  simp only[go_sem,wrap_i64 (n:=(i:Int)+1) AOQ AOQ]
  exact⟨i+1,ABJ [(0,false),(2,false)] ⟨rfl,rfl,CX _,FI _,trivial⟩ rfl,hi',AOQ⟩
 ·have hpb:=Iy p (Az ((DL l).length-1))
  have hw1:IntKind.i64.wrap (((DL l).length:Int)-1)=((DL l).length:Int)-1:=wrap_i64 AOQ AOQ
  have hvi:=hvl (DL l).length
  rw[bI] at hvi
  have hl3:(FO (DL l).length).length+(Jy (DL l)).length+(En p (Az ((DL l).length-1))).length≤2147483648:=by
   rw[bM] at hvi; omega
  have hi':i=(DL l).length:=AOc
  subst hi'
  simp only[go_sem,bM,hw1]
  refine AAM _ (JI _) fun _=>?_
  simp only[go_sem,hw1]
  refine AAM _ (eU p (Az ((DL l).length-1)) AOQ) fun _=>?_
  simp only[go_sem,hl3,F_,bT,RD]
  try exact AII
theorem OT (l:List DVal) (hl:l.length≤1048576):Ctr prog 404 [.c (.sl (l.map DVal.c))] [.own 5 1 ((Eb l).map byteC) true]:=by
 refine CM call404 func404 ntmps404 results404 fun hw=>?_
 simp only[go_sem]
 refine AAM _ (DF l hl) fun _=>?_
 rcases h1:typeOf l==0 with _ | _
 rotate_left
 ·have h1':typeOf l=0:=by simpa using h1
  have e:Eb l = []:=bF h1'
  exact AI6
 have h1':typeOf l≠0:=AOn
 obtain⟨q1,q2,q3⟩:=Dk h1'
 have hdl:=O6 l
 obtain⟨p,hp,hpl⟩:=Q7 l
 rw[UJ h1' hp]
 simp only[go_sem,h1]
 refine AAM _ (yx l hl) fun _=>?_
 have hd0:0<(DL l).length:=by
  exact ANx
 have hq:=EN ((DL l).length:Int)
 have hdv:∀ v∈DL l,BQ v=true:=fun v hv=>(q3 v ((Ld l v).1 hv)).1
 have hps:=oh (DL l) l hl AOQ
 rw[hp] at hps
 simp only[Y0] at hps
 simp only[go_sem]
 refine AAM _ (GX [] ((DL l).length:Int) AOR) fun _=>?_
 rw[Jv (by rw[EH]; omega),aO]
 simp only[go_sem]
 have hvl:=fun i=>Kq (l:=(DL l).take i) fun v hv=>hdv v (ru hv)
 refine ABZ [9,16,19] (A:=Nat) (fun x=>[(22,.c (.v (.int .i64 (x)))),(3,.c (.ref 0))]) (fun x=>[⟨5,1,(FO (DL l).length++Jy ((DL l).take x)).map byteC,true,true⟩]) (fun x=>x≤(DL l).length) (fun x=>(DL l).length-x) 0 (ABJ [(1,false)] ⟨rfl,rfl,FI _,trivial⟩ (by simp only[abj,Jy,di,aaH,bQ]; rfl)) (aA _) ?_
 rintro i hi
 refine AOJ (fun h=>?_) fun h=>?_
 ·have hi':i<(DL l).length:=by simp at h; omega
  have hvi:=hvl i
  rw[bI] at hvi
  simp only[go_sem,AA _ hi']
  refine AAM _ (Pv _ _ AO8) fun _=>?_
  rw[Sr (hdv _ (ax hi')),bT,← Py hi']
  exact AMX
 ·have hpb:=Iy p (Az ((DL l).length-1))
  have hw1:IntKind.i64.wrap (((DL l).length:Int)-1)=((DL l).length:Int)-1:=wrap_i64 AOQ AOQ
  have hvi:=hvl (DL l).length
  rw[bI] at hvi
  have hl3:(FO (DL l).length).length+(Jy (DL l)).length+(En p (Az ((DL l).length-1))).length≤2147483648:=by
   rw[bM] at hvi; omega
  have hi':i=(DL l).length:=AOc
  subst hi'
  simp only[go_sem,bM]
  refine AAM _ hps fun _=>?_
  simp only[go_sem,hw1]
  refine AAM _ (LC _) fun _=>?_
  simp only[go_sem,hw1]
  refine AAM _ (eQ p (Az ((DL l).length-1)) AOQ) fun _=>?_
  simp only[go_sem,hl3,F_,bT,RD]
  try exact AII
theorem X0 (kind:Int) (l:List DVal) (hl:l.length≤1048576):Ctr prog 369 [.c (.v (.int .i64 (kind))),.c (.sl (l.map DVal.c))] [.own 5 1 ((EZ kind l).map byteC) true]:=by
 refine CM call369 func369 ntmps369 results369 fun hw=>?_
 unfold EZ
 rcases h0:kind==0 with _ | _
 rotate_left
 ·rw[bF APZ]
  simp only[go_sem,h0]
  refine AAM _ (RF l hl) fun _=>?_
  simp only[go_sem]
  try exact AII
 rw[bz APZ]
 rcases h1:kind==1 with _ | _
 rotate_left
 ·rw[bF AOn]
  simp only[go_sem,h0,h1]
  refine AAM _ (TU l hl) fun _=>?_
  simp only[go_sem]
  try exact AII
 rw[bz AOn]
 rcases h2:kind==2 with _ | _
 rotate_left
 ·rw[bF APG]
  simp only[go_sem,h0,h1,h2]
  refine AAM _ (TS l hl) fun _=>?_
  simp only[go_sem]
  try exact AII
 rw[bz APG]
 rcases h3:kind==3 with _ | _
 rotate_left
 ·rw[bF AOm]
  simp only[go_sem,h0,h1,h2,h3]
  refine AAM _ (RH l hl) fun _=>?_
  simp only[go_sem]
  try exact AII
 rw[bz AOm]
 simp only[go_sem,h0,h1,h2,h3]
 try exact AJ7
theorem La (kind:Int) (l:List DVal) (hl:l.length≤1048576):Ctr prog 373 [.c (.v (.int .i64 (kind))),.c (.sl (l.map DVal.c))] [.own 5 1 ((EZ kind l).map byteC) true]:=by
 refine CM call373 func373 ntmps373 results373 fun hw=>?_
 unfold EZ
 rcases h0:kind==0 with _ | _
 rotate_left
 ·rw[bF APZ]
  simp only[go_sem,h0]
  refine AAM _ (NW l hl) fun _=>?_
  simp only[go_sem]
  try exact AII
 rw[bz APZ]
 rcases h1:kind==1 with _ | _
 rotate_left
 ·rw[bF AOn]
  simp only[go_sem,h0,h1]
  refine AAM _ (TT l hl) fun _=>?_
  simp only[go_sem]
  try exact AII
 rw[bz AOn]
 rcases h2:kind==2 with _ | _
 rotate_left
 ·rw[bF APG]
  simp only[go_sem,h0,h1,h2]
  refine AAM _ (OT l hl) fun _=>?_
  simp only[go_sem]
  try exact AII
 rw[bz APG]
 rcases h3:kind==3 with _ | _
 rotate_left
 ·rw[bF AOm]
  simp only[go_sem,h0,h1,h2,h3]
  refine AAM _ (NY l hl) fun _=>?_
  simp only[go_sem]
  try exact AII
 rw[bz AOm]
 simp only[go_sem,h0,h1,h2,h3]
 try exact AJ7
noncomputable def Ls (l:List DVal):Nat→Int
 | 0=>0
 | x+1=>if(x=2→typeOf l=1)∧(EZ ((x:Int)+1) l).length<(EZ (Ls l x) l).length then(x:Int)+1 else Ls l x
theorem yP (l:List DVal):bk3 l=Ls l 3:=by
 have h1:bk1 l=Ls l 1:=by simp[Ls,bk1]
 have h2:bk2 l=Ls l 2:=by
  rw[bk2,h1]
  show _=(if((1:Nat)=2→typeOf l=1)∧(EZ (((1:Nat):Int)+1) l).length<(EZ (Ls l 1) l).length then((1:Nat):Int)+1 else Ls l 1)
  simp
 rw[bk3,h2]
 show _=(if((2:Nat)=2→typeOf l=1)∧(EZ (((2:Nat):Int)+1) l).length<(EZ (Ls l 2) l).length then((2:Nat):Int)+1 else Ls l 2)
 simp
theorem VY {l:List DVal} {x:Nat} (h1:x=2→typeOf l=1) (h2:(EZ ((x:Int)+1) l).length<(EZ (Ls l x) l).length):Ls l (x+1)=(x:Int)+1:=bF ⟨h1,h2⟩
theorem oD {l:List DVal} {x:Nat} (h1:x=2) (h2:typeOf l≠1):Ls l (x+1)=Ls l x:=bz fun q=>h2 (q.1 h1)
theorem VZ {l:List DVal} {x:Nat} (h2:¬ (EZ ((x:Int)+1) l).length<(EZ (Ls l x) l).length):Ls l (x+1)=Ls l x:=bz fun q=>h2 q.2
theorem dJ (l:List DVal) (hl:l.length≤1048576):Ctr prog 368 [.c (.sl (l.map DVal.c))] [.val (.c (.v (.int .i64 (BC l))))]:=by
 refine CM call368 func368 ntmps368 results368 fun hw=>?_
 simp only[go_sem]
 refine AAM _ (Ez l hl) fun _=>?_
 rcases h1:typeOf l==0 with _ | _
 rotate_left
 ·exact ANP
 have e:BC l=Ls l 3:=by rw[← yP]; exact bz AOn
 have e0:Em l=EZ 0 l:=rfl
 rw[e]
 simp only[go_sem,h1]
 refine AAM _ (RF l hl) fun _=>?_
 simp only[go_sem]
 refine ABZ [13] (A:=Nat) (fun x=>[(6,.c (.v (.int .i64 ((x:Int)+1)))),(5,.c (.v (.int .i64 ((EZ (Ls l x) l).length:Int)))),(4,.c (.v (.int .i64 (Ls l x))))]) (fun _=>[]) (fun x=>x≤3) (fun x=>3-x) 0 (ABJ [] ⟨rfl,rfl,trivial⟩ rfl) (aA _) ?_
 rintro x hx
 refine AOJ (fun h=>?_) fun h=>?_
 ·have hx':x<3:=by simp at h; omega
  simp only[go_sem]
  refine AAM _ (X0 _ l hl) fun _=>?_
  rcases h2:((x:Int)+1 != 3) with _ | _<;>rcases h3:(typeOf l==1) with _ | _<;>rcases h4:decide (((EZ ((x:Int)+1) l).length:Int)<((EZ (Ls l x) l).length:Int)) with _ | _<;>simp only[go_sem,h2,h3,h4,wrap_i64 (n:=(x:Int)+1+1) AOQ AOQ]
  ·have hb:Ls l (x+1)=Ls l x:=oD AOh AOm
   exact AID
  ·have hb:Ls l (x+1)=Ls l x:=oD AOh AOm
   exact AID
  ·have hb:Ls l (x+1)=Ls l x:=VZ AO2
   exact AID
  ·have hb:Ls l (x+1)=(x:Int)+1:=VY (fun _=>AOm) AO2
   exact AID
  ·have hb:Ls l (x+1)=Ls l x:=VZ AO2
   exact AID
  ·have hb:Ls l (x+1)=(x:Int)+1:=VY (fun q=>AOh) AO2
   exact AID
  ·have hb:Ls l (x+1)=Ls l x:=VZ AO2
   exact AID
  ·have hb:Ls l (x+1)=(x:Int)+1:=VY (fun q=>AOh) AO2
   exact AID
 ·have hx':x=3:=by simp at h; omega
  subst hx'
  exact AI5
theorem dK (l:List DVal) (hl:l.length≤1048576):Ctr prog 372 [.c (.sl (l.map DVal.c))] [.val (.c (.v (.int .i64 (BC l))))]:=by
 refine CM call372 func372 ntmps372 results372 fun hw=>?_
 simp only[go_sem]
 refine AAM _ (DF l hl) fun _=>?_
 rcases h1:typeOf l==0 with _ | _
 rotate_left
 ·exact ANP
 have e:BC l=Ls l 3:=by rw[← yP]; exact bz AOn
 rw[e]
 simp only[go_sem,h1]
 refine ABZ [] (A:=Nat) (fun x=>[(5,.c (.v (.int .i64 ((x:Int)+1)))),(4,.c (.v (.int .i64 (Ls l x))))]) (fun _=>[]) (fun x=>x≤3) (fun x=>3-x) 0 (ABJ [] ⟨rfl,rfl,trivial⟩ rfl) (aA _) ?_
 rintro x hx
 refine AOJ (fun h=>?_) fun h=>?_
 ·have hx':x<3:=by simp at h; omega
  rcases h2:((x:Int)+1==3) with _ | _
  ·simp only[go_sem,h2]
   refine AAM _ (La _ l hl) fun _=>?_
   simp only[go_sem]
   refine AAM _ (La _ l hl) fun _=>?_
   rcases h4:decide (((EZ ((x:Int)+1) l).length:Int)<((EZ (Ls l x) l).length:Int)) with _ | _<;>simp only[go_sem,h4,wrap_i64 (n:=(x:Int)+1+1) AOQ AOQ]
   ·have hb:Ls l (x+1)=Ls l x:=VZ AO2
    exact AID
   ·have hb:Ls l (x+1)=(x:Int)+1:=VY (fun q=>AOh) AO2
    exact AID
  ·rcases h3:(typeOf l != 1) with _ | _
   ·simp only[go_sem,h2,h3]
    refine AAM _ (La _ l hl) fun _=>?_
    simp only[go_sem]
    refine AAM _ (La _ l hl) fun _=>?_
    rcases h4:decide (((EZ ((x:Int)+1) l).length:Int)<((EZ (Ls l x) l).length:Int)) with _ | _<;>simp only[go_sem,h4,wrap_i64 (n:=(x:Int)+1+1) AOQ AOQ]
    ·have hb:Ls l (x+1)=Ls l x:=VZ AO2
     exact AID
    ·have hb:Ls l (x+1)=(x:Int)+1:=VY (fun _=>AOm) AO2
     exact AID
   ·simp only[go_sem,h2,h3,wrap_i64 (n:=(x:Int)+1+1) AOQ AOQ]
    have hb:Ls l (x+1)=Ls l x:=oD AOh AOm
    exact AID
 ·have hx':x=3:=by simp at h; omega
  subst hx'
  exact AI5
theorem AD3 (l:List DVal):∀ x,0≤Ls l x∧Ls l x≤x
 | 0=>by simp[Ls]
 | x+1=>by
  have:=AD3 l x
  rw[Ls]
  split<;>omega
theorem X3 {l:List DVal} (h:typeOf l≠0):0≤BC l∧BC l≤3:=by
 have e:BC l=Ls l 3:=by rw[← yP]; exact bz h
 have:=AD3 l 3
 rw[e]; omega
theorem oG (l:List DVal):(Em l).length≤448:=by
 unfold Em
 split
 ·simp
 ·rename_i h
  obtain⟨q1,q2,q3⟩:=Dk h
  have:=Kq fun v hv=>(q3 v hv).1
  omega
theorem uO (l:List DVal):(FX l).length≤1000:=by
 by_cases h:typeOf l=0
 ·rw[show FX l = [] from bF h]; simp
 ·obtain⟨q1,q2,q3⟩:=Dk h
  rw[UR l h]
  have h1:=EN ((runs l).length:Int)
  have h2:=O4 l
  have h3:=RG XJ 12 (runs l) fun x hx=>by
   have hx':=Lc hx
   exact AMg
  simp only[bu]; omega
theorem uP (l:List DVal):(Eb l).length≤1000:=by
 by_cases h:typeOf l=0
 ·rw[show Eb l = [] from bF h]; simp
 ·obtain⟨q1,q2,q3⟩:=Dk h
  obtain⟨p,hp,hpl⟩:=Q7 l
  rw[UJ h hp]
  have h1:=EN ((DL l).length:Int)
  have h2:=O6 l
  have h3:=Kq (l:=DL l) fun v hv=>(q3 v ((Ld l v).1 hv)).1
  have h4:=Iy p (Az ((DL l).length-1))
  simp only[bu]; omega
theorem oH (l:List DVal):(Dl l).length≤1000:=by
 by_cases h:typeOf l=1
 ·obtain⟨q1,q2,q3⟩:=Dk (l:=l) AOQ
  have e:Dl l=FO (Cm l)++(DK (offsets l)::En (offsets l) (DK (offsets l))):=bz AOQ
  have hol:(offsets l).length=l.length:=APs
  have h1:=EN (Cm l)
  have h4:=Iy (offsets l) (DK (offsets l))
  rw[e]
  simp only[bu,aI]; omega
 ·rw[show Dl l = [] from bF h]; simp
theorem W9 (k:Int) (l:List DVal):(EZ k l).length≤1000:=by
 have h0:=oG l
 have h1:=uO l
 have h2:=uP l
 have h3:=oH l
 unfold EZ
 repeat' split
 all_goals first | omega | simp
theorem dL (l:List DVal):(A8 l).length≤1001:=by
 have:=W9 (BC l) l
 unfold A8
 split
 ·simp
 ·simp only[aI]; omega
theorem MO (l:List DVal) (hl:l.length≤1048576):Ctr prog 327 [.c (.sl (l.map DVal.c))] [.own 5 1 ((A8 l).map byteC) true]:=by
 refine CM call327 func327 ntmps327 results327 fun hw=>?_
 simp only[go_sem]
 refine AAM _ (dJ l hl) fun _=>?_
 rcases h1:decide (BC l<0) with _ | _
 rotate_left
 ·have e:A8 l = []:=bF AOn
  exact AI6
 have h1':¬ BC l<0:=AOn
 have e:A8 l=BC l::EZ (BC l) l:=bz h1'
 have ht:typeOf l≠0:=fun q=>h1' (by rw[show BC l = -1 from bF q]; decide)
 have hk:=X3 ht
 have hw1:IntKind.u8.wrap (BC l)=BC l:=wrap_u8 AOQ AOQ
 rw[e]
 simp only[go_sem,h1,hw1]
 have hel:=W9 (BC l) l
 have hl2:1+(EZ (BC l) l).length≤2147483648:=AOQ
 have hl3:(EZ (BC l) l).length+1≤2147483648:=AOQ
 refine AAM _ (X0 (BC l) l hl) fun _=>?_
 exact ANV
theorem Ey (l:List DVal) (hl:l.length≤1048576):Ctr prog 333 [.c (.sl (l.map DVal.c))] [.own 5 1 ((A8 l).map byteC) true]:=by
 refine CM call333 func333 ntmps333 results333 fun hw=>?_
 simp only[go_sem]
 refine AAM _ (dK l hl) fun _=>?_
 rcases h1:decide (BC l<0) with _ | _
 rotate_left
 ·have e:A8 l = []:=bF AOn
  exact AI6
 have h1':¬ BC l<0:=AOn
 have e:A8 l=BC l::EZ (BC l) l:=bz h1'
 have ht:typeOf l≠0:=fun q=>h1' (by rw[show BC l = -1 from bF q]; decide)
 have hk:=X3 ht
 have hw1:IntKind.u8.wrap (BC l)=BC l:=wrap_u8 AOQ AOQ
 rw[e]
 simp only[go_sem,h1,hw1]
 have hel:=W9 (BC l) l
 have hl2:1+(EZ (BC l) l).length≤2147483648:=AOQ
 have hl3:(EZ (BC l) l).length+1≤2147483648:=AOQ
 refine AAM _ (La (BC l) l hl) fun _=>?_
 exact ANV
theorem iW (b:List Int) (ty k:Int) (hb:Ae b) (hl:b.length≤1048576):Ctr prog 393 [.c (.sl (b.map byteC)),.c (.v (.int .i64 (ty))),.c (.v (.int .i64 (k)))] (Dv (F5 b ty k)):=by
 rw[← fP hb]
 refine CM call393 func393 ntmps393 results393 fun hw=>?_
 simp only[go_sem]
 have hg:=GV b 0 hb hl
 rcases h1:Bf b 0 with _ | ⟨n,q⟩<;>rw[h1] at hg<;>simp only[Ve] at hg
 ·have e:Jz b ty k=none:=by simp only[Jz,h1]
  rw[e]
  refine AAM _ hg fun _=>?_
  exact ALC
 refine AAM _ hg fun _=>?_
 simp only[go_sem]
 refine AAM _ (AL _ _ _) fun _=>?_
 rcases h2:Ad n 1 64 with _ | _
 ·have e:Jz b ty k=none:=by simp only[Jz,h1]; exact bz AOa
  rw[e]
  exact ANE
 have h2':1≤n∧n≤64:=AOa
 have hall:Jz b ty k=match CS b ty n.toNat q with
   | none=>none
   | some (d,q)=>match unpack (b.drop q) (Az (n-1)) k with
    | none=>none
    | some o=>again b k ((picked d o).getD []) (Eb ((picked d o).getD [])):=by simp only[Jz,h1]; exact bF h2'
 rw[hall]
 have hgv:=Vl b q ty n hb hl h2'.2
 simp only[go_sem,h2]
 rcases h3:CS b ty n.toNat q with _ | ⟨d,q2⟩<;>rw[h3] at hgv<;>simp only[AD9] at hgv
 ·refine AAM _ hgv fun _=>?_
  exact ALC
 refine AAM _ hgv fun _=>?_
 have hq0:=(II hb h1).2.2.1
 obtain⟨a1,a2,a3,_⟩:=JS hb _ _ _ _ hq0 h3
 have q1:=IU (k:=.i64) (n:=(q2:Int)) (m:=q2) AOQ
 have hw1:IntKind.i64.wrap (n-1)=n-1:=wrap_i64 AOQ AOQ
 have htk:(b.drop q2).take (b.length-q2)=b.drop q2:=aaD AOR
 have hbd:Ae (b.drop q2):=fun c hc=>hb c (xR hc)
 have hu:=Vf (b.drop q2) (Az (n-1)) k hbd AOS
 simp only[go_sem,q1,a2,BN,aT,← cZ,← cu,htk,hw1]
 refine ABH ?_
 simp only[go_sem,q1,a2,BN,aT,← cZ,← cu,htk,hw1]
 refine ACI _ (LC _) ?_
 simp only[go_sem,q1,a2,BN,aT,← cZ,← cu,htk,hw1]
 rcases h4:unpack (b.drop q2) (Az (n-1)) k with _ | o<;>rw[h4] at hu<;>simp only[Y0] at hu
 ·refine ACI _ hu ?_
  simp only[go_sem,q1,a2,BN,aT,← cZ,← cu,htk,hw1]
  exact ALC
 refine ACI _ hu ?_
 have hol:=Sz h4
 simp only[go_sem,q1,a2,BN,aT,← cZ,← cu,htk,hw1]
 have hr:=ou d o AOQ AOQ
 rcases h5:picked d o with _ | l<;>rw[h5] at hr<;>simp only[Dv] at hr
 ·refine AAM _ hr fun _=>?_
  simp only[go_sem,wF]
  refine AAM _ (OT [] AOR) fun _=>?_
  simp only[go_sem]
  refine AAM _ (Cb b k [] (Eb [])) fun _=>?_
  rcases h6:again b k [] (Eb []) with _ | l'<;>simp only[go_sem,Dv]
 ·have hll:=Nb h5
  refine AAM _ hr fun _=>?_
  simp only[go_sem]
  refine AAM _ (OT l AOQ) fun _=>?_
  simp only[go_sem]
  refine AAM _ (Cb b k l (Eb l)) fun _=>?_
  rcases h6:again b k l (Eb l) with _ | l'<;>simp only[go_sem,Dv]
theorem iY (b:List Int) (ty k:Int) (hb:Ae b) (hl:b.length≤1048576):Ctr prog 384 [.c (.sl (b.map byteC)),.c (.v (.int .i64 (ty))),.c (.v (.int .i64 (k)))] (Dv (F5 b ty k)):=by
 refine CM call384 func384 ntmps384 results384 fun hw=>?_
 simp only[go_sem]
 have hg:=GU b 0 hb hl
 rcases h1:Bf b 0 with _ | ⟨n,q⟩<;>rw[h1] at hg<;>simp only[Ve] at hg
 ·have e:F5 b ty k=none:=by simp only[F5,h1]
  rw[e]
  refine AAM _ hg fun _=>?_
  exact ALC
 refine AAM _ hg fun _=>?_
 simp only[go_sem]
 refine AAM _ (AO _ _ _) fun _=>?_
 rcases h2:Ad k 1 64 with _ | _
 ·have e:F5 b ty k=none:=by simp only[F5,h1]; exact bz AOa
  rw[e]
  exact ANE
 simp only[go_sem,h2]
 refine AAM _ (AO _ _ _) fun _=>?_
 rcases h3:Ad n 1 k with _ | _
 ·have e:F5 b ty k=none:=by simp only[F5,h1]; exact bz APx
  rw[e]
  simp only[go_sem,h3,Dv]
 have hk:1≤k∧k≤64:=AOa
 have hn:1≤n∧n≤k:=APx
 have hall:F5 b ty k=match CS b ty n.toNat q with
   | none=>none
   | some (d,q)=>match unpack (b.drop q) (Az (n-1)) k with
    | none=>none
    | some o=>match picked d o with
     | none=>none
     | some l=>if Eb l=b then some l else none:=by simp only[F5,h1]; exact bF ⟨hk,hn⟩
 rw[hall]
 simp only[go_sem,h3]
 obtain⟨N,rfl⟩:=aQ (show 0≤n from AOQ)
 simp only[bW]
 have hq0:=(II hb h1).2.2.1
 refine ABZ [42] (A:=Nat×Nat×List DVal) (fun x=>[(13,.c (.v (.int .i64 (x.1)))),(12,.c (.ref 1)),(10,.c (.v (.int .i64 ((x.2.1:Int)))))]) (fun x=>[⟨64,3,[],true,true⟩,⟨64,3,x.2.2.map DVal.c,true,true⟩]) (fun x=>x.1≤N∧x.2.2.length=x.1∧(CS b ty (N-x.1) x.2.1).map (fun y=>(x.2.2++y.1,y.2))=CS b ty N q) (fun x=>N-x.1) (0,q,[]) (ABJ [(0,false),(1,false)] ⟨rfl,rfl,rfl,rfl,trivial⟩ rfl) ⟨aA _,rfl,AOR⟩ ?_
 rintro⟨i,p,d⟩ ⟨hi,hll,hp⟩
 dsimp only at hi hll hp
 refine AOJ (fun h=>?_) fun h=>?_
 ·have hi':i<N:=by simp at h; omega
  rw[show N-i=(N-(i+1))+1 from AOQ,CS] at hp
  have hg2:=MR b p ty hb hl
  simp only[go_sem]
  rcases h4:Fv b p ty with _ | ⟨v,p2⟩<;>rw[h4] at hg2 hp<;>simp only[eY] at hg2
  ·refine AAM _ hg2 fun _=>?_
   simp only[WB] at hp
   rw[← hp]
   exact ALC
  ·refine AAM _ hg2 fun _=>?_
   have hl2:d.length+1≤2147483648:=AOQ
   simp only[go_sem,hl2,wrap_i64 (n:=(i:Int)+1) AOQ AOQ]
   exact⟨(i+1,p2,d ++ [v]),ABJ [(0,false),(4,false)] ⟨rfl,rfl,rfl,MV _ _,trivial⟩ (by rw[GZ]; rfl),⟨hi',AOS,APg⟩,AOV⟩
 ·have hi':i=N:=by simp at h; omega
  subst hi'
  rw[jV,CS] at hp
  simp only[bY,bQ] at hp
  obtain⟨a1,a2,a3,_⟩:=JS hb _ _ _ _ hq0 hp.symm
  rw[← hp]
  have q1:=IU (k:=.i64) (n:=(p:Int)) (m:=p) AOQ
  have hw1:IntKind.i64.wrap ((i:Int)-1)=(i:Int)-1:=wrap_i64 AOQ AOQ
  have htk:(b.drop p).take (b.length-p)=b.drop p:=aaD AOR
  have hbd:Ae (b.drop p):=fun c hc=>hb c (xR hc)
  have hu:=Vg (b.drop p) (Az ((i:Int)-1)) k hbd AOS
  simp only[go_sem,q1,a2,BN,aT,← cZ,← cu,htk,hw1]
  refine ABH ?_
  simp only[go_sem,q1,a2,BN,aT,← cZ,← cu,htk,hw1]
  refine ACI _ (JI _) ?_
  simp only[go_sem,q1,a2,BN,aT,← cZ,← cu,htk,hw1]
  rcases h4:unpack (b.drop p) (Az ((i:Int)-1)) k with _ | o<;>rw[h4] at hu<;>simp only[Y0] at hu
  ·refine ACI _ hu ?_
   simp only[go_sem,q1,a2,BN,aT,← cZ,← cu,htk,hw1]
   have hr:=Vo d [] AOR AOQ
   rcases h5:picked d [] with _ | l<;>rw[h5] at hr<;>simp only[Dv] at hr
   ·exact AKZ
   ·exact AKZ
  refine ACI _ hu ?_
  have hol:=Sz h4
  simp only[go_sem,q1,a2,BN,aT,← cZ,← cu,htk,hw1]
  have hr:=Vo d o AOQ AOQ
  rcases h5:picked d o with _ | l<;>rw[h5] at hr<;>simp only[Dv] at hr
  ·exact AKZ
  have hll2:=Nb h5
  refine AAM _ hr fun _=>?_
  simp only[go_sem]
  refine AAM _ (TS l AOQ) fun _=>?_
  simp only[go_sem]
  refine AAM _ (Ik (Eb l) b) fun _=>?_
  rcases h6:decide (Eb l=b) with _ | _
  ·have e:¬ Eb l=b:=by simpa using h6
   simp only[go_sem,h6,bz e,Dv]
  ·have e:Eb l=b:=by simpa using h6
   simp only[go_sem,h6,bF e,Dv]
theorem jw {b:List Int} (h:0<b.length) (ty k:Int):XC b ty k=if b[0]=0 then Gf (b.drop 1) ty k else if b[0]=1 then Ea (b.drop 1) ty k else if b[0]=2 then F5 (b.drop 1) ty k else if b[0]=3 then Eo (b.drop 1) k else none:=by
 cases b with
 | nil=>simp at h
 | cons c r=>rfl
theorem oI (b:List Int) (ty k:Int) (hb:Ae b) (hl:b.length≤1048576):Ctr prog 358 [.c (.sl (b.map byteC)),.c (.v (.int .i64 (ty))),.c (.v (.int .i64 (k)))] (Dv (I9 b ty k)):=by
 rw[← ABw hb]
 refine CM call358 func358 ntmps358 results358 fun hw=>?_
 rcases h0:((b.length:Int)==0) with _ | _
 rotate_left
 ·have e:b = []:=by simpa using h0
  have e2:Yy b ty k=none:=bF e
  rw[e2]
  simp only[go_sem,h0,Dv]
 have h0':0<b.length:=by
  exact ANp
 have hall:Yy b ty k=if typeOf ((XC b ty k).getD [])=ty then again b k ((XC b ty k).getD []) (A8 ((XC b ty k).getD [])) else none:=by
  rw[← AAZ hb]
  exact bz fun q=>by rw[q] at h0'; simp at h0'
 rw[hall]
 simp only[go_sem,h0,AA _ h0']
 have hc:isByte b[0]:=hb _ (ax h0')
 have hc2:=hc.1
 have hc3:=hc.2
 have hw1:IntKind.i64.wrap b[0]=b[0]:=wrap_i64 AOQ AOQ
 have hdd:=jw h0' ty k
 have a2:1≤b.length:=h0'
 have q1:=IU (k:=.i64) (n:=(1:Int)) (m:=1) AOQ
 have htk:(b.drop 1).take (b.length-1)=b.drop 1:=aaD AOR
 have hbd:Ae (b.drop 1):=fun c hc=>hb c (xR hc)
 have hdl:(b.drop 1).length≤1048576:=AOS
 rcases hk0:b[0]==0 with _ | _
 rotate_left
 ·rw[bF APD] at hdd
  simp only[go_sem,q1,a2,BN,aT,← cZ,← cu,htk,hw1,hk0]
  have hr:=fA (b.drop 1) ty k hbd hdl
  rcases hd:Gf (b.drop 1) ty k with _ | l<;>rw[hd] at hr hdd<;>simp only[Dv] at hr<;>rw[hdd]
  ·refine AAM _ hr fun _=>?_
   simp only[go_sem,wF]
   exact AGB
  ·exact AGC
 rcases hk1:b[0]==1 with _ | _
 rotate_left
 ·rw[bz APD,bF APJ] at hdd
  simp only[go_sem,q1,a2,BN,aT,← cZ,← cu,htk,hw1,hk0,hk1]
  have hr:=jB (b.drop 1) ty k hbd hdl
  rcases hd:Ea (b.drop 1) ty k with _ | l<;>rw[hd] at hr hdd<;>simp only[Dv] at hr<;>rw[hdd]
  ·refine AAM _ hr fun _=>?_
   simp only[go_sem,wF]
   exact AGB
  ·exact AGC
 rcases hk2:b[0]==2 with _ | _
 rotate_left
 ·rw[bz APD,bz APJ,bF APt] at hdd
  simp only[go_sem,q1,a2,BN,aT,← cZ,← cu,htk,hw1,hk0,hk1,hk2]
  have hr:=iW (b.drop 1) ty k hbd hdl
  rcases hd:F5 (b.drop 1) ty k with _ | l<;>rw[hd] at hr hdd<;>simp only[Dv] at hr<;>rw[hdd]
  ·refine AAM _ hr fun _=>?_
   simp only[go_sem,wF]
   exact AGB
  ·exact AGC
 rcases hk3:b[0]==3 with _ | _
 rotate_left
 ·rw[bz APD,bz APJ,bz APt,bF (by simpa using hk3)] at hdd
  simp only[go_sem,q1,a2,BN,aT,← cZ,← cu,htk,hw1,hk0,hk1,hk2,hk3]
  have hr:=fG (b.drop 1) k hbd hdl
  rcases hd:Eo (b.drop 1) k with _ | l<;>rw[hd] at hr hdd<;>simp only[Dv] at hr<;>rw[hdd]
  ·refine AAM _ hr fun _=>?_
   simp only[go_sem,wF]
   exact AGB
  ·exact AGC
 rw[bz APD,bz APJ,bz APt,bz (by simpa using hk3)] at hdd
 rw[hdd]
 simp only[go_sem,q1,a2,BN,aT,← cZ,← cu,htk,hw1,hk0,hk1,hk2,hk3,wF]
 exact AGB
theorem oJ (b:List Int) (ty k:Int) (hb:Ae b) (hl:b.length≤1048576):Ctr prog 348 [.c (.sl (b.map byteC)),.c (.v (.int .i64 (ty))),.c (.v (.int .i64 (k)))] (Dv (I9 b ty k)):=by
 refine CM call348 func348 ntmps348 results348 fun hw=>?_
 rcases h0:((b.length:Int)==0) with _ | _
 rotate_left
 ·have e:b = []:=by simpa using h0
  have e2:I9 b ty k=none:=by rw[e,I9]; split<;>rfl
  rw[e2]
  simp only[go_sem,h0,Dv]
 have h0':0<b.length:=by
  exact ANp
 simp only[go_sem,h0,AA _ h0']
 refine AAM _ (AO _ _ _) fun _=>?_
 rcases h1:Ad ty 1 2 with _ | _
 ·have e:I9 b ty k=none:=bz AO4
  rw[e]
  simp only[go_sem,h1,Dv]
 have hty:1≤ty∧ty≤2:=AO4
 have hall:I9 b ty k=match XC b ty k with
  | none=>none
  | some l=>if typeOf l=ty∧A8 l=b then some l else none:=bF hty
 rw[hall]
 simp only[go_sem,h1,AA _ h0']
 have hc:isByte b[0]:=hb _ (ax h0')
 have hc2:=hc.1
 have hc3:=hc.2
 have hw1:IntKind.i64.wrap b[0]=b[0]:=wrap_i64 AOQ AOQ
 have hdd:=jw h0' ty k
 have a2:1≤b.length:=h0'
 have q1:=IU (k:=.i64) (n:=(1:Int)) (m:=1) AOQ
 have htk:(b.drop 1).take (b.length-1)=b.drop 1:=aaD AOR
 have hbd:Ae (b.drop 1):=fun c hc=>hb c (xR hc)
 have hdl:(b.drop 1).length≤1048576:=AOS
 rcases hk0:b[0]==0 with _ | _
 rotate_left
 ·rw[bF APD] at hdd
  simp only[go_sem,q1,a2,BN,aT,← cZ,← cu,htk,hw1,hk0]
  have hr:=eu (b.drop 1) ty k hbd hdl
  rcases hd:Gf (b.drop 1) ty k with _ | l<;>rw[hd] at hr hdd<;>simp only[Dv] at hr<;>rw[hdd]
  ·exact AKZ
  ·exact AEu
 rcases hk1:b[0]==1 with _ | _
 rotate_left
 ·rw[bz APD,bF APJ] at hdd
  simp only[go_sem,q1,a2,BN,aT,← cZ,← cu,htk,hw1,hk0,hk1]
  have hr:=jC (b.drop 1) ty k hbd hdl
  rcases hd:Ea (b.drop 1) ty k with _ | l<;>rw[hd] at hr hdd<;>simp only[Dv] at hr<;>rw[hdd]
  ·exact AKZ
  ·exact AEu
 rcases hk2:b[0]==2 with _ | _
 rotate_left
 ·rw[bz APD,bz APJ,bF APt] at hdd
  simp only[go_sem,q1,a2,BN,aT,← cZ,← cu,htk,hw1,hk0,hk1,hk2]
  have hr:=iY (b.drop 1) ty k hbd hdl
  rcases hd:F5 (b.drop 1) ty k with _ | l<;>rw[hd] at hr hdd<;>simp only[Dv] at hr<;>rw[hdd]
  ·exact AKZ
  ·exact AEu
 rcases hk3:b[0]==3 with _ | _
 rotate_left
 ·rw[bz APD,bz APJ,bz APt,bF (by simpa using hk3)] at hdd
  simp only[go_sem,q1,a2,BN,aT,← cZ,← cu,htk,hw1,hk0,hk1,hk2,hk3]
  have hr:=fH (b.drop 1) k hbd hdl
  rcases hd:Eo (b.drop 1) k with _ | l<;>rw[hd] at hr hdd<;>simp only[Dv] at hr<;>rw[hdd]
  ·exact AKZ
  ·exact AEu
 rw[bz APD,bz APJ,bz APt,bz (by simpa using hk3)] at hdd
 rw[hdd]
 simp only[go_sem,q1,a2,BN,aT,← cZ,← cu,htk,hw1,hk0,hk1,hk2,hk3,Dv]
def OB (cs:List Int) (l:List DRow) (i:Nat):Prop:=∀ h:i<l.length,(rowOk cs l[i]=true∧(0<i→l[i-1].id<l[i].id))∧l[i].id≤1000000000
theorem O0 {cs:List Int} {l:List DRow} {i:Nat} (h:¬ OB cs l i):Du cs l=false:=by
 rw[Bool.eq_false_iff]
 intro hg
 simp only[Du,ay,aZ] at hg
 refine h fun hi=>⟨?_,hg.2.2 _ (ax hi)⟩
 by_cases hr:rowAt cs l i
 ·exact hr hi
 ·rw[AAs hr] at hg
  cases hg.2.1
theorem jy {cs:List Int} {l:List DRow} (h:∀ i,i<l.length→OB cs l i):Du cs l=(FT cs&&decide (l.length≤12)):=by
 have h1:TY cs l=true:=wH fun i hi _=>(h i hi hi).1
 have h2:decide (∀ r∈l,r.id≤1000000000)=true:=decide_eq_true fun r hr=>by
  obtain⟨i,hi,rfl⟩:=aaC hr
  exact(h i hi hi).2
 simp only[Du,h1,h2,aN]
theorem Pn (cs:List Int) (l:List DRow) (hl:l.length≤1048576):Ctr prog 277 [.c (.sl (cs.map intC)),.c (.sl (l.map DRow.c))] [.val (.c (.v (.bool (Du cs l))))]:=by
 refine CM call277 func277 ntmps277 results277 fun hw=>?_
 simp only[go_sem]
 refine AAM _ (PK _) fun _=>?_
 rcases hc:FT cs with _ | _
 ·have e:Du cs l=false:=by simp only[Du,hc,ag]
  simp only[go_sem,hc,e]
 rcases h12:decide ((l.length:Int)>12) with _ | _
 rotate_left
 ·have e:Du cs l=false:=by
   have:decide (l.length≤12)=false:=by simp at h12 ⊢; omega
   simp only[Du,this,aK,ag]
  simp only[go_sem,hc,h12,e]
 have h12':decide (l.length≤12)=true:=by simp at h12 ⊢; omega
 simp only[go_sem,hc,h12]
 refine ABK 0 (A:=Nat) (fun x=>[(17,.c (.v (.int .i64 (x))))]) (fun _=>[]) (fun k=>k≤l.length∧∀ i,i<k→OB cs l i) (fun k=>l.length-k) 0 ⟨⟨rfl,rfl⟩,rfl,aA _,fun i h=>AOQ⟩ ?_
 rintro k ⟨hk,hf⟩
 refine AOJ (fun h=>?_) fun h=>?_
 ·have hk':k<l.length:=by simpa using h
  have hnext:OB cs l k→∀ i,i<k+1→OB cs l i:=by
   exact AN8
  simp only[go_sem,AA _ hk']
  refine AAm ?_
  simp only[go_sem,AA _ hk',hk']
  refine CY (pq cs l[k]) ?_
  exact AGF
 ·have hk':k=l.length:=by simp at h; omega
  subst hk'
  simp only[go_sem,jy hf,hc,h12',aN]
theorem Va (cs:List Int) (l:List DRow) (hl:l.length≤1048576):Ctr prog 269 [.c (.sl (cs.map intC)),.c (.sl (l.map DRow.c))] [.val (.c (.v (.bool (Du cs l))))]:=by
 refine CM call269 func269 ntmps269 results269 fun hw=>?_
 simp only[go_sem]
 refine ABK 0 (A:=Nat) (fun x=>[(5,.c (.v (.int .i64 (x))))]) (fun _=>[]) (fun k=>k≤l.length∧∀ i,i<k→OB cs l i) (fun k=>l.length-k) 0 ⟨⟨rfl,rfl⟩,rfl,aA _,fun i h=>AOQ⟩ ?_
 rintro k ⟨hk,hf⟩
 refine AOJ (fun h=>?_) fun h=>?_
 ·have hk':k<l.length:=by simpa using h
  have hnext:OB cs l k→∀ i,i<k+1→OB cs l i:=by
   exact AN8
  simp only[go_sem,AA _ hk']
  refine AAm ?_
  simp only[go_sem,AA _ hk',hk']
  refine CY (pg cs l[k]) ?_
  exact AGF
 ·have hk':k=l.length:=by simp at h; omega
  subst hk'
  simp only[go_sem]
  refine AAM _ (PI _) fun _=>?_
  have h12:decide ((l.length:Int)≤12)=decide (l.length≤12):=by rw[decide_eq_decide]; omega
  rcases hc:FT cs with _ | _<;>simp only[go_sem,jy hf,hc,h12,ag,aj]
theorem Si {cs:List Int} {l:List DRow} (h:Du cs l=true):(cs.length≤3∧1≤cs.length)∧l.length≤12∧∀ r∈l,0≤r.id∧r.id≤1000000000∧fits cs r.l=true:=by
 simp only[Du,ay,aZ] at h
 obtain⟨⟨h1,h2⟩,h3,h4⟩:=h
 simp only[FT,ay] at h1
 refine⟨by have:=h1.2; simp[Ad] at this; omega,h2,fun r hr=>?_⟩
 obtain⟨i,hi,rfl⟩:=aaC hr
 simp only[TY,aZ] at h3
 have:=(h3 i hi).1
 simp only[rowOk,ay,aZ] at this
 exact⟨this.1,h4 _ hr,this.2⟩
theorem AD4 (l:List DVal):(iZ l).length≤1006:=by
 have h1:=EN ((A8 l).length:Int)
 have h2:=dL l
 simp only[iZ,bu]; omega
theorem uQ {cs:List Int} {l:List DRow} (h:Du cs l=true):Dj cs l=QJ (l.map DRow.id)++(if l = [] then [] else((List.range cs.length).map fun(k:Nat)=>iZ (L9 l (k:Int))).flatten):=bF h
noncomputable def O1 (l:List DRow) (k:Nat):List Int:=if l = [] then [] else((List.range k).map fun(k:Nat)=>iZ (L9 l (k:Int))).flatten
theorem yQ (l:List DRow):O1 l 0 = []:=by unfold O1; split<;>rfl
theorem Q8 (cs:List Int) (l:List DRow) (hl:fitS Hf l):Ctr prog 279 [.c (.sl (cs.map intC)),.c (.sl (l.map DRow.c))] [.own 5 1 ((Dj cs l).map byteC) true]:=by
 refine CM call279 func279 ntmps279 results279 fun hw=>?_
 simp only[go_sem]
 refine AAM _ (Pn cs l hl.1) fun _=>?_
 rcases h1:Du cs l with _ | _
 ·have e:Dj cs l = []:=bz (by rw[h1]; simp)
  exact AI6
 obtain⟨f1,f2,f3⟩:=Si h1
 rw[uQ h1]
 simp only[go_sem,h1]
 refine ABZ [15] (A:=Nat) (fun x=>[(18,.c (.v (.int .i64 (x)))),(5,.c (.ref 0))]) (fun x=>[⟨3,1,((l.take x).map DRow.id).map intC,true,true⟩]) (fun x=>x≤l.length) (fun x=>l.length-x) 0 (ABJ [(0,false)] ⟨rfl,rfl,rfl,trivial⟩ rfl) (aA _) ?_
 rintro i hi
 refine AOJ (fun h=>?_) fun h=>?_
 ·have hi':i<l.length:=by simp at h; omega
  have hl2:i+1≤2147483648:=AOQ
  simp only[go_sem,AA _ hi',hl2,bI,Zl hi,wrap_i64 (n:=(i:Int)+1) AOQ AOQ]
  exact AMu
 ·have hi':i=l.length:=by simp at h; omega
  subst hi'
  simp only[go_sem,bM]
  refine AAM _ (iw [] (l.map DRow.id) AOS AOR fun n hn=>by
   obtain⟨r,hr,rfl⟩:=sD.1 hn
   exact(EH _).2 ⟨by have:=(f3 r hr).1; omega,(f3 r hr).2.1⟩) fun _=>?_
  rw[aO]
  simp only[go_sem]
  have hnl:=XG (l.map DRow.id)
  have hnb:=EN ((l.map DRow.id).length:Int)
  have hnl2:(QJ (l.map DRow.id)).length≤65:=by
   simp only[QJ,bu]
   rw[ae] at hnl
   omega
  have hG:∀ k,(O1 l k).length≤1006*k:=fun k=>by
   unfold O1
   split
   ·simp
   ·have:=RG (fun(k:Nat)=>iZ (L9 l (k:Int))) 1006 (List.range k) fun x _=>AD4 _
    rw[List.length_range] at this
    exact this
  have hfin:QJ (l.map DRow.id)++(if l = [] then [] else((List.range cs.length).map fun(k:Nat)=>iZ (L9 l (k:Int))).flatten)=QJ (l.map DRow.id)++O1 l cs.length:=rfl
  rw[hfin]
  refine ABZ [29,28,5] (A:=Nat) (fun x=>[(32,.c (.v (.int .i64 (x)))),(8,.c (.ref 0))]) (fun x=>[⟨5,1,(QJ (l.map DRow.id)++O1 l x).map byteC,true,true⟩]) (fun x=>x≤cs.length) (fun x=>cs.length-x) 0 (ABJ [(1,false)] ⟨rfl,rfl,FI _,trivial⟩ (by rw[yQ,bQ]; rfl)) (aA _) ?_
  rintro k hk
  refine AOJ (fun h=>?_) fun h=>?_
  ·have hk':k<cs.length:=by simp at h; omega
   have hGk:=hG k
   rcases h2:decide ((l.length:Int)>0) with _ | _
   ·have h2':l = []:=by
     apply aam
     simp at h2; simp[h2]
    have hs:O1 l (k+1)=O1 l k:=by unfold O1; rw[bF h2',bF h2']
    simp only[go_sem,h2,wrap_i64 (n:=(k:Int)+1) AOQ AOQ]
    exact⟨k+1,ABJ [(0,false)] ⟨rfl,rfl,FI _,trivial⟩ (by rw[hs]; rfl),hk',AOQ⟩
   ·have h2':l≠ []:=by rintro rfl; simp at h2
    have hcl:(L9 l (k:Int)).length≤l.length:=List.length_filterMap_le _ _
    have hel:=dL (L9 l (k:Int))
    have hs:O1 l (k+1)=O1 l k++(FO (A8 (L9 l (k:Int))).length++A8 (L9 l (k:Int))):=by
     unfold O1
     rw[bz h2',bz h2',List.range_succ]
     simp only[WU,aaM,YR,di,df,aaH,bQ,iZ]
    simp only[go_sem,h2]
    refine AAM _ (pV l (k:Int) hl.big) fun _=>?_
    simp only[go_sem]
    refine AAM _ (Ey (L9 l (k:Int)) AOQ) fun _=>?_
    simp only[go_sem]
    refine AAM _ (GX _ _ AO8) fun _=>?_
    rw[Jv ((EH _).2 ⟨AOQ,AOQ⟩)]
    have hnb2:=EN ((A8 (L9 l (k:Int))).length:Int)
    have hl3:(QJ (l.map DRow.id)).length+(O1 l k).length+(FO (A8 (L9 l (k:Int))).length).length+(A8 (L9 l (k:Int))).length≤2147483648:=AOQ
    simp only[go_sem,hl3,F_,RD,wrap_i64 (n:=(k:Int)+1) AOQ AOQ]
    exact⟨k+1,ABJ [(4,false)] ⟨rfl,rfl,FI _,trivial⟩ (by rw[hs]; simp only[bT]; rfl),hk',AOQ⟩
  ·have hk':k=cs.length:=by simp at h; omega
   subst hk'
   simp only[go_sem]
   try exact AII
end Go.Proofs.YtnoldekcdlaahaaGreat
namespace Go.Vm
theorem Head.open {s:MS} (l i off:Nat) {ob:Ob} {row:List Cl} {ty:TypeId} {sz:Nat} {xs:List (List Cl)} (hob:Cf s.st l=some ob) (hwr:ob.wr=true) (hrow:ob.xs[i]?=some row) (hcell:row[off]?=some (.ow ty sz xs)) :
  Head s ⟨s.n,s.env,B_ s.st l i off ob row ty sz xs⟩:=⟨rfl,fun w0 St0 St β a w hc=>by
 obtain⟨b,u,β',_,_,h,_⟩:=hc.openCell hob hwr hrow hcell
 exact⟨St,β',h⟩⟩
theorem Head.nilI {s:MS} (l i j e n:Nat) (ob:Ob) (row:List Cl) (hob:s.st[l]?=some ob) (hrow:ob.xs[i]?=some row) (h:row[j]?=some (.v (.slice none 0 0))) :
  Head s ⟨s.n,s.env,s.st.set l ⟨ob.ty,ob.sz,ob.xs.set i (row.set j (.ref s.st.length)),ob.wr,ob.live⟩ ++ [⟨e,n,[],true,true⟩]⟩:=⟨rfl,fun w0 St0 St β a w hc=>by
 obtain⟨β',h1,h2⟩:=hc.nilOb e n
 have hl:l<s.st.length:=(aF.1 hob).1
 have hi:i<ob.xs.length:=(aF.1 hrow).1
 have hj:j<row.length:=(aF.1 h).1
 have hri:ob.xs[i]=row:=(aF.1 hrow).2
 have hg:∀ (l2:Nat) (o2:Ob),(s.st.set l ⟨ob.ty,ob.sz,ob.xs.set i (row.set j (.ref s.st.length)),ob.wr,ob.live⟩ ++ [⟨e,n,[],true,true⟩])[l2]?=some o2→(l2=l∧o2=⟨ob.ty,ob.sz,ob.xs.set i (row.set j (.ref s.st.length)),ob.wr,ob.live⟩)∨(l2≠l∧(s.st ++ [(⟨e,n,[],true,true⟩:Ob)])[l2]?=some o2):=by
  intro l2 o2 h2
  by_cases e1:l2=l
  ·subst e1
   rw[bH APF,wE] at h2
   simp[hl] at h2
   exact .inl ⟨rfl,h2.symm⟩
  ·refine .inr ⟨e1, ?_⟩
   rw[List.getElem?_append] at h2 ⊢
   simp only[ah] at h2
   split at h2
   ·rename_i hlt
    rw[wE,bz (fun e2=>e1 e2.symm)] at h2
    rw[bF hlt]; exact h2
   ·rename_i hlt
    rw[bz hlt]; exact h2
 have hg2:∀ (l2:Nat) (o2:Ob),(s.st ++ [(⟨e,n,[],true,true⟩:Ob)])[l2]?=some o2→∃ o3,(s.st.set l ⟨ob.ty,ob.sz,ob.xs.set i (row.set j (.ref s.st.length)),ob.wr,ob.live⟩ ++ [⟨e,n,[],true,true⟩])[l2]?=some o3∧o3.live=o2.live∧o3.sz=o2.sz∧o3.ty=o2.ty∧o3.xs.length=o2.xs.length:=by
  intro l2 o2 h2
  by_cases e1:l2=l
  ·subst e1
   rw[bH hl,hob] at h2
   cases h2
   exact⟨⟨ob.ty,ob.sz,ob.xs.set i (row.set j (.ref s.st.length)),ob.wr,ob.live⟩,by rw[bH APF,wE]; simp only[bf,hl],rfl,rfl,rfl,AOR⟩
  ·refine⟨o2, ?_,rfl,rfl,rfl,rfl⟩
   rw[List.getElem?_append] at h2 ⊢
   simp only[ah]
   split at h2
   ·rename_i hlt
    rw[bF hlt,wE,bz (fun e2=>e1 e2.symm)]; exact h2
   ·rename_i hlt
    rw[bz hlt]; exact h2
 have hr:∀ (l2:Nat) (u:Value),BM w (s.st ++ [⟨e,n,[],true,true⟩]) β' l2 u→BM w (s.st.set l ⟨ob.ty,ob.sz,ob.xs.set i (row.set j (.ref s.st.length)),ob.wr,ob.live⟩ ++ [⟨e,n,[],true,true⟩]) β' l2 u:=by
  intro l2 u hu
  unfold BM at hu ⊢
  cases hq:(s.st ++ [(⟨e,n,[],true,true⟩:Ob)])[l2]? with
  | none=>simp[hq] at hu
  | some o2 =>
   obtain⟨o3,p1,p2,p3,p4,p5⟩:=hg2 l2 o2 hq
   simp only[hq] at hu
   simp only[p1]
   refine⟨hu.1,fun hlv=>?_⟩
   have h3:=hu.2 (by rw[← p2]; exact hlv)
   cases hβ:β' l2 with
   | none=>simp only[hβ] at h3 ⊢; exact⟨h3.1,aam (by rw[p5,h3.2]; rfl)⟩
   | some b=>simp only[hβ] at h3 ⊢; simpa only[p3,p4,p5] using h3
 refine⟨St,β',h1.reTell _ _ hr (fun l2 i off u hu=>?_) (fun i u hu=>hu) (fun l2 o' hl2 hlv=>?_)⟩
 ·simp only[AVR] at hu ⊢
  cases hq:(s.st ++ [(⟨e,n,[],true,true⟩:Ob)])[l2]? with
  | none=>simp[hq] at hu
  | some o2 =>
   obtain⟨o3,p1,p2,p3,_⟩:=hg2 l2 o2 hq
   simp only[hq] at hu
   simp only[p1,p2,p3]
   exact hu
 ·rcases hg l2 o' hl2 with ⟨rfl,rfl⟩ | ⟨_,h3⟩
  ·refine⟨ob,by rw[bH hl]; exact hob,hlv,rfl,rfl,rfl,AOR,fun hx x hx2=>?_,fun k c' hk=>?_⟩
   ·rcases aaO hx2 with hx2 | hx2
    ·exact hx x hx2
    ·rw[hx2,ah]
     exact hx row (by rw[← hri]; exact ax hi)
   ·have e1:ob.xs.flatten=(ob.xs.take i).flatten++(row++(ob.xs.drop (i+1)).flatten):=by
     conv=>lhs; rw[← List.take_append_drop i ob.xs]
     rw[aaM,aG hi,df,hri]
    have e2:(ob.xs.set i (row.set j (.ref s.st.length))).flatten=(ob.xs.take i).flatten++(row.set j (.ref s.st.length)++(ob.xs.drop (i+1)).flatten):=by
     rw[List.set_eq_take_append_cons_drop,bF hi,aaM,df]
    rw[e2] at hk
    rw[e1]
    by_cases h3:k<(ob.xs.take i).flatten.length
    ·rw[bH h3] at hk ⊢
     exact⟨c',hk,fun _ h=>h,fun _=>rfl⟩
    ·rw[bn AOQ] at hk ⊢
     generalize k-(ob.xs.take i).flatten.length=k2 at hk
     by_cases h4:k2<row.length
     ·rw[bH AO2,wE] at hk
      rw[bH h4]
      by_cases e3:j=k2
      ·subst e3
       exact AM7
      ·rw[bz e3] at hk
       exact⟨c',hk,fun _ h=>h,fun _=>rfl⟩
     ·rw[bn AOS,ah] at hk
      rw[bn AOQ]
      exact⟨c',hk,fun _ h=>h,fun _=>rfl⟩
  ·exact⟨o',h3,hlv,rfl,rfl,rfl,rfl,fun h=>h,fun k c hk=>⟨c,hk,fun _ h=>h,fun _=>rfl⟩⟩⟩
theorem Head.open' {s:MS} (l i off:Nat) {ob:Ob} {row:List Cl} {ty:TypeId} {sz:Nat} {xs zs:List (List Cl)} (hob:Cf s.st l=some ob) (hwr:ob.wr=true) (hrow:ob.xs[i]?=some row) (hcell:row[off]?=some (.ow ty sz xs)) (e:ob.xs.set i (row.set off (.ref s.st.length))=zs) :
  Head s ⟨s.n,s.env,s.st.set l ⟨ob.ty,ob.sz,zs,ob.wr,ob.live⟩ ++ [⟨ty,sz,xs,true,true⟩]⟩:=by
 subst e
 exact Head.open l i off hob hwr hrow hcell
theorem Head.nilI' {s:MS} (l i j e n:Nat) (ob:Ob) (row:List Cl) {zs:List (List Cl)} (hob:s.st[l]?=some ob) (hrow:ob.xs[i]?=some row) (h:row[j]?=some (.v (.slice none 0 0))) (he:ob.xs.set i (row.set j (.ref s.st.length))=zs) :
  Head s ⟨s.n,s.env,s.st.set l ⟨ob.ty,ob.sz,zs,ob.wr,ob.live⟩ ++ [⟨e,n,[],true,true⟩]⟩:=by
 subst he
 exact Head.nilI l i j e n ob row hob hrow h
end Go.Vm
namespace Go.Proofs.YtnoldekcdlaahaaGreat
open Go.Vm
theorem dM (ids:List Int):rowsOf ids []=ids.map fun n=>(⟨n,[]⟩:DRow):=by
 unfold rowsOf
 exact AMy
def KZ (ids:List Int) (c:List (List DVal)) (x:Nat):DRow:=⟨(ids[x]?).getD 0,c.map fun v=>(v[x]?).getD rowsOf.zeroW⟩
theorem j_ (ids:List Int) (c:List (List DVal)):rowsOf ids c=(List.range ids.length).map (KZ ids c):=rfl
theorem dN {ids:List Int} {c:List (List DVal)} {x:Nat} (h:x<ids.length):(rowsOf ids c)[x]?=some (KZ ids c x):=by
 rw[j_,mW,List.getElem?_range h]; rfl
theorem uS {ids:List Int} {c:List (List DVal)} {l:List DVal} {x:Nat} (h:x<l.length):KZ ids (c ++ [l]) x=⟨(KZ ids c x).id,(KZ ids c x).l ++ [l[x]]⟩:=by
 simp only[KZ,WU,YR,di,au h,aH]
def Gs (ids:List Int) (c:List (List DVal)) (l:List DVal) (x:Nat):List DRow:=(rowsOf ids (c ++ [l])).take x++(rowsOf ids c).drop x
theorem kC (ids:List Int) (c:List (List DVal)) (l:List DVal):Gs ids c l 0=rowsOf ids c:=rfl
theorem uT (ids:List Int) (c:List (List DVal)) (l:List DVal):Gs ids c l ids.length=rowsOf ids (c ++ [l]):=by
 unfold Gs
 rw[aaD (by rw[Dy]; omega),List.drop_eq_nil_of_le (by rw[Dy]; omega),bQ]
theorem Vb {ids:List Int} {c:List (List DVal)} {l:List DVal} {x:Nat} (h:x≤ids.length):(Gs ids c l x).length=ids.length:=by
 simp only[Gs,bu,bI,aaN,Dy]; omega
theorem uU {ids:List Int} {c:List (List DVal)} {l:List DVal} {x:Nat} (h:x<ids.length):(Gs ids c l x)[x]?=some (KZ ids c x):=by
 unfold Gs
 rw[bn (by simp[Dy]; omega)]
 simp only[bI,Dy,Zl (Nat.le_of_lt h),jV,aaY,abA]
 exact dN h
theorem uV {ids:List Int} {c:List (List DVal)} {l:List DVal} {x:Nat} (h:x<ids.length):(Gs ids c l x).set x (KZ ids (c ++ [l]) x)=Gs ids c l (x+1):=by
 have hx:x<(rowsOf ids (c ++ [l])).length:=by rw[Dy]; exact h
 have hx2:x<(rowsOf ids c).length:=by rw[Dy]; exact h
 have e1:(rowsOf ids (c ++ [l]))[x]=KZ ids (c ++ [l]) x:=by
  have:=dN (c:=c ++ [l]) h
  rw[au hx] at this
  exact ry this
 unfold Gs
 rw[aas hx,e1,abm _ _ AOS,bI,Zl (Nat.le_of_lt hx),jV,aG hx2,List.set_cons_zero,bT]
 rfl
def AFp (ids:List Int) (c:List (List DVal)) (l:List DVal) (x:Nat):List Ob:=if x<ids.length then
  [⟨3,1,ids.map intC,true,true⟩,⟨204,2,((Gs ids c l x).map DRow.o).set x [.v (.int .i64 (KZ ids c x).id),.ref 2],true,true⟩,⟨64,3,(KZ ids c x).l.map DVal.c,true,true⟩]
 else [⟨3,1,ids.map intC,true,true⟩,⟨204,2,(Gs ids c l x).map DRow.o,true,true⟩]
theorem AAR {ids:List Int} {c:List (List DVal)} {l:List DVal} {x:Nat} (h:x<ids.length):AFp ids c l x = [⟨3,1,ids.map intC,true,true⟩,⟨204,2,((Gs ids c l x).map DRow.o).set x [.v (.int .i64 (KZ ids c x).id),.ref 2],true,true⟩,⟨64,3,(KZ ids c x).l.map DVal.c,true,true⟩]:=bF h
theorem AAS {ids:List Int} {c:List (List DVal)} {l:List DVal} {x:Nat} (h:¬ x<ids.length):AFp ids c l x = [⟨3,1,ids.map intC,true,true⟩,⟨204,2,(Gs ids c l x).map DRow.o,true,true⟩]:=bz h
theorem uX {n:Nat} {env:List (Nat×AV)} (ids:List Int) (c:List (List DVal)) (l:List DVal) (x:Nat) :
  Head ⟨n,env,[⟨3,1,ids.map intC,true,true⟩,⟨204,2,(Gs ids c l x).map DRow.o,true,true⟩]⟩ ⟨n,env,AFp ids c l x⟩:=by
 by_cases h:x<ids.length
 ·rw[AAR h]
  exact Head.open' (s:=⟨n,env,[⟨3,1,ids.map intC,true,true⟩,⟨204,2,(Gs ids c l x).map DRow.o,true,true⟩]⟩) 1 x 1 (ob:=⟨204,2,(Gs ids c l x).map DRow.o,true,true⟩) (row:=DRow.o (KZ ids c x)) rfl rfl
   (by simp only[mW,uU h,bY]) rfl rfl
 ·rw[AAS h]
  exact⟨rfl,fun _ _ St β _ _ h=>⟨St,β,h⟩⟩
theorem AAT (l:List Int):JR (l.map byteC)=true:=by
 induction l with
 | nil=>rfl
 | cons c l ih=>simp only[YR,JR,ih,aN]; rfl
theorem dO {ids:List Int} {c:List (List DVal)} (hn:ids.length≤64) (hc:c.length≤1048576) (h2:∀ x∈c,∀ v∈x,v.s.size≤6):fitS Hf (rowsOf ids c):=by
 refine⟨by rw[Dy]; omega,fun r hr=>?_⟩
 rw[j_] at hr
 obtain⟨i,_,rfl⟩:=sD.1 hr
 refine⟨by simp only[KZ,ae]; exact hc,fun v hv=>?_⟩
 simp only[KZ] at hv
 obtain⟨x,hx,rfl⟩:=sD.1 hv
 rw[Rz]
 cases hq:x[i]? with
 | none=>simp[rowsOf.zeroW]
 | some v =>
  have:=h2 x hx v (bC hq)
  simp only[aH]; omega
theorem kD {b:List Int} {ty k:Int} {l:List DVal} (h:I9 b ty k=some l):1≤ty∧ty≤2:=by
 unfold I9 at h
 split at h
 ·assumption
 ·cases h
theorem UK {v:DVal} (h:BQ v=true):v.s.size≤6:=by
 unfold BQ at h
 split at h
 ·simp only[ay,iP] at h
  rw[yz h.2]
  exact aA _
 ·simp only[ay,aZ] at h
  exact h.1.2
noncomputable def AD5 (cs b ids:List Int) (x:Option (List (List DVal)×Nat)):Option (List DRow):=match x with
 | none=>none
 | some (c,_)=>if Du cs (rowsOf ids c)=true∧Dj cs (rowsOf ids c)=b then some (rowsOf ids c) else none
theorem W_ (cs b ids:List Int):AD5 cs b ids none=none:=rfl
theorem kE (cs b ids:List Int) (c:List (List DVal)) (p:Nat):AD5 cs b ids (some (c,p))=if Du cs (rowsOf ids c)=true∧Dj cs (rowsOf ids c)=b then some (rowsOf ids c) else none:=rfl
theorem Yu {cs b ids:List Int} {c:List (List DVal)} {p:Nat} (h:¬ (Du cs (rowsOf ids c)=true∧Dj cs (rowsOf ids c)=b)):AD5 cs b ids (some (c,p))=none:=by rw[kE,bz h]
theorem uY {cs b ids:List Int} {c:List (List DVal)} {p:Nat} (h:Du cs (rowsOf ids c)=true∧Dj cs (rowsOf ids c)=b):AD5 cs b ids (some (c,p))=some (rowsOf ids c):=by rw[kE,bF h]
def XA:Option (List DRow)→List Res
 | some l=>[.own 204 2 (l.map DRow.o) true,.val (.c (.v (.bool (true))))]
 | none=>[.own 204 2 [] true,.val (.c (.v (.bool (false))))]
theorem dP (cs:List Int) (b:List Int) (hb:Ae b) (hl:b.length≤1048576):Ctr prog 306 [.c (.sl (cs.map intC)),.c (.sl (b.map byteC))] (XA (DJ cs b)):=by
 rw[← uk hb]
 refine CM call306 func306 ntmps306 results306 fun hw=>?_
 simp only[go_sem]
 have hg:=ig b 0 hb hl
 rcases h1:FW b 0 with _ | ⟨ids,q⟩<;>rw[h1] at hg<;>simp only[Ya] at hg
 ·have e:Jd cs b=none:=by simp only[Jd,h1]
  rw[e]
  refine AAM _ hg fun _=>?_
  simp only[go_sem,XA]
  try exact AJ7
 refine AAM _ hg fun _=>?_
 obtain⟨n1,n2,n3⟩:=UM hb h1
 simp only[go_sem]
 refine AAM _ (PK _) fun _=>?_
 rcases hc:FT cs with _ | _
 ·have e:Jd cs b=none:=by simp only[Jd,h1,hc]; rfl
  rw[e]
  simp only[go_sem,hc,XA]
  try exact AJ7
 have hcs3:cs.length≤3:=by
  simp only[FT,ay] at hc
  have:=hc.2
  simp[Ad] at this; omega
 have hall:Jd cs b=AD5 cs b ids (GH b cs ids q):=by
  simp only[Jd,h1]; exact bF hc
 rw[hall]
 simp only[go_sem,hc]
 refine ABZ [32] (A:=Nat) (fun x=>[(35,.c (.v (.int .i64 (x)))),(9,.c (.ref 1))]) (fun x=>[⟨3,1,ids.map intC,true,true⟩,⟨204,2,((ids.take x).map fun n=>(⟨n,[]⟩:DRow)).map DRow.o,true,true⟩]) (fun x=>x≤ids.length) (fun x=>ids.length-x) 0 (ABJ [(0,false),(1,false)] ⟨rfl,rfl,CX _,rfl,trivial⟩ rfl) (aA _) ?_
 rintro i hi
 refine AOJ (fun h=>?_) fun h=>?_
 ·have hi':i<ids.length:=by simp at h; omega
  have hl2:i+1≤2147483648:=AOQ
  simp only[go_sem,AA _ hi',hi',hl2,bI,Zl hi,wrap_i64 (n:=(i:Int)+1) AOQ AOQ]
  have hnr:BJ [[Cl.v (.int .i64 ids[i]),Cl.v (.slice none 0 0)]]=true:=rfl
  simp only[go_sem,hnr,AA _ hi',hi',hl2,bI,Zl hi,wrap_i64 (n:=(i:Int)+1) AOQ AOQ]
  have hlen:(((ids.take i).map fun n=>(⟨n,[]⟩:DRow)).map DRow.o).length=i:=AOS
  refine⟨i+1,Head.trans (Head.nilI' 3 i 1 64 3 _ [.v (.int .i64 ids[i]),.v (.slice none 0 0)] (zs:=((ids.take i).map fun n=>(⟨n,[]⟩:DRow)).map DRow.o ++ [[.v (.int .i64 ids[i]),.ref 4]]) rfl ?row rfl ?set) (ACJ [(0,false),(3,true),(4,false)] 2 1 ⟨rfl,rfl,CX _,Jq DRow.o_nr _ _ rfl,rfl,trivial⟩
   ⟨i,((ids.take i).map fun n=>(⟨n,[]⟩:DRow)).map DRow.o ++ [DRow.o ⟨ids[i],[]⟩],[.v (.int .i64 ids[i]),.ref 2],DRow.o ⟨ids[i],[]⟩,_,⟨pX 1,rfl, ?rn,AOS,rfl⟩,
    ⟨rfl,rfl,rfl,rfl,rfl,rfl,rfl,AOk,fun l hl=>AOg⟩,⟨rfl, ?tr⟩, ?eq⟩),hi',AOQ⟩
  case row=>simp only; rw[bn AOQ,hlen]; simp
  case set=>simp only; rw[abm _ _ AOQ,hlen]; simp
  case rn =>
   have:=Jp DRow.o_nr [(0,false),(3,true),(4,false)] ((ids.take i).map fun n=>(⟨n,[]⟩:DRow)) [.v (.int .i64 ids[i]),.ref 4] (DRow.o ⟨ids[i],[]⟩)
   exact ANK
  case tr =>
   unfold BV
   have:=CV (f:=DRow.o) ((ids.take i).map fun n=>(⟨n,[]⟩:DRow)) ⟨ids[i],[]⟩
   rw[show ((ids.take i).map fun n=>(⟨n,[]⟩:DRow)).length=i from AOS] at this
   rw[this]
   exact all2 (AU (AX _)) (AU (BF _))
  case eq =>
   exact ALa
 ·have hi':i=ids.length:=by simp at h; omega
  subst hi'
  simp only[go_sem,bM]
  have e0:(ids.map fun n=>(⟨n,[]⟩:DRow))=rowsOf ids []:=(dM ids).symm
  rw[e0]
  refine ABZ [] (A:=Nat×Nat×List (List DVal)) (fun x=>[(47,.c (.v (.int .i64 (x.1)))),(7,.c (.v (.int .i64 ((x.2.1:Int)))))]) (fun x=>[⟨3,1,ids.map intC,true,true⟩,⟨204,2,(rowsOf ids x.2.2).map DRow.o,true,true⟩]) (fun x=>x.1≤cs.length∧x.2.2.length=x.1∧((∀ c∈x.2.2,c.length=ids.length)∧(∀ c∈x.2.2,∀ v∈c,v.s.size≤6))∧x.2.1≤b.length∧(ids = []→x=(0,q,[]))∧(ids≠ []→(Gx b ids.length (cs.drop x.1) x.2.1).map (fun y=>(x.2.2++y.1,y.2))=Gx b ids.length cs q)) (fun x=>cs.length-x.1) (0,q,[]) (ABJ [(0,false),(1,true)] ⟨rfl,rfl,CX _,EY (BF _),trivial⟩ ?h0) ⟨aA _,rfl,⟨AOR,AOR⟩,n1,fun _=>rfl,fun _=>AOR⟩ ?_
  case h0 =>
   show (⟨125,_,[_,⟨204,2,((rowsOf ids []).map DRow.o).map (fun x=>x.map (QP [(0,false),(1,true)])),true,true⟩]⟩:MS)=_
   rw[Dx (BF _)]; rfl
  rintro⟨k,p,c⟩ ⟨hk,hck,⟨hcl,hsz⟩,hpb,hemp,hne⟩
  dsimp only at hk hck hcl hsz hpb hemp hne
  refine AOJ (fun h=>?_) fun h=>?_
  ·have hk':k<cs.length:=by simp at h; omega
   simp only[go_sem,AA _ hk']
   rcases hi0:((ids.length:Int)==0) with _ | _
   rotate_left
   ·have hids:ids = []:=by simpa using hi0
    have hx:=hemp hids
    simp only[bK] at hx
    obtain⟨_,hp0,hc0⟩:=hx
    have hgc:GH b cs ids q=some (c,p):=by rw[hc0,hp0]; exact bF hids
    rw[hgc]
    simp only[go_sem,hi0]
    exact AGm
   have hids:ids≠ []:=by rintro rfl; simp at hi0
   have hn0:0<ids.length:=aa3.2 hids
   have hne:=hne hids
   have hgc:GH b cs ids q=Gx b ids.length cs q:=bz hids
   rw[hgc]
   rw[P5 hk',Gx] at hne
   simp only[go_sem,hi0]
   have hg2:=GV b p hb hl
   rcases h3:Bf b p with _ | ⟨m,p2⟩<;>rw[h3] at hg2 hne<;>simp only[Ve] at hg2
   ·refine AAM _ hg2 fun _=>?_
    simp only[WB] at hne
    rw[← hne,W_]
    simp only[go_sem,XA]
    try exact AJ7
   refine AAM _ hg2 fun _=>?_
   dsimp only at hne
   obtain⟨_,z2,z3,z4,z5,_⟩:=II hb h3
   have hw1:IntKind.i64.wrap ((b.length:Int)-(p2:Int))=(b.length:Int)-(p2:Int):=wrap_i64 AOQ AOQ
   simp only[go_sem,hw1]
   refine AAM _ (AL _ _ _) fun _=>?_
   rcases h4:Ad m 0 ((b.length:Int)-(p2:Int)) with _ | _
   ·rw[bz APN] at hne
    simp only[WB] at hne
    rw[← hne,W_]
    simp only[go_sem,h4,XA]
    try exact AJ7
   have h4':0≤m∧m≤(b.length:Int)-(p2:Int):=APN
   rw[bF h4'] at hne
   obtain⟨M,rfl⟩:=aQ h4'.1
   rw[bW] at hne
   have q1:=IU (k:=.i64) (n:=(p2:Int)) (m:=p2) AOQ
   have q2:=IU (k:=.i64) (n:=(p2:Int)+(M:Int)) (m:=p2+M) AOQ
   have q5:p2≤p2+M:=AOQ
   have q6:p2+M≤b.length:=AOQ
   have q7:p2+M-p2=M:=AOQ
   have hbd:Ae ((b.drop p2).take M):=TA hb _ _
   have hdc:=oI ((b.drop p2).take M) cs[k] (ids.length:Int) hbd AOS
   simp only[go_sem,h4,q1,q2,q5,q6,q7,BN,← cZ,← cu,wrap_i64 (n:=(p2:Int)+(M:Int)) AOQ AOQ]
   rcases h5:I9 ((b.drop p2).take M) cs[k] (ids.length:Int) with _ | l<;>rw[h5] at hdc hne<;>simp only[Dv] at hdc
   ·refine AAM _ hdc fun _=>?_
    simp only[WB] at hne
    rw[← hne,W_]
    simp only[go_sem,XA]
    try exact AJ7
   refine AAM _ hdc fun _=>?_
   dsimp only at hne
   obtain⟨y1,y2,y3⟩:=XD hbd h5
   have hll:l.length=ids.length:=AOQ
   simp only[go_sem,Dy]
   refine ABZ [] (A:=Nat) (fun x=>[(89,.c (.v (.int .i64 (x))))]) (fun x=>AFp ids c l x) (fun x=>x≤ids.length) (fun x=>ids.length-x) 0 (Head.trans (ABJ [(0,false),(1,true)] ⟨rfl,rfl,CX _,EY (BF _),trivial⟩ (by
    show (⟨125,_,[_,⟨204,2,((rowsOf ids c).map DRow.o).map (fun x=>x.map (QP [(0,false),(1,true)])),true,true⟩]⟩:MS)=_
    rw[Dx (BF _),kC]; rfl)) (uX ids c l 0)) (aA _) ?_
   rintro x hx
   refine AOJ (fun h=>?_) fun h=>?_
   ·have hx':x<ids.length:=by simp at h; omega
    have hxl:x<l.length:=AOQ
    have hgl:(Gs ids c l x).length=ids.length:=Vb hx
    have hrow:(((Gs ids c l x).map DRow.o).set x [.v (.int .i64 (KZ ids c x).id),.ref 2])[x]?=some [.v (.int .i64 (KZ ids c x).id),.ref 2]:=by
     rw[wE]; simp[hgl,hx']
    rw[AAR hx']
    simp only[go_sem,AA _ hxl,hgl,hx',hrow,ah]
    have hal:(KZ ids c x).l.length+1≤2147483648:=by simp only[KZ,ae]; omega
    refine ABH ?_
    simp only[go_sem,AA _ hxl,hgl,hx',hrow,ah,hal,wrap_i64 (n:=(x:Int)+1) AOQ AOQ]
    have hnx:(Gs ids c l (x+1)).map DRow.o=((Gs ids c l x).map DRow.o).set x (DRow.o (KZ ids (c ++ [l]) x)):=by rw[← uV hx',Qh]
    have hrs:DRow.o (KZ ids (c ++ [l]) x) = [.v (.int .i64 (KZ ids c x).id),.ow 64 3 ((KZ ids c x).l.map DVal.c ++ [l[x].c])]:=by rw[uS hxl,← GZ]; rfl
    have hR:((Gs ids c l (x+1)).map DRow.o).set x [.v (.int .i64 (KZ ids c x).id),.ow 64 3 ((KZ ids c x).l.map DVal.c ++ [l[x].c])]=(Gs ids c l (x+1)).map DRow.o:=by rw[hnx,ai,hrs]
    refine⟨x+1,Head.trans (ACJ [(0,false),(1,true),(4,false)] 2 1 ⟨rfl,rfl,CX _, ?inn,MV _ _,trivial⟩
     ⟨x,(Gs ids c l (x+1)).map DRow.o,[.v (.int .i64 (KZ ids c x).id),.ref 2],[.v (.int .i64 (KZ ids c x).id),.ow 64 3 ((KZ ids c x).l.map DVal.c ++ [l[x].c])],_,⟨pX 1,rfl, ?rn, ?len,rfl⟩,
      ⟨rfl,rfl,rfl,rfl,rfl,rfl, ?nr,AOk,fun l hl=>AOg⟩,⟨rfl, ?tr⟩, ?eq⟩) (uX ids c l (x+1)),hx',AOQ⟩
    case inn =>
     show ((((Gs ids c l x).map DRow.o).set x [.v (.int .i64 (KZ ids c x).id),.ref 2]).set x [.v (.int .i64 (KZ ids c x).id),.ref 4]).all (fun x=>x.all (zq [(0,false),(1,true),(4,false)]))=true
     exact ANF
    case rn =>
     show ((((Gs ids c l x).map DRow.o).set x [.v (.int .i64 (KZ ids c x).id),.ref 2]).set x [.v (.int .i64 (KZ ids c x).id),.ref 4]).map (fun x=>x.map (QP [(0,false),(1,true),(4,false)]))=_
     rw[ai,Qh,Dx (BF _),hnx,ai]
     rfl
    case len=>simp only[ae]; rw[Vb AOQ]; exact hx'
    case nr=>rw[← GZ]; exact DD _
    case tr =>
     unfold BV
     rw[hR]
     exact all2 (AU (AX _)) (AU (BF _))
    case eq =>
     unfold BV
     rw[hR]
     rfl
   ·have hx':x=ids.length:=by simp at h; omega
    rw[AAS AOQ]
    simp only[go_sem]
    subst hx'
    have hty:=kD h5
    have hta:=Dk (l:=l) AOQ
    simp only[go_sem,uT,wrap_i64 (n:=(k:Int)+1) AOQ AOQ,wrap_i64 (n:=(p2:Int)+(M:Int)) AOQ AOQ]
    exact⟨(k+1,p2+M,c ++ [l]),ABJ [(0,false),(1,true)] ⟨rfl,rfl,CX _,EY (BF _),trivial⟩ (by
     show (⟨125,_,[_,⟨204,2,((rowsOf ids (c ++ [l])).map DRow.o).map (fun x=>x.map (QP [(0,false),(1,true)])),true,true⟩]⟩:MS)=_
     rw[Dx (BF _)]; rfl),⟨hk',by simp[hck],⟨fun y hy=>by
      rcases aa1.1 hy with hy | hy
      ·exact hcl y hy
      ·rw[abo.1 hy]; exact hll,fun y hy v hv=>by
      rcases aa1.1 hy with hy | hy
      ·exact hsz y hy v hv
      ·rw[abo.1 hy] at hv; exact UK (hta.2.2 v hv).1⟩,q6,fun q=>absurd q hids,fun _=>by
     rw[← hne,aaT]; congr 1; funext y; simp⟩,AOV⟩
  ·have hk':k=cs.length:=by simp at h; omega
   have hgc:GH b cs ids q=some (c,p):=by
    exact ALd
   rw[hgc]
   simp only[go_sem]
   exact AGm
noncomputable def AFq (cs b ids:List Int) (x:Option (List (List DVal)×Nat)):Option (List DRow):=match x with
 | none=>none
 | some (c,q)=>if q=b.length∧Du cs (rowsOf ids c)=true then some (rowsOf ids c) else none
theorem XB (cs b ids:List Int):AFq cs b ids none=none:=rfl
theorem Yv {cs b ids:List Int} {c:List (List DVal)} {p:Nat} (h:¬ (p=b.length∧Du cs (rowsOf ids c)=true)):AFq cs b ids (some (c,p))=none:=bz h
theorem uZ {cs b ids:List Int} {c:List (List DVal)} {p:Nat} (h:p=b.length∧Du cs (rowsOf ids c)=true):AFq cs b ids (some (c,p))=some (rowsOf ids c):=bF h
def AFr (ids:List Int) (c:List (List DVal)) (l:List DVal) (x:Nat):List Ob:=if x<ids.length then
  [⟨204,2,[],true,true⟩,⟨3,1,ids.map intC,true,true⟩,⟨204,2,((Gs ids c l x).map DRow.o).set x [.v (.int .i64 (KZ ids c x).id),.ref 3],true,true⟩,⟨64,3,(KZ ids c x).l.map DVal.c,true,true⟩]
 else [⟨204,2,[],true,true⟩,⟨3,1,ids.map intC,true,true⟩,⟨204,2,(Gs ids c l x).map DRow.o,true,true⟩]
theorem AAU {ids:List Int} {c:List (List DVal)} {l:List DVal} {x:Nat} (h:x<ids.length):AFr ids c l x = [⟨204,2,[],true,true⟩,⟨3,1,ids.map intC,true,true⟩,⟨204,2,((Gs ids c l x).map DRow.o).set x [.v (.int .i64 (KZ ids c x).id),.ref 3],true,true⟩,⟨64,3,(KZ ids c x).l.map DVal.c,true,true⟩]:=bF h
theorem AAV {ids:List Int} {c:List (List DVal)} {l:List DVal} {x:Nat} (h:¬ x<ids.length):AFr ids c l x = [⟨204,2,[],true,true⟩,⟨3,1,ids.map intC,true,true⟩,⟨204,2,(Gs ids c l x).map DRow.o,true,true⟩]:=bz h
theorem kF {n:Nat} {env:List (Nat×AV)} (ids:List Int) (c:List (List DVal)) (l:List DVal) (x:Nat) :
  Head ⟨n,env,[⟨204,2,[],true,true⟩,⟨3,1,ids.map intC,true,true⟩,⟨204,2,(Gs ids c l x).map DRow.o,true,true⟩]⟩ ⟨n,env,AFr ids c l x⟩:=by
 by_cases h:x<ids.length
 ·rw[AAU h]
  exact Head.open' (s:=⟨n,env,[⟨204,2,[],true,true⟩,⟨3,1,ids.map intC,true,true⟩,⟨204,2,(Gs ids c l x).map DRow.o,true,true⟩]⟩) 2 x 1 (ob:=⟨204,2,(Gs ids c l x).map DRow.o,true,true⟩) (row:=DRow.o (KZ ids c x)) rfl rfl
   (by simp only[mW,uU h,bY]) rfl rfl
 ·rw[AAV h]
  exact⟨rfl,fun _ _ St β _ _ h=>⟨St,β,h⟩⟩
theorem AJn {N:Nat} {a b c:Ob} (ha:Aw N a=true) (hb:Aw N b=true) (hc:Aw N c=true) : [a,b,c].all (Aw N)=true:=by simp[ha,hb,hc]
theorem dQ (cs:List Int) (b:List Int) (hb:Ae b) (hl:b.length≤1048576):Ctr prog 294 [.c (.sl (cs.map intC)),.c (.sl (b.map byteC))] (XA (DJ cs b)):=by
 refine CM call294 func294 ntmps294 results294 fun hw=>?_
 simp only[go_sem]
 have hg:=ik b 0 hb hl
 rcases h1:FW b 0 with _ | ⟨ids,q⟩<;>rw[h1] at hg<;>simp only[Ya] at hg
 ·have e:DJ cs b=none:=by simp only[DJ,h1]
  rw[e]
  refine AAM _ hg fun _=>?_
  simp only[go_sem,XA]
  try exact AJ7
 refine AAM _ hg fun _=>?_
 obtain⟨n1,n2,n3⟩:=UM hb h1
 simp only[go_sem]
 refine AAM _ (PI _) fun _=>?_
 rcases hc:FT cs with _ | _
 ·have e:DJ cs b=none:=by simp only[DJ,h1,hc]; rfl
  rw[e]
  simp only[go_sem,hc,XA]
  try exact AJ7
 rcases h12:decide ((ids.length:Int)>12) with _ | _
 rotate_left
 ·have e:DJ cs b=none:=by simp only[DJ,h1]; exact bz fun q=>by simp at h12; omega
  rw[e]
  simp only[go_sem,hc,h12,XA]
  try exact AJ7
 have h12':ids.length≤12:=by simp at h12; omega
 have hcs3:cs.length≤3:=by
  simp only[FT,ay] at hc
  have:=hc.2
  simp[Ad] at this; omega
 have hall:DJ cs b=AFq cs b ids (GH b cs ids q):=by
  simp only[DJ,h1]; exact bF ⟨hc,h12'⟩
 rw[hall]
 simp only[go_sem,hc,h12]
 refine ABZ [39] (A:=Nat) (fun x=>[(11,.c (.v (.int .i64 (x)))),(10,.c (.ref 2))]) (fun x=>[⟨204,2,[],true,true⟩,⟨3,1,ids.map intC,true,true⟩,⟨204,2,((ids.take x).map fun n=>(⟨n,[]⟩:DRow)).map DRow.o,true,true⟩]) (fun x=>x≤ids.length) (fun x=>ids.length-x) 0 (ABJ [(0,false),(1,false),(2,false)] ⟨rfl,rfl,rfl,CX _,rfl,trivial⟩ rfl) (aA _) ?_
 rintro i hi
 refine AOJ (fun h=>?_) fun h=>?_
 ·have hi':i<ids.length:=by simp at h; omega
  have hl2:i+1≤2147483648:=AOQ
  simp only[go_sem,AA _ hi',hi',hl2,bI,Zl hi,wrap_i64 (n:=(i:Int)+1) AOQ AOQ]
  have hnr:BJ [[Cl.v (.int .i64 ids[i]),Cl.v (.slice none 0 0)]]=true:=rfl
  simp only[go_sem,hnr,AA _ hi',hi',hl2,bI,Zl hi,wrap_i64 (n:=(i:Int)+1) AOQ AOQ]
  have hlen:(((ids.take i).map fun n=>(⟨n,[]⟩:DRow)).map DRow.o).length=i:=AOS
  refine⟨i+1,Head.trans (Head.nilI' 4 i 1 64 3 _ [.v (.int .i64 ids[i]),.v (.slice none 0 0)] (zs:=((ids.take i).map fun n=>(⟨n,[]⟩:DRow)).map DRow.o ++ [[.v (.int .i64 ids[i]),.ref 5]]) rfl ?row rfl ?set) (ACJ [(0,false),(1,false),(4,true),(5,false)] 3 2 ⟨rfl,rfl,rfl,CX _,Jq DRow.o_nr _ _ rfl,rfl,trivial⟩
   ⟨i,((ids.take i).map fun n=>(⟨n,[]⟩:DRow)).map DRow.o ++ [DRow.o ⟨ids[i],[]⟩],[.v (.int .i64 ids[i]),.ref 3],DRow.o ⟨ids[i],[]⟩,_,⟨pX 2,rfl, ?rn,AOS,rfl⟩,
    ⟨rfl,rfl,rfl,rfl,rfl,rfl,rfl,AOk,fun l hl=>AOg⟩,⟨rfl, ?tr⟩, ?eq⟩),hi',AOQ⟩
  case row=>simp only; rw[bn AOQ,hlen]; simp
  case set=>simp only; rw[abm _ _ AOQ,hlen]; simp
  case rn =>
   have:=Jp DRow.o_nr [(0,false),(1,false),(4,true),(5,false)] ((ids.take i).map fun n=>(⟨n,[]⟩:DRow)) [.v (.int .i64 ids[i]),.ref 5] (DRow.o ⟨ids[i],[]⟩)
   exact ANK
  case tr =>
   unfold BV
   have:=CV (f:=DRow.o) ((ids.take i).map fun n=>(⟨n,[]⟩:DRow)) ⟨ids[i],[]⟩
   rw[show ((ids.take i).map fun n=>(⟨n,[]⟩:DRow)).length=i from AOS] at this
   rw[this]
   exact AJn rfl (AU (AX _)) (AU (BF _))
  case eq =>
   exact ALa
 ·have hi':i=ids.length:=by simp at h; omega
  subst hi'
  simp only[go_sem,bM]
  have e0:(ids.map fun n=>(⟨n,[]⟩:DRow))=rowsOf ids []:=(dM ids).symm
  rw[e0]
  refine ABZ [] (A:=Nat×Nat×List (List DVal)) (fun x=>[(12,.c (.v (.int .i64 (x.1)))),(8,.c (.v (.int .i64 ((x.2.1:Int)))))]) (fun x=>[⟨204,2,[],true,true⟩,⟨3,1,ids.map intC,true,true⟩,⟨204,2,(rowsOf ids x.2.2).map DRow.o,true,true⟩]) (fun x=>x.1≤cs.length∧x.2.2.length=x.1∧((∀ c∈x.2.2,c.length=ids.length)∧(∀ c∈x.2.2,∀ v∈c,v.s.size≤6))∧x.2.1≤b.length∧(ids = []→x=(0,q,[]))∧(ids≠ []→(Gx b ids.length (cs.drop x.1) x.2.1).map (fun y=>(x.2.2++y.1,y.2))=Gx b ids.length cs q)) (fun x=>cs.length-x.1) (0,q,[]) (ABJ [(0,false),(1,false),(2,true)] ⟨rfl,rfl,rfl,CX _,EY (BF _),trivial⟩ ?h0) ⟨aA _,rfl,⟨AOR,AOR⟩,n1,fun _=>rfl,fun _=>AOR⟩ ?_
  case h0 =>
   show (⟨139,_,[_,_,⟨204,2,((rowsOf ids []).map DRow.o).map (fun x=>x.map (QP [(0,false),(1,false),(2,true)])),true,true⟩]⟩:MS)=_
   rw[Dx (BF _)]; rfl
  rintro⟨k,p,c⟩ ⟨hk,hck,⟨hcl,hsz⟩,hpb,hemp,hne⟩
  dsimp only at hk hck hcl hsz hpb hemp hne
  simp only[go_sem]
  rcases hk1:decide ((k:Int)<(cs.length:Int)) with _ | _
  ·have hk':k=cs.length:=by simp at hk1; omega
   have hgc:GH b cs ids q=some (c,p):=by
    exact ALd
   rw[hgc]
   rcases hpl:((p:Int) != (b.length:Int)) with _ | _
   rotate_left
   ·have hno:¬ (p=b.length∧Du cs (rowsOf ids c)=true):=fun q=>by simp at hpl; omega
    rw[Yv hno]
    simp only[go_sem,hk1,hpl,XA]
    try exact AJ7
   simp only[go_sem,hk1,hpl]
   refine ACK (args:=[.c (.sl (cs.map intC)),.c (.sl ((rowsOf ids c).map DRow.c))]) _ (by simp only[Jk,Ah,go_sem]) rfl (Va cs (rowsOf ids c) (by rw[Dy]; omega)) fun _=>?_
   rcases hok:Du cs (rowsOf ids c) with _ | _
   ·have hno:¬ (p=b.length∧Du cs (rowsOf ids c)=true):=fun q=>by rw[hok] at q; cases q.2
    rw[Yv hno]
    simp only[go_sem,hok,XA]
    try exact AJ7
   ·have hyes:p=b.length∧Du cs (rowsOf ids c)=true:=⟨by simp at hpl; omega,hok⟩
    rw[uZ hyes]
    simp only[go_sem,hok,XA,BF]
    try exact AII
  have hk':k<cs.length:=APJ
  rcases hi0:decide ((ids.length:Int)>0) with _ | _
  ·have hids:ids = []:=by
    apply aam
    simp at hi0; simp[hi0]
   have hx:=hemp hids
   simp only[bK] at hx
   obtain⟨_,hp0,hc0⟩:=hx
   have hgc:GH b cs ids q=some (c,p):=by rw[hc0,hp0]; exact bF hids
   rw[hgc]
   rcases hpl:((p:Int) != (b.length:Int)) with _ | _
   rotate_left
   ·have hno:¬ (p=b.length∧Du cs (rowsOf ids c)=true):=fun q=>by simp at hpl; omega
    rw[Yv hno]
    simp only[go_sem,hk1,hi0,hpl,XA]
    try exact AJ7
   simp only[go_sem,hk1,hi0,hpl]
   refine ACK (args:=[.c (.sl (cs.map intC)),.c (.sl ((rowsOf ids c).map DRow.c))]) _ (by simp only[Jk,Ah,go_sem]) rfl (Va cs (rowsOf ids c) (by rw[Dy]; omega)) fun _=>?_
   rcases hok:Du cs (rowsOf ids c) with _ | _
   ·have hno:¬ (p=b.length∧Du cs (rowsOf ids c)=true):=fun q=>by rw[hok] at q; cases q.2
    rw[Yv hno]
    simp only[go_sem,hok,XA]
    try exact AJ7
   ·have hyes:p=b.length∧Du cs (rowsOf ids c)=true:=⟨by simp at hpl; omega,hok⟩
    rw[uZ hyes]
    simp only[go_sem,hok,XA,BF]
    try exact AII
  have hids:ids≠ []:=by rintro rfl; simp at hi0
  have hn0:0<ids.length:=aa3.2 hids
  have hne:=hne hids
  have hgc:GH b cs ids q=Gx b ids.length cs q:=bz hids
  rw[hgc]
  rw[P5 hk',Gx] at hne
  simp only[go_sem,hk1,hi0]
  have hg2:=GU b p hb hl
  rcases h3:Bf b p with _ | ⟨m,p2⟩<;>rw[h3] at hg2 hne<;>simp only[Ve] at hg2
  ·refine AAM _ hg2 fun _=>?_
   simp only[WB] at hne
   rw[← hne,XB]
   simp only[go_sem,XA]
   try exact AJ7
  refine AAM _ hg2 fun _=>?_
  dsimp only at hne
  obtain⟨_,z2,z3,z4,z5,_⟩:=II hb h3
  have hw1:IntKind.i64.wrap ((b.length:Int)-(p2:Int))=(b.length:Int)-(p2:Int):=wrap_i64 AOQ AOQ
  simp only[go_sem,hw1]
  refine AAM _ (AO _ _ _) fun _=>?_
  rcases h4:Ad m 0 ((b.length:Int)-(p2:Int)) with _ | _
  ·rw[bz APN] at hne
   simp only[WB] at hne
   rw[← hne,XB]
   simp only[go_sem,h4,XA]
   try exact AJ7
  have h4':0≤m∧m≤(b.length:Int)-(p2:Int):=APN
  rw[bF h4'] at hne
  obtain⟨M,rfl⟩:=aQ h4'.1
  rw[bW] at hne
  have q1:=IU (k:=.i64) (n:=(p2:Int)) (m:=p2) AOQ
  have q2:=IU (k:=.i64) (n:=(p2:Int)+(M:Int)) (m:=p2+M) AOQ
  have q5:p2≤p2+M:=AOQ
  have q6:p2+M≤b.length:=AOQ
  have q7:p2+M-p2=M:=AOQ
  have hbd:Ae ((b.drop p2).take M):=TA hb _ _
  have hdc:=oJ ((b.drop p2).take M) cs[k] (ids.length:Int) hbd AOS
  simp only[go_sem,h4]
  refine ABH ?_
  simp only[go_sem,AA _ hk',q1,q2,q5,q6,q7,BN,← cZ,← cu,wrap_i64 (n:=(p2:Int)+(M:Int)) AOQ AOQ]
  rcases h5:I9 ((b.drop p2).take M) cs[k] (ids.length:Int) with _ | l<;>rw[h5] at hdc hne<;>simp only[Dv] at hdc
  ·refine ACI _ hdc ?_
   simp only[go_sem,AA _ hk',q1,q2,q5,q6,q7,BN,← cZ,← cu,wrap_i64 (n:=(p2:Int)+(M:Int)) AOQ AOQ]
   simp only[WB] at hne
   rw[← hne,XB]
   simp only[go_sem,XA]
   try exact AJ7
  refine ACI _ hdc ?_
  simp only[go_sem,AA _ hk',q1,q2,q5,q6,q7,BN,← cZ,← cu,wrap_i64 (n:=(p2:Int)+(M:Int)) AOQ AOQ]
  dsimp only at hne
  obtain⟨y1,y2,y3⟩:=XD hbd h5
  have hll:l.length=ids.length:=AOQ
  refine ABZ [] (A:=Nat) (fun x=>[(18,.c (.v (.int .i64 (x))))]) (fun x=>AFr ids c l x) (fun x=>x≤ids.length) (fun x=>ids.length-x) 0 (Head.trans (ABJ [(0,false),(1,false),(2,true)] ⟨rfl,rfl,rfl,CX _,EY (BF _),trivial⟩ (by
   show (⟨139,_,[_,_,⟨204,2,((rowsOf ids c).map DRow.o).map (fun x=>x.map (QP [(0,false),(1,false),(2,true)])),true,true⟩]⟩:MS)=_
   rw[Dx (BF _),kC]; rfl)) (kF ids c l 0)) (aA _) ?_
  rintro x hx
  rcases bV x ids.length with hx' | hx'
  ·have hdx:decide ((x:Int)<(ids.length:Int))=true:=by simpa using hx'
   have hxl:x<l.length:=AOQ
   have hgl:(Gs ids c l x).length=ids.length:=Vb hx
   have hrow:(((Gs ids c l x).map DRow.o).set x [.v (.int .i64 (KZ ids c x).id),.ref 3])[x]?=some [.v (.int .i64 (KZ ids c x).id),.ref 3]:=by
    rw[wE]; simp[hgl,hx']
   rw[AAU hx']
   simp only[go_sem,hdx,AA _ hxl,hgl,hx',hrow,ah]
   have hal:(KZ ids c x).l.length+1≤2147483648:=by simp only[KZ,ae]; omega
   refine ABH ?_
   simp only[go_sem,AA _ hxl,hgl,hx',hrow,ah,hal,wrap_i64 (n:=(x:Int)+1) AOQ AOQ]
   have hnx:(Gs ids c l (x+1)).map DRow.o=((Gs ids c l x).map DRow.o).set x (DRow.o (KZ ids (c ++ [l]) x)):=by rw[← uV hx',Qh]
   have hrs:DRow.o (KZ ids (c ++ [l]) x) = [.v (.int .i64 (KZ ids c x).id),.ow 64 3 ((KZ ids c x).l.map DVal.c ++ [l[x].c])]:=by rw[uS hxl,← GZ]; rfl
   have hR:((Gs ids c l (x+1)).map DRow.o).set x [.v (.int .i64 (KZ ids c x).id),.ow 64 3 ((KZ ids c x).l.map DVal.c ++ [l[x].c])]=(Gs ids c l (x+1)).map DRow.o:=by rw[hnx,ai,hrs]
   refine⟨x+1,Head.trans (ACJ [(0,false),(1,false),(2,true),(5,false)] 3 2 ⟨rfl,rfl,rfl,CX _, ?inn,MV _ _,trivial⟩
    ⟨x,(Gs ids c l (x+1)).map DRow.o,[.v (.int .i64 (KZ ids c x).id),.ref 3],[.v (.int .i64 (KZ ids c x).id),.ow 64 3 ((KZ ids c x).l.map DVal.c ++ [l[x].c])],_,⟨pX 2,rfl, ?rn, ?len,rfl⟩,
     ⟨rfl,rfl,rfl,rfl,rfl,rfl, ?nr,AOk,fun l hl=>AOg⟩,⟨rfl, ?tr⟩, ?eq⟩) (kF ids c l (x+1)),hx',AOQ⟩
   case inn =>
    show ((((Gs ids c l x).map DRow.o).set x [.v (.int .i64 (KZ ids c x).id),.ref 3]).set x [.v (.int .i64 (KZ ids c x).id),.ref 5]).all (fun x=>x.all (zq [(0,false),(1,false),(2,true),(5,false)]))=true
    exact ANF
   case rn =>
    show ((((Gs ids c l x).map DRow.o).set x [.v (.int .i64 (KZ ids c x).id),.ref 3]).set x [.v (.int .i64 (KZ ids c x).id),.ref 5]).map (fun x=>x.map (QP [(0,false),(1,false),(2,true),(5,false)]))=_
    rw[ai,Qh,Dx (BF _),hnx,ai]
    rfl
   case len=>simp only[ae]; rw[Vb AOQ]; exact hx'
   case nr=>rw[← GZ]; exact DD _
   case tr =>
    unfold BV
    rw[hR]
    exact AJn rfl (AU (AX _)) (AU (BF _))
   case eq =>
    unfold BV
    rw[hR]
    rfl
  ·have hdx:decide ((x:Int)<(ids.length:Int))=false:=by simp; omega
   have hx':x=ids.length:=AOQ
   rw[AAV AOQ]
   simp only[go_sem,hdx]
   subst hx'
   have hty:=kD h5
   have hta:=Dk (l:=l) AOQ
   simp only[go_sem,uT,wrap_i64 (n:=(k:Int)+1) AOQ AOQ,wrap_i64 (n:=(p2:Int)+(M:Int)) AOQ AOQ]
   exact⟨(k+1,p2+M,c ++ [l]),ABJ [(0,false),(1,false),(2,true)] ⟨rfl,rfl,rfl,CX _,EY (BF _),trivial⟩ (by
    show (⟨139,_,[_,_,⟨204,2,((rowsOf ids (c ++ [l])).map DRow.o).map (fun x=>x.map (QP [(0,false),(1,false),(2,true)])),true,true⟩]⟩:MS)=_
    rw[Dx (BF _)]; rfl),⟨hk',by simp[hck],⟨fun y hy=>by
     rcases aa1.1 hy with hy | hy
     ·exact hcl y hy
     ·rw[abo.1 hy]; exact hll,fun y hy v hv=>by
     rcases aa1.1 hy with hy | hy
     ·exact hsz y hy v hv
     ·rw[abo.1 hy] at hv; exact UK (hta.2.2 v hv).1⟩,q6,fun q=>absurd q hids,fun _=>by
    rw[← hne,aaT]; congr 1; funext y; simp⟩,AOV⟩
theorem uf (a b c:Int):Ctr prog 29 [.c (.v (.int .i64 a)),.c (.v (.int .i64 b)),.c (.v (.int .i64 c))] [.val (.c (.v (.bool (decide (a≥b)&&decide (a≤c)))))]:=by
 refine CM call29 func29 ntmps29 results29 fun hw=>?_
 rcases h1:decide (a≥b) with _ | _<;>simp only[go_sem,h1]<;>simp only[ag,aj]
def O3 (w:DWorld) (n:Int):Option DBuf:=if 0≤n then w.b[n.toNat]? else none
def OU (b:DBuf) (r:DRef):Bool:=(b.gen==r.gen)&&((b.kind==r.kind)&&((r.kind != 1)||((b.c0.l.length:Int)==r.many)))
def there (w:DWorld) (r:DRef):Bool:=match O3 w r.buf with
 | none=>false
 | some b=>OU b r
theorem FB (w:DWorld) (n:Int):(∃ (k:Nat) (h:k<w.b.length),n=k∧O3 w n=some w.b[k])∨((n<0∨(w.b.length:Int)≤n)∧O3 w n=none):=by
 unfold O3
 by_cases h0:0≤n
 ·obtain⟨k,rfl⟩:=aQ h0
  by_cases h1:k<w.b.length
  ·exact .inl ⟨k,h1,rfl,by simp[h1]⟩
  ·refine .inr ⟨.inr AOQ, ?_⟩
   simp only[h0,bf,bW]
   exact mV AOQ
 ·exact .inr ⟨.inl AOQ,by simp[h0]⟩
theorem GR (w:DWorld) (r:DRef):Ctr prog 195 [.agg w.c,.agg r.c] [.val (.c (.v (.bool (there w r))))]:=by
 refine CM call195 func195 ntmps195 results195 fun hw=>?_
 have hlenb:w.b.length≤9223372036854775807:=by have:=hw.1.2.2.2.2.2.2.2.2.1.1; simpa [Go.maxLen] using this
 simp only[go_sem,ae]
 try refine AAm ?_
 try simp only[go_sem,ae]
 first | refine ABL _ (uf r.buf 0 _) ?_ | refine AAM _ (uf r.buf 0 _) fun _=>?_
 simp only[go_sem,ae]
 rw[wrap_i64 (n:=(w.b.length:Int)-1) AOQ AOQ]
 rcases FB w r.buf with ⟨k,hk,hb,hat⟩ | ⟨hb,hat⟩
 ·have e0:decide ((k:Int)≥0)=true:=by simp
  have e1:decide ((k:Int)≤(w.b.length:Int)-1)=true:=AOS
  have hth:there w r=OU w.b[k] r:=by simp only[there,hat]
  rw[hth]
  rcases h1:w.b[k].gen != r.gen with _ | _<;>rcases h2:w.b[k].kind != r.kind with _ | _<;>rcases h3:r.kind != 1 with _ | _ <;>
   simp only[go_sem,ae,hb,e0,e1,AA _ hk,hk,h1,h2,h3] <;>
   simp only[bne_iff_ne,bne_eq_false_iff_eq,ne_eq,aaV,beq_eq_false_iff_ne] at h1 h2 h3 <;>
   first | (simp[OU,h1,h2,h3]; done) | (simp[OU,h1,h2,h3]; intro hh; exact absurd (hh.trans h3.symm) h2)
 ·have e1:(decide (r.buf≥0)&&decide (r.buf≤(w.b.length:Int)-1))=false:=by
   rw[Bool.and_eq_false_iff]
   by_cases h0:0≤r.buf
   ·right; simp; omega
   ·left; simp; omega
  have hth:there w r=false:=by simp only[there,hat]
  simp only[go_sem,ae,e1,hth]
theorem BI (w:DWorld) (r:DRef):Ctr prog 224 [.agg w.c,.agg r.c] [.val (.c (.v (.bool (there w r))))]:=by
 refine CM call224 func224 ntmps224 results224 fun hw=>?_
 rcases FB w r.buf with ⟨k,hk,hb,hat⟩ | ⟨hb,hat⟩
 ·have e1:decide (r.buf<0)=false:=by rw[hb]; simp
  have e2:decide ((k:Int)≥w.b.length)=false:=AOS
  have e3:decide ((k:Int)<0)=false:=AOR
  have hth:there w r=OU w.b[k] r:=by simp only[there,hat]
  rw[hth]
  rcases h1:w.b[k].gen==r.gen with _ | _<;>rcases h2:w.b[k].kind==r.kind with _ | _<;>rcases h3:r.kind != 1 with _ | _ <;>
   simp only[go_sem,ae,hb,e2,e3,AA _ hk,hk,h1,h2,h3] <;>
   simp only[OU,h1,h2,h3,aj,ag,dh,bZ]
 ·have hth:there w r=false:=by simp only[there,hat]
  rcases h0:decide (r.buf<0) with _ | _
  ·have e2:decide (r.buf≥(w.b.length:Int))=true:=by simp at h0 ⊢; omega
   simp only[go_sem,ae,h0,e2,hth]
  ·simp only[go_sem,ae,h0,hth]
def H7:DChunk:=⟨0,[]⟩
def IQ (w:DWorld) (r:DRef):DChunk×Bool:=match O3 w r.buf with
 | none=>(H7,false)
 | some b=>if(r.kind==1&&OU b r)=true then(b.c0,true) else(H7,false)
theorem OV (w:DWorld) (r:DRef):Ctr prog 154 [.agg w.c,.agg r.c] [.val (.agg (IQ w r).1.c),.val (.c (.v (.bool (IQ w r).2)))]:=by
 refine CM call154 func154 ntmps154 results154 fun hw=>?_
 rcases h1:r.kind != 1 with _ | _
 ·have hk1:(r.kind==1)=true:=by simpa using h1
  simp only[go_sem,h1]
  try refine AAm ?_
  try simp only[go_sem,h1]
  first | refine CY (BI w r) ?_ | refine CW (BI w r) fun _=>?_
  rcases h2:there w r with _ | _
  ·have hc:IQ w r=(H7,false):=by
    unfold IQ
    unfold there at h2
    split
    ·rfl
    ·rename_i b hb
     simp only[hb] at h2
     simp[h2]
   simp only[go_sem,h1,h2,hc,H7,di]
  ·obtain⟨k,hk,hb,hat⟩ | ⟨hb,hat⟩:=FB w r.buf
   ·have hc:IQ w r=(w.b[k].c0,true):=by
     unfold IQ
     simp only[there,hat] at h2
     simp[hat,h2,hk1]
    simp only[go_sem,h1,h2,hb,AA _ hk,hk,hc]
   ·simp only[there,hat] at h2
    cases h2
 ·have hk1:(r.kind==1)=false:=by simpa using h1
  have hc:IQ w r=(H7,false):=by
   unfold IQ
   split
   ·rfl
   ·simp[hk1]
  simp only[go_sem,h1,hc,H7,di]
  try refine AAm ?_
  try simp only[go_sem,h1,hc,H7,di]
noncomputable def Ej (w:DWorld) (r:DRef):List DRow:=match O3 w r.buf with
 | none=>[]
 | some b=>(DJ w.c0.cols b.g).getD []
theorem Ig {l:List Int} (h:jc (l.map byteC)):Ae l:=fun n hn=>by
 have h1:=Yk h _ (sD.2 ⟨n,hn,rfl⟩)
 have h2:QN (.int .u8 n)=true:=h1.1
 simp[QN,Lit.wf,isByte,IntKind.min,IntKind.max,IntKind.bits,IntKind.signed] at h2 ⊢
 omega
theorem Jt:∀ (a b:List Cl),WZ (a++b)→WZ a∧WZ b
 | [],b,h=>⟨trivial,h⟩
 | c::a,b,h=>⟨⟨h.1,(Jt a b h.2).1⟩,(Jt a b h.2).2⟩
theorem Vd {w:DWorld} {k:Nat} (h:WZ w.c) (hk:k<w.b.length):Ae w.b[k].g:=by
 rw[DWorld.c_eq] at h
 have h1:=(Jt _ _ (Jt _ _ (Jt _ _ (Jt _ _ (Jt _ _ (Jt _ _ h).2).2).2).2).2).1.1
 simp only[sS] at h1
 have h2:=Yk h1.2 _ (sD.2 ⟨w.b[k],ax hk,rfl⟩)
 rw[DBuf.c_eq] at h2
 have h3:=(Jt _ _ (Jt _ _ (Jt _ _ h2).2).2).2.1
 simp only[sS] at h3
 exact Ig h3.2
theorem MP {w:DWorld} (hf:Aa w) {k:Nat} (hk:k<w.b.length):EI w.b[k].c0∧w.b[k].g.length≤1048576:=by
 rw[Ar] at hf
 have:=hf.2.2.1.2 _ (ax hk)
 rw[Fa] at this
 exact this
theorem AAW (x:Option (List DRow)):(XA x).map Zt = [.val (.c (.sl ((x.getD []).map DRow.c))),.val (.c (.v (.bool (x.isSome))))]:=by
 cases x with
 | none=>rfl
 | some l =>
  simp only[XA,YR,di,Zt,Jk]
  rfl
theorem dR (cs:List Int) (b:List Int) (hb:Ae b) (hl:b.length≤1048576):Ctr prog 294 [.c (.sl (cs.map intC)),.c (.sl (b.map byteC))] [.val (.c (.sl (((DJ cs b).getD []).map DRow.c))),.val (.c (.v (.bool ((DJ cs b).isSome))))]:=by
 rw[← AAW]; exact(dQ cs b hb hl).frz
theorem UL (cs:List Int) (b:List Int) (hb:Ae b) (hl:b.length≤1048576):Ctr prog 306 [.c (.sl (cs.map intC)),.c (.sl (b.map byteC))] [.val (.c (.sl (((DJ cs b).getD []).map DRow.c))),.val (.c (.v (.bool ((DJ cs b).isSome))))]:=by
 rw[← AAW]; exact(dP cs b hb hl).frz
theorem Me (w:DWorld) (r:DRef) {k:Nat} (hf:Aa w) (hk:k<w.b.length) (hb:r.buf=(k:Int)):Ctr prog 196 [.agg w.c,.agg r.c] [.val (.c (.sl ((Ej w r).map DRow.c)))]:=by
 refine CM call196 func196 ntmps196 results196 fun hw=>?_
 have hbo:=Vd hw.1 hk
 have hg:Ej w r=(DJ w.c0.cols w.b[k].g).getD []:=by simp only[Ej,O3,hb]; simp[hk]
 simp only[go_sem,hb,AA _ hk,hk]
 refine AAm ?_
 simp only[go_sem,hb,AA _ hk,hk]
 refine ABL _ (dR w.c0.cols w.b[k].g hbo (MP hf hk).2) ?_
 simp only[go_sem,hg]
theorem Lt (w:DWorld) (r:DRef) (hf:Aa w):Ctr prog 225 [.agg w.c,.agg r.c] [.val (.c (.sl ((if(r.kind==2&&there w r)=true then Ej w r else []).map DRow.c)))]:=by
 refine CM call225 func225 ntmps225 results225 fun hw=>?_
 rcases h1:r.kind != 2 with _ | _
 ·have hk1:(r.kind==2)=true:=by simpa using h1
  simp only[go_sem,h1,hk1,aj]
  try refine AAm ?_
  try simp only[go_sem,h1]
  first | refine CY (BI w r) ?_ | refine CW (BI w r) fun _=>?_
  rcases h2:there w r with _ | _
  ·simp only[go_sem,h1,h2]
  ·obtain⟨k,hk,hb,hat⟩ | ⟨hb,hat⟩:=FB w r.buf
   ·have hbo:=Vd hw.1 hk
    have hg:Ej w r=(DJ w.c0.cols w.b[k].g).getD []:=by simp only[Ej,hat]
    simp only[go_sem,h1,h2,hb,AA _ hk,hk]
    try refine AAm ?_
    try simp only[go_sem,h1,h2,hb,AA _ hk,hk]
    first | refine ABL _ (UL w.c0.cols w.b[k].g hbo (MP hf hk).2) ?_ | refine AAM _ (UL w.c0.cols w.b[k].g hbo (MP hf hk).2) fun _=>?_
    simp only[go_sem,hg]
   ·simp only[there,hat] at h2
    cases h2
 ·have hk1:(r.kind==2)=false:=by simpa using h1
  simp only[go_sem,h1,hk1,ag]
  try refine AAm ?_
  try simp only[go_sem,h1,hk1]
  trace_state
end Go.Proofs.YtnoldekcdlaahaaGreat
