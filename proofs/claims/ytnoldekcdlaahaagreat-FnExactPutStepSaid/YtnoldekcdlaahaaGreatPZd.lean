/- A part. -/
import Derived.Test.YtnoldekcdlaahaaGreatPZa
import Derived.Test.YtnoldekcdlaahaaGreatPXa
import Derived.Test.YtnoldekcdlaahaaGreatPAg
import Derived.Test.YtnoldekcdlaahaaGreatPZx
set_option linter.unusedSimpArgs false
set_option linter.unusedVariables false
set_option maxHeartbeats 4000000
set_option maxRecDepth 10000
open Go.Proofs.Tryz
namespace Go.Proofs.YtnoldekcdlaahaaGreat
open Go.Vm
def JU:Int→List DRef→List DRef→Bool
 | _,_,[]=>true
 | e,seen,r::l=>Ef r&&((r.first==e)&&(!E5 seen r.buf&&JU (IntKind.i64.wrap (e+r.many)) (seen ++ [r]) l))
def Il (d:DDir):Bool:=!decide (d.ver<0)&&(!decide ((d.l.length:Int)>8)&&JU 0 [] d.l)
def O7 (l:List DRef) (k:Nat):Int:=(l.take k).foldl (fun e r=>IntKind.i64.wrap (e+r.many)) 0
theorem YF (l:List DRef) (e:Int) {k:Nat} (h:k<l.length):JU e (l.take k) (l.drop k)=(Ef l[k]&&((l[k].first==e)&&(!E5 (l.take k) l[k].buf&&JU (IntKind.i64.wrap (e+l[k].many)) (l.take (k+1)) (l.drop (k+1))))):=by
 rw[aG h,JU,List.take_add_one,au h]
 rfl
theorem P9 (l:List DRef) {k:Nat} (h:k<l.length):O7 l (k+1)=IntKind.i64.wrap (O7 l k+l[k].many):=by
 unfold O7
 rw[List.take_add_one,au h,List.foldl_append]
 rfl
theorem AK2 (l:List DRef):((l.map DRef.c).all fun r=>r.length==5)=true:=aJ.2 fun r hr=>by
 obtain⟨x,_,rfl⟩:=sD.1 hr
 rfl
theorem RU (d:DDir) (hl:d.l.length≤1048576):Ctr prog 103 [.agg d.c] [.val (.c (.v (.bool (Il d))))]:=by
 refine CM call103 func103 ntmps103 results103 fun hw=>?_
 unfold Il
 rcases h1:decide (d.ver<0) with _ | _
 rotate_left
 ·simp only[go_sem,h1,aP,ag]
 rcases h2:decide ((d.l.length:Int)>8) with _ | _
 rotate_left
 ·simp only[go_sem,h1,h2,aP,aS,aj,ag]
 simp only[go_sem,h1,h2,aS,aj]
 refine ABK 1 (A:=Nat) (fun x=>[(18,.c (.v (.int .i64 (x)))),(3,.c (.v (.int .i64 (O7 d.l x))))]) (fun _=>[⟨38,2,[d.c],true,true⟩]) (fun x=>x≤d.l.length∧JU (O7 d.l x) (d.l.take x) (d.l.drop x)=JU 0 [] d.l) (fun x=>d.l.length-x) 0 ⟨⟨rfl,rfl⟩,rfl,aA _,rfl⟩ ?_
 rintro k ⟨hk,hb⟩
 refine AOJ (fun h=>?_) fun h=>?_
 ·have hk':k<d.l.length:=by simpa using h
  rw[YF _ _ hk',← P9 _ hk'] at hb
  simp only[go_sem,AA _ hk',hk']
  refine AAm ?_
  simp only[go_sem,AA _ hk',hk']
  refine CY (RP d.l[k]) ?_
  rcases h3:Ef d.l[k] with _ | _
  ·rw[h3,ag] at hb
   simp only[go_sem,h3,← hb]
  rcases h4:d.l[k].first==O7 d.l k with _ | _
  ·have g4:(d.l[k].first != O7 d.l k)=true:=by simp[bne,h4]
   rw[h3,h4,ag,aK] at hb
   simp only[go_sem,h3,g4,← hb]
  have g4:(d.l[k].first != O7 d.l k)=false:=by simp[bne,h4]
  have hmt:List.take k (d.l.map DRef.c)=(d.l.take k).map DRef.c:=(cu ..).symm
  simp only[go_sem,AA _ hk',hk',h3,g4,hmt,hk,AK2,aA,abd,and_self,bf]
  refine CY (pI ⟨0,d.l.take k⟩ d.l[k].buf AOS) ?_
  rcases h5:E5 (d.l.take k) d.l[k].buf with _ | _
  ·rw[h3,h4,h5,aj,aj,aS,aj] at hb
   simp only[go_sem,AA _ hk',hk',h3,g4,h5,← P9 _ hk',wrap_i64 (n:=(k:Int)+1) AOQ AOQ]
   exact AMG
  ·rw[h5,aP,ag,aK,aK] at hb
   simp only[go_sem,AA _ hk',hk',h3,g4,h5,← hb]
 ·have hk':k=d.l.length:=by simp at h; omega
  subst hk'
  rw[aY] at hb
  simp only[go_sem,← hb,JU]
theorem RV (d:DDir) (hl:d.l.length≤1048576):Ctr prog 83 [.agg d.c] [.val (.c (.v (.bool (Il d))))]:=by
 refine CM call83 func83 ntmps83 results83 fun hw=>?_
 unfold Il
 rcases h2:decide ((d.l.length:Int)>8) with _ | _
 rotate_left
 ·simp only[go_sem,h2,aP,ag,aK]
 simp only[go_sem,h2,aS,aj]
 refine ABK 1 (A:=Nat) (fun x=>[(4,.c (.v (.int .i64 (x)))),(3,.c (.v (.int .i64 (O7 d.l x))))]) (fun _=>[⟨38,2,[d.c],true,true⟩]) (fun x=>x≤d.l.length∧JU (O7 d.l x) (d.l.take x) (d.l.drop x)=JU 0 [] d.l) (fun x=>d.l.length-x) 0 ⟨⟨rfl,rfl⟩,rfl,aA _,rfl⟩ ?_
 rintro k ⟨hk,hb⟩
 refine AOJ (fun h=>?_) fun h=>?_
 ·have hk':k<d.l.length:=by simpa using h
  rw[YF _ _ hk',← P9 _ hk'] at hb
  simp only[go_sem,AA _ hk',hk']
  refine CW (RQ d.l[k]) fun _=>?_
  rcases h3:Ef d.l[k] with _ | _
  ·rw[h3,ag] at hb
   simp only[go_sem,h3,← hb,aK]
  rcases h4:d.l[k].first==O7 d.l k with _ | _
  ·have g4:(d.l[k].first != O7 d.l k)=true:=by simp[bne,h4]
   rw[h3,h4,ag,aK] at hb
   simp only[go_sem,AA _ hk',hk',h3,g4,← hb,aK]
  have g4:(d.l[k].first != O7 d.l k)=false:=by simp[bne,h4]
  have htl:(d.l.take k).length=k:=AOS
  have hti:∀ j (h:j<(d.l.take k).length),(d.l.take k)[j]=d.l[j]' AOQ:=fun j h=>AOR
  simp only[go_sem,AA _ hk',hk',h3,g4,← P9 _ hk']
  refine ABK 1 (A:=Nat) (fun x=>[(5,.c (.v (.int .i64 (x))))]) (fun _=>[⟨38,2,[d.c],true,true⟩]) (FC (d.l.take k) fun r=>!(r.buf==d.l[k].buf)) (fun x=>k-x) 0 ⟨⟨rfl,rfl⟩,rfl,DZ⟩ ?_
  intro j hj
  refine AOJ (fun h=>?_) fun h=>?_
  ·have hjk:j<k:=by simpa using h
   have hj':j<d.l.length:=AOQ
   have hj2:j<(d.l.take k).length:=AOQ
   rcases h1:d.l[j].buf==d.l[k].buf with _ | _
   ·simp only[go_sem,AA _ hk',hk',AA _ hj',hj',h1]
    refine AAm ?_
    simp only[go_sem,AA _ hk',hk',AA _ hj',hj',h1,wrap_i64 (n:=(j:Int)+1) AOQ AOQ]
    exact⟨j+1,⟨rfl,rfl⟩,rfl,BH hj2 hj (by rw[hti]; simp[h1]),AOQ⟩
   ·have h5:E5 (d.l.take k) d.l[k].buf=true:=pG (p:=fun r:DRef=>r.buf==d.l[k].buf) hj2 (by rw[hti]; exact h1)
    rw[h5,aP,ag,aK,aK] at hb
    simp only[go_sem,AA _ hk',hk',AA _ hj',hj',h1]
    refine AAm ?_
    simp only[go_sem,AA _ hk',hk',AA _ hj',hj',h1,← hb,aK]
  ·have hjk:j=k:=by have:=hj.1; rw[htl] at this; simp at h; omega
   subst hjk
   have h5:E5 (d.l.take j) d.l[j].buf=false:=y9 (by rw[htl]; exact hj)
   rw[h3,h4,h5,aj,aj,aS,aj] at hb
   simp only[go_sem,wrap_i64 (n:=(j:Int)+1) AOQ AOQ]
   exact⟨j+1,⟨rfl,rfl⟩,rfl,⟨hk',hb⟩,AOQ⟩
 ·have hk':k=d.l.length:=by simp at h; omega
  subst hk'
  rw[aY] at hb
  simp only[go_sem,← hb,JU,aN]
  rcases h1:decide (d.ver<0) with _ | _<;>simp at h1<;>simp[h1]<;>omega
def J4 (cs:List Int) (next i:Int) (s:DSlot):Bool:=OX s.ins&&(!(decide (i≥next)&&(s.ins != 0))&&(!((s.ins==0)&&decide ((s.l.length:Int)>0)) && !((s.ins != 0) && !fits cs s.l)))
def J5 (cs:List Int) (next:Int):Nat→List DSlot→Bool
 | _,[]=>true
 | i,s::l=>J4 cs next i s&&J5 cs next (i+1) l
theorem V4 (cs:List Int) (next:Int) (l:List DSlot) {k:Nat} (h:k<l.length):J5 cs next k (l.drop k)=(J4 cs next k l[k]&&J5 cs next (k+1) (l.drop (k+1))):=by
 rw[aG h,J5]
def P_ (cs:List Int) (c:DChunk):Bool:=Ad c.l.length 1 4&&(Ad c.next 0 c.l.length&&J5 cs c.next 0 c.l)
theorem jF (cs:List Int) (c:DChunk) (hc:EI c):Ctr prog 305 [.c (.sl (cs.map intC)),.agg c.c] [.val (.c (.v (.bool (P_ cs c))))]:=by
 rw[CE] at hc
 have hl:=hc.1
 refine CM call305 func305 ntmps305 results305 fun hw=>?_
 unfold P_
 simp only[go_sem]
 refine AAM _ (AL c.l.length 1 4) fun _=>?_
 rcases h1:Ad c.l.length 1 4 with _ | _
 ·exact ALu
 simp only[go_sem,h1]
 refine AAM _ (AL c.next 0 c.l.length) fun _=>?_
 rcases h2:Ad c.next 0 c.l.length with _ | _
 ·simp only[go_sem,h1,h2,ag,aj]
 simp only[go_sem,h1,h2,aj]
 refine ABK 1 (A:=Nat) (fun x=>[(24,.c (.v (.int .i64 (x))))]) (fun _=>[⟨140,2,[c.c],true,true⟩]) (fun x=>x≤c.l.length∧J5 cs c.next x (c.l.drop x)=J5 cs c.next 0 c.l) (fun x=>c.l.length-x) 0 ⟨⟨rfl,rfl⟩,rfl,aA _,rfl⟩ ?_
 rintro k ⟨hk,hb⟩
 refine AOJ (fun h=>?_) fun h=>?_
 ·have hk':k<c.l.length:=by simpa using h
  rw[V4 _ _ _ hk'] at hb
  simp only[go_sem,AA _ hk',hk']
  refine AAM _ (Vw c.l[k].ins) fun _=>?_
  rcases h3:OX c.l[k].ins with _ | _
  ·rw[J4,h3,ag,ag] at hb
   simp only[go_sem,h3,← hb]
  rcases h4:c.l[k].ins==0 with _ | _
  ·have g4:(c.l[k].ins != 0)=true:=by simp[bne,h4]
   rcases h5:decide ((k:Int)≥c.next) with _ | _
   rotate_left
   ·rw[J4,h3,g4,h5] at hb
    simp only[aN,aP,ag,aK] at hb
    simp only[go_sem,AA _ hk',hk',h3,g4,h5,← hb]
   simp only[go_sem,AA _ hk',hk',h3,h4,g4,h5]
   refine AAM _ (PH cs c.l[k].l) fun _=>?_
   rcases h6:fits cs c.l[k].l with _ | _
   ·rw[J4,h3,h4,g4,h5,h6] at hb
    simp only[aN,aj,aP,aS,ag,aK] at hb
    simp only[go_sem,h6,← hb]
   ·exact ALq
  ·have g4:(c.l[k].ins != 0)=false:=by simp[bne,h4]
   rcases h6:decide ((c.l[k].l.length:Int)>0) with _ | _
   ·rw[J4,h3,h4,g4,h6] at hb
    simp only[aN,aj,aP,aS,ag,aK] at hb
    rcases h5:decide ((k:Int)≥c.next) with _ | _<;>simp only[go_sem,AA _ hk',hk',h3,h4,g4,h5,h6,wrap_i64 (n:=(k:Int)+1) AOQ AOQ] <;>
     exact AMG
   ·rw[J4,h3,h4,g4,h6] at hb
    simp only[aN,aj,aP,aS,ag,aK] at hb
    rcases h5:decide ((k:Int)≥c.next) with _ | _<;>simp only[go_sem,AA _ hk',hk',h3,h4,g4,h5,h6,← hb]
 ·have hk':k=c.l.length:=by simp at h; omega
  subst hk'
  rw[aY] at hb
  simp only[go_sem,← hb,J5]
theorem jG (cs:List Int) (c:DChunk) (hc:EI c):Ctr prog 293 [.c (.sl (cs.map intC)),.agg c.c] [.val (.c (.v (.bool (P_ cs c))))]:=by
 rw[CE] at hc
 have hl:=hc.1
 refine CM call293 func293 ntmps293 results293 fun hw=>?_
 unfold P_
 simp only[go_sem]
 refine ABK 1 (A:=Nat) (fun x=>[(5,.c (.v (.int .i64 (x))))]) (fun _=>[⟨140,2,[c.c],true,true⟩]) (fun x=>x≤c.l.length∧J5 cs c.next x (c.l.drop x)=J5 cs c.next 0 c.l) (fun x=>c.l.length-x) 0 ⟨⟨rfl,rfl⟩,rfl,aA _,rfl⟩ ?_
 rintro k ⟨hk,hb⟩
 refine AOJ (fun h=>?_) fun h=>?_
 ·have hk':k<c.l.length:=by simpa using h
  rw[V4 _ _ _ hk'] at hb
  simp only[go_sem,AA _ hk',hk']
  refine AAM _ (P8 c.l[k].ins) fun _=>?_
  rcases h3:OX c.l[k].ins with _ | _
  ·rw[J4,h3,ag,ag] at hb
   simp only[go_sem,h3,← hb,aK]
  rcases h4:c.l[k].ins==0 with _ | _
  ·have g4:(c.l[k].ins != 0)=true:=by simp[bne,h4]
   rcases h5:decide ((k:Int)≥c.next) with _ | _
   rotate_left
   ·rw[J4,h3,g4,h5] at hb
    simp only[aN,aP,ag,aK] at hb
    simp only[go_sem,AA _ hk',hk',h3,h4,g4,h5,← hb,aK]
   simp only[go_sem,AA _ hk',hk',h3,h4,g4,h5]
   refine AAM _ (PG cs c.l[k].l) fun _=>?_
   rcases h6:fits cs c.l[k].l with _ | _
   ·rw[J4,h3,h4,g4,h5,h6] at hb
    simp only[aN,aj,aP,aS,ag,aK] at hb
    simp only[go_sem,h6,← hb,aK]
   ·exact ALq
  ·have g4:(c.l[k].ins != 0)=false:=by simp[bne,h4]
   rcases h6:decide ((c.l[k].l.length:Int)>0) with _ | _
   ·rw[J4,h3,h4,g4,h6] at hb
    simp only[aN,aj,aP,aS,ag,aK] at hb
    simp only[go_sem,AA _ hk',hk',h3,h4,g4,h6,wrap_i64 (n:=(k:Int)+1) AOQ AOQ]
    exact AMG
   ·rw[J4,h3,h4,g4,h6] at hb
    simp only[aN,aj,aP,aS,ag,aK] at hb
    simp only[go_sem,AA _ hk',hk',h3,h4,g4,h6,← hb,aK]
 ·have hk':k=c.l.length:=by simp at h; omega
  subst hk'
  rw[aY] at hb
  simp only[go_sem,← hb,J5,aN]
  refine AAM _ (AO c.l.length 1 4) fun _=>?_
  rcases h1:Ad c.l.length 1 4 with _ | _
  ·exact ALu
  simp only[go_sem,h1]
  refine AAM _ (AO c.next 0 c.l.length) fun _=>?_
  simp only[go_sem,aj]
def O8 (c:DChunk):Bool:=(c.next==0)&&((c.l.length:Int)==0)
noncomputable def gI (cs:List Int) (b:DBuf):Bool:=
 if(b.kind==0)=true then decide (b.gen≥0)&&(O8 b.c0&&((b.g.length:Int)==0)) else
 if(b.kind==1)=true then decide (b.gen≥0)&&(P_ cs b.c0&&((b.g.length:Int)==0)) else
 (b.kind==2)&&(decide (b.gen≥0)&&(O8 b.c0&&(DJ cs b.g).isSome))
theorem zA (c:DChunk) (hc:EI c):Ctr prog 304 [.agg c.c,.agg H7.c] [.val (.c (.v (.bool (O8 c))))]:=by
 rw[CE] at hc
 have hl:=hc.1
 refine CM call304 func304 ntmps304 results304 fun hw=>?_
 rcases h1:c.next==0 with _ | _
 ·have g1:(c.next != 0)=true:=by simp[bne,h1]
  simp only[go_sem,g1,h1,H7,O8,ag]
 have g1:(c.next != 0)=false:=AP2
 rcases h2:((c.l.length:Int)==0) with _ | _
 ·have g2:((c.l.length:Int) != 0)=true:=by simp only[bne,h2,aS]
  simp only[go_sem,g1,h1,g2,h2,H7,O8,di,aW,abH,aK]
 have g2:((c.l.length:Int) != 0)=false:=by simp only[bne,h2,aP]
 have hn:c.l = []:=APG
 simp only[go_sem,g1,h1,g2,h2,H7,O8,di,aW,abH,aN,hn,az]
 refine ABK 2 (A:=Unit) (fun _=>[]) (fun _=>[⟨140,2,[[.v (.int .i64 c.next),.sl []]],true,true⟩,⟨140,2,[[.v (.int .i64 0),.sl []]],true,true⟩]) (fun _=>True) (fun _=>0) () ⟨⟨rfl,rfl⟩,rfl,trivial⟩ ?_
 intro _ _
 simp only[go_sem,Int.lt_irrefl,abI,aC]
theorem gJ (c:DChunk) (hc:EI c):Ctr prog 292 [.agg c.c] [.val (.c (.v (.bool (O8 c))))]:=by
 refine CM call292 func292 ntmps292 results292 fun hw=>?_
 rcases h1:c.next==0 with _ | _
 ·simp only[go_sem,h1,O8,ag]
 ·simp only[go_sem,h1,O8,aj]
theorem vY (cs:List Int) (b:DBuf) (hf:E8 b) (hg:Ae b.g):Ctr prog 221 [.c (.sl (cs.map intC)),.agg b.c] [.val (.c (.v (.bool (gI cs b))))]:=by
 rw[Fa] at hf
 refine CM call221 func221 ntmps221 results221 fun hw=>?_
 unfold gI
 simp only[go_sem]
 refine AAM _ (by have:=zA b.c0 hf.1; simpa only[go_sem,H7,di] using this) fun _=>?_
 rcases k0:b.kind==0 with _ | _
 rotate_left
 ·simp only[bf]
  rcases h1:decide (b.gen≥0) with _ | _
  ·simp only[go_sem,k0,h1,ag]
  rcases h2:O8 b.c0 with _ | _
  ·simp only[go_sem,k0,h1,h2,ag,aj]
  simp only[go_sem,k0,h1,h2,aj]
 simp only[aB,aX]
 rcases k1:b.kind==1 with _ | _
 rotate_left
 ·simp only[bf]
  rcases h1:decide (b.gen≥0) with _ | _
  ·simp only[go_sem,k0,k1,h1,ag]
  simp only[go_sem,k0,k1,h1]
  refine CW (jF cs b.c0 hf.1) fun _=>?_
  exact ANm
 simp only[aB,aX]
 rcases k2:b.kind==2 with _ | _
 ·simp only[go_sem,k0,k1,k2,ag]
 simp only[go_sem,k0,k1,k2]
 refine AAM _ (UL cs b.g hg hf.2) fun _=>?_
 rcases h1:decide (b.gen≥0) with _ | _
 ·simp only[go_sem,h1,ag,aK]
 rcases h2:O8 b.c0 with _ | _
 ·simp only[go_sem,h1,h2,ag,aj,aK]
 simp only[go_sem,h1,h2,aj]
theorem YG (cs:List Int) (b:DBuf) (hf:E8 b) (hg:Ae b.g):Ctr prog 193 [.c (.sl (cs.map intC)),.agg b.c] [.val (.c (.v (.bool (gI cs b))))]:=by
 rw[Fa] at hf
 refine CM call193 func193 ntmps193 results193 fun hw=>?_
 unfold gI
 rcases k0:b.kind==0 with _ | _
 rotate_left
 ·simp only[bf]
  rcases h1:decide (b.gen≥0) with _ | _
  ·simp only[go_sem,k0,h1,ag]
  simp only[go_sem,k0,h1]
  refine CW (gJ b.c0 hf.1) fun _=>?_
  rcases h2:O8 b.c0 with _ | _
  ·simp only[go_sem,h2,ag,aj]
  simp only[go_sem,h2,aj]
 simp only[aB,aX]
 rcases k1:b.kind==1 with _ | _
 rotate_left
 ·simp only[bf]
  rcases h1:decide (b.gen≥0) with _ | _
  ·simp only[go_sem,k0,k1,h1,ag]
  simp only[go_sem,k0,k1,h1]
  refine CW (jG cs b.c0 hf.1) fun _=>?_
  exact ANm
 simp only[aB,aX]
 simp only[go_sem,k0,k1]
 refine AAM _ (dR cs b.g hg hf.2) fun _=>?_
 rcases k2:b.kind==2 with _ | _
 ·simp only[go_sem,k2,ag]
 rcases h1:decide (b.gen≥0) with _ | _
 ·simp only[go_sem,k2,h1,ag,aK]
 simp only[go_sem,k2,h1]
 refine CW (gJ b.c0 hf.1) fun _=>?_
 rcases h2:O8 b.c0 with _ | _
 ·simp only[go_sem,h2,ag,aj,aK]
 simp only[go_sem,h2,aj]
end Go.Proofs.YtnoldekcdlaahaaGreat
