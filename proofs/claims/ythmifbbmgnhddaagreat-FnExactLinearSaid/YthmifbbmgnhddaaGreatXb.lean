/- A part. -/
import Derived.Test.YthmifbbmgnhddaaGreatAf
import Derived.Test.YthmifbbmgnhddaaGreatDk
import Derived.Test.YthmifbbmgnhddaaGreatWa
import Derived.Test.YthmifbbmgnhddaaGreatXa
set_option linter.unusedSimpArgs false
set_option linter.unusedVariables false
set_option maxHeartbeats 4000000
set_option maxRecDepth 10000
open Go.Proofs.Tryz
namespace Go.Proofs.YthmifbbmgnhddaaGreat
open Go.Vm
def Ou (cs:List Int) (p:DPred):Bool:=E8 cs&&(JZ cs 4 p&&decide ((CJ 4 p:Int)≤8))
theorem uF (cs:List Int) (p:DPred) (hc:cs.length≤1048576) (hp:Ap p):Ctr prog 265 [.c (.sl (cs.map intC)),.agg p.c] [.val (.c (.v (.bool (Ou cs p))))]:=by
 refine CM call265 func265 ntmps265 results265 fun hw=>?_
 simp only[go_sem,ae]
 refine AAN _ (OY cs) fun _=>?_
 rcases h1:E8 cs with _ | _
 ·simp only[go_sem,Ou,h1,ag]
 simp only[go_sem,h1]
 refine CW (VI cs hc 4 1 p ARJ ARJ hp) fun _=>?_
 rcases h2:JZ cs 4 p with _ | _
 ·simp only[go_sem,Ou,h1,h2,ag,aK]
 simp only[go_sem,h1,h2]
 refine CW (R_ cs 4 p ARJ hp h2) fun _=>?_
 simp only[go_sem,Ou,h1,h2,ah]
theorem uG (cs:List Int) (p:DPred) (hc:cs.length≤1048576) (hp:Ap p):Ctr prog 266 [.c (.sl (cs.map intC)),.agg p.c] [.val (.c (.v (.bool (Ou cs p))))]:=by
 refine CM call266 func266 ntmps266 results266 fun hw=>?_
 simp only[go_sem,ae]
 refine AAN _ (OZ cs) fun _=>?_
 rcases h1:E8 cs with _ | _
 ·simp only[go_sem,Ou,h1,ag]
 simp only[go_sem,h1]
 refine AAN _ (by have:=Yw cs hc 4 p ARJ hp; rw[show ((4:Nat):Int)=4 from rfl] at this; simpa only[go_sem] using this) fun _=>?_
 simp only[go_sem,h1]
 refine AAN _ (AL _ _ _) fun _=>?_
 have:Ad (Dz cs 4 p) 1 8=Ou cs p:=by
  unfold Ou Dz
  rw[h1]
  rcases h2:JZ cs 4 p with _ | _
  ·rfl
  ·have:1≤CJ 4 p:=AFA 3 p
   simp[Ad]
   omega
 simp only[go_sem,this]
def AIb (q:DQuery):List Cl:=[.v (.int .i64 q.kind),.v (.int .i64 q.p.kind),.v (.int .i64 q.p.col),.v (.int .i64 q.p.op),.v (.int .i64 q.p.v.ty),.v (.int .i64 q.p.v.n),.v (.string q.p.v.s),.sl (q.p.l.map DPred.c),.v (.int .i64 q.col),.sl (q.out.map intC)]
@[go_sem] theorem ANU (q:DQuery):AIb q = [.v (.int .i64 q.kind),.v (.int .i64 q.p.kind),.v (.int .i64 q.p.col),.v (.int .i64 q.p.op),.v (.int .i64 q.p.v.ty),.v (.int .i64 q.p.v.n),.v (.string q.p.v.s),.sl (q.p.l.map DPred.c),.v (.int .i64 q.col),.sl (q.out.map intC)]:=rfl
def NY (cs:List Int) (l:List Int):Bool:=l.all fun k=>Ad k 0 ((cs.length:Int)-1)
def Ah (cs:List Int) (q:DQuery):Bool:=
 Ou cs q.p&&(if(q.kind==1)=true then NY cs q.out&&((q.col==0)&&Ad q.out.length 1 3) else
  if(q.kind==2)=true then(q.col==0)&&((q.out.length:Int)==0) else
  if(q.kind==3)=true then Ad q.col 0 ((cs.length:Int)-1)&&(((cs[q.col.toNat]?).getD 0==1)&&((q.out.length:Int)==0)) else
  if(q.kind==4)=true then Ad q.col 0 ((cs.length:Int)-1)&&((q.out.length:Int)==0) else
  if(q.kind==5)=true then Ad q.col 0 ((cs.length:Int)-1)&&((q.out.length:Int)==0) else false)
theorem Vq (cs:List Int) (l:List Int) {k:Nat} (h:k<l.length):NY cs (l.drop k)=(Ad l[k] 0 ((cs.length:Int)-1)&&NY cs (l.drop (k+1))):=by
 unfold NY
 grind [aA]
theorem Jj (cs:List Int) (q:DQuery) (hc:cs.length≤1048576) (hq:Bl q):Ctr prog 161 [.c (.sl (cs.map intC)),.agg q.c] [.val (.c (.v (.bool (Ah cs q))))]:=by
 rw[EG] at hq
 have hol:=hq.2
 have hwl:IntKind.i64.wrap ((cs.length:Int)-1)=(cs.length:Int)-1:=wrap_i64 AQ2 AQ2
 have hin:Ad q.col 0 ((cs.length:Int)-1)=true→∃ m:Nat,q.col=m∧m<cs.length:=by
  intro hh
  simp[Ad] at hh
  exact⟨q.col.toNat,AQ2,AQ2⟩
 refine CM call161 func161 ntmps161 results161 fun hw=>?_
 simp only[go_sem,ae]
 refine CW (uF cs q.p hc hq.1) fun _=>?_
 rcases h1:Ou cs q.p with _ | _
 ·simp only[go_sem,Ah,h1,ag]
 rcases k1:(q.kind==1) with _ | _
 rotate_left
 ·have hr:Ah cs q=(NY cs q.out&&((q.col==0)&&Ad q.out.length 1 3)):=by simp[Ah,h1,k1]
  rw[hr]
  simp only[go_sem,ae,h1,k1]
  refine AAT 1 (A:=Nat) (fun k=>[(5,.c (.v (.int .i64 (k))))]) (fun _=>[⟨71,10,[AIb q],true,true⟩]) (fun k=>k≤q.out.length∧NY cs (q.out.drop k)=NY cs q.out) (fun k=>q.out.length-k) 0 ⟨⟨rfl,rfl⟩,rfl,au _,rfl⟩ ?_
  rintro k ⟨hk,hb⟩
  refine AQy (fun h=>?_) fun h=>?_
  ·have hk':k<q.out.length:=by simpa using h
   rw[Vq cs q.out hk'] at hb
   simp only[go_sem,ae,AA _ hk',hk',hwl]
   refine AAN _ (AQ q.out[k] 0 _) fun _=>?_
   rcases hv:Ad q.out[k] 0 ((cs.length:Int)-1) with _ | _
   ·rw[hv,ag] at hb
    simp only[go_sem,ae,hv,← hb,ag]
   ·rw[hv,ah] at hb
    simp only[go_sem,ae,hv,wrap_i64 (n:=(k:Int)+1) AQ2 AQ2]
    exact⟨k+1,⟨rfl,rfl⟩,rfl,⟨AQ2,hb⟩,AQ2⟩
  ·have hk':k=q.out.length:=by simp at h; omega
   rw[hk',aJ] at hb
   have hb':NY cs q.out=true:=by rw[← hb]; rfl
   rw[hb',ah]
   rcases hA:(q.col==0) with _ | _
   ·simp only[go_sem,ae,hA,ag]
   ·simp only[go_sem,ae,hA,ah]
    refine AAN _ (AQ q.out.length 1 3) fun _=>?_
    simp only[go_sem,ae,hA,ah]
 rcases k2:(q.kind==2) with _ | _
 rotate_left
 ·have hr:Ah cs q=((q.col==0)&&((q.out.length:Int)==0)):=by simp[Ah,h1,k1,k2]
  rw[hr]
  rcases hA:(q.col==0) with _ | _
  ·simp only[go_sem,ae,h1,k1,k2,hA,ag]
  ·simp only[go_sem,ae,h1,k1,k2,hA,ah]
 rcases k3:(q.kind==3) with _ | _
 rotate_left
 ·have hr:Ah cs q=(Ad q.col 0 ((cs.length:Int)-1)&&(((cs[q.col.toNat]?).getD 0==1)&&((q.out.length:Int)==0))):=by simp[Ah,h1,k1,k2,k3]
  rw[hr]
  simp only[go_sem,ae,h1,k1,k2,k3,hwl]
  refine AAN _ (AQ q.col 0 _) fun _=>?_
  rcases c1:Ad q.col 0 ((cs.length:Int)-1) with _ | _
  ·simp only[go_sem,ae,c1,ag]
  obtain⟨m,hm,hml⟩:=hin c1
  have hgm:(cs[q.col.toNat]?).getD 0=cs[m]:=by rw[hm]; simp[hml]
  rw[hgm]
  rcases c2:(cs[m]==1) with _ | _
  ·simp only[go_sem,ae,c1,c2,hm,AA _ hml,hml,ah,ag]
  ·simp only[go_sem,ae,c1,c2,hm,AA _ hml,hml,ah]
 rcases k4:(q.kind==4) with _ | _
 rotate_left
 ·have hr:Ah cs q=(Ad q.col 0 ((cs.length:Int)-1)&&((q.out.length:Int)==0)):=by simp[Ah,h1,k1,k2,k3,k4]
  rw[hr]
  simp only[go_sem,ae,h1,k1,k2,k3,k4,hwl]
  exact APE
 rcases k5:(q.kind==5) with _ | _
 rotate_left
 ·have hr:Ah cs q=(Ad q.col 0 ((cs.length:Int)-1)&&((q.out.length:Int)==0)):=by simp[Ah,h1,k1,k2,k3,k4,k5]
  rw[hr]
  simp only[go_sem,ae,h1,k1,k2,k3,k4,k5,hwl]
  exact APE
 have hr:Ah cs q=false:=by simp[Ah,h1,k1,k2,k3,k4,k5]
 rw[hr]
 simp only[go_sem,ae,h1,k1,k2,k3,k4,k5]
theorem F5 (cs:List Int) (q:DQuery) (hc:cs.length≤1048576) (hq:Bl q):Ctr prog 163 [.c (.sl (cs.map intC)),.agg q.c] [.val (.c (.v (.bool (Ah cs q))))]:=by
 rw[EG] at hq
 have hol:=hq.2
 have hwl:IntKind.i64.wrap ((cs.length:Int)-1)=(cs.length:Int)-1:=wrap_i64 AQ2 AQ2
 have hin:Ad q.col 0 ((cs.length:Int)-1)=true→∃ m:Nat,q.col=m∧m<cs.length:=by
  intro hh
  simp[Ad] at hh
  exact⟨q.col.toNat,AQ2,AQ2⟩
 refine CM call163 func163 ntmps163 results163 fun hw=>?_
 simp only[go_sem,ae]
 refine CW (uG cs q.p hc hq.1) fun _=>?_
 rcases h1:Ou cs q.p with _ | _
 ·simp only[go_sem,Ah,h1,ag]
 simp only[go_sem,ae,h1,hwl]
 refine AAN _ (AL q.col 0 _) fun _=>?_
 rcases c1:Ad q.col 0 ((cs.length:Int)-1) with _ | _
 ·rcases k1:(q.kind==1) with _ | _
  rotate_left
  ·exact AF9
  rcases k2:(q.kind==2) with _ | _
  rotate_left
  ·exact AOK
  have hr:Ah cs q=false:=by simp[Ah,h1,k1,k2,c1]
  rw[hr]
  rcases k3:(q.kind==3) with _ | _
  rotate_left
  ·simp only[go_sem,ae,h1,c1,k1,k2,k3]
  rcases k4:(q.kind==4) with _ | _
  rotate_left
  ·simp only[go_sem,ae,h1,c1,k1,k2,k3,k4]
  rcases k5:(q.kind==5) with _ | _
  rotate_left
  ·exact APd
  exact APd
 ·rcases k1:(q.kind==1) with _ | _
  rotate_left
  ·exact AF9
  rcases k2:(q.kind==2) with _ | _
  rotate_left
  ·exact AOK
  rcases k3:(q.kind==3) with _ | _
  rotate_left
  ·obtain⟨m,hm,hml⟩:=hin c1
   have hgm:(cs[q.col.toNat]?).getD 0=cs[m]:=by rw[hm]; simp[hml]
   have hr:Ah cs q=((cs[m]==1)&&((q.out.length:Int)==0)):=by simp only[Ah,h1,k1,k2,k3,c1,hgm]; rfl
   rw[hr]
   rcases c2:((q.out.length:Int)==0) with _ | _
   ·simp only[go_sem,ae,h1,c1,c2,k1,k2,k3,aK]
   ·simp only[go_sem,ae,h1,c1,c2,k1,k2,k3,hm,AA _ hml,hml,aF]
  have hr2:(q.kind==4)=true∨(q.kind==5)=true→Ah cs q=((q.out.length:Int)==0):=by
   intro h45
   rcases h45 with h45 | h45
   ·simp[Ah,h1,k1,k2,k3,h45,c1]
   ·simp[Ah,h1,k1,k2,k3,h45,c1]
  rcases k4:(q.kind==4) with _ | _
  rotate_left
  ·rw[hr2 (.inl k4)]
   simp only[go_sem,ae,h1,c1,k1,k2,k3,k4]
  rcases k5:(q.kind==5) with _ | _
  rotate_left
  ·rw[hr2 (.inr k5)]
   exact APd
  have hr:Ah cs q=false:=by simp[Ah,h1,k1,k2,k3,k4,k5]
  rw[hr]
  exact APd
theorem allA {N:Nat} {a:Ob} (ha:Aq N a=true) : [a].all (Aq N)=true:=by simp[ha]
theorem GI (l:List DRow) (hl:fitS Aw l):Ctr prog 256 [.c (.sl (l.map DRow.c))] [.own 201 2 (l.map DRow.o) true]:=by
 refine CM call256 func256 ntmps256 results256 fun hw=>?_
 have hlen:=hl.1
 simp only[go_sem,ae]
 refine AAU [6] (A:=Nat×List DRow) (fun x=>[(9,.c (.v (.int .i64 (x.1)))),(3,.c (.ref 0))]) (fun x=>[⟨201,2,x.2.map DRow.o,true,true⟩]) (fun x=>x.1≤l.length∧x.2.length≤x.1∧x.2++l.drop x.1=l) (fun x=>l.length-x.1) (0,[]) (AAQ [(0,false)] ⟨rfl,rfl,rfl,trivial⟩ rfl) ⟨au _,aI _,rfl⟩ ?_
 rintro⟨k,out⟩ ⟨hk,hol,hb⟩
 dsimp only at hk hol hb
 refine AQy (fun h=>?_) fun h=>?_
 ·have hk':k<l.length:=by simpa using h
  rw[aA hk'] at hb
  have hr:=hl.2 _ (aj hk')
  rw[DN] at hr
  have hrl:=hr.1
  have hol2:out.length+1≤2147483648:=AQ2
  simp only[go_sem,ae,AA _ hk',hk',ak]
  refine CW (Fq l[k] hrl) fun _=>?_
  simp only[go_sem,aW,bn,ae,AA _ hk',hk',hol2,GM,ay,ak,wrap_i64 (n:=(k:Int)+1) AQ2 AQ2]
  refine⟨(k+1,out ++ [l[k]]),ABP [(4,true),(2,false)] 1 0 ⟨rfl,rfl,FH DRow.o_nr _ out rfl,AP DVal.pure,trivial⟩ ⟨out.length,out.map DRow.o ++ [DRow.o l[k]],_,DRow.o l[k],_,⟨bD 0,rfl,FD DRow.o_nr _ out _ _,AQ3,rfl⟩,
   ⟨rfl,rfl,rfl,rfl,rfl,rfl,BH _,ARF,fun l hl=>ARA⟩,⟨rfl, ?tr⟩, ?eq⟩,⟨hk',AQ5,(aZ _ _ _).trans hb⟩,AQ4⟩
  case tr=>unfold Am; rw[Ae]; exact allA (AU (AO _))
  case eq=>unfold Am; rw[Ae,bQ]; rfl
 ·have hk':k=l.length:=by simp at h; omega
  subst hk'
  rw[aJ] at hb
  have:out=l:=ARZ
  subst this
  exact AOO
theorem IU (l:List DRow) (hl:fitS Aw l):Ctr prog 214 [.c (.sl (l.map DRow.c))] [.own 201 2 (l.map DRow.o) true]:=by
 refine CM call214 func214 ntmps214 results214 fun hw=>?_
 have hlen:=hl.1
 simp only[go_sem,ae]
 refine AAU [6] (A:=Nat×List DRow) (fun x=>[(4,.c (.v (.int .i64 (x.1)))),(3,.c (.ref 0))]) (fun x=>[⟨201,2,x.2.map DRow.o,true,true⟩]) (fun x=>x.1≤l.length∧x.2.length≤x.1∧x.2++l.drop x.1=l) (fun x=>l.length-x.1) (0,[]) (AAQ [(0,false)] ⟨rfl,rfl,rfl,trivial⟩ rfl) ⟨au _,aI _,rfl⟩ ?_
 rintro⟨k,out⟩ ⟨hk,hol,hb⟩
 dsimp only at hk hol hb
 refine AQy (fun h=>?_) fun h=>?_
 ·have hk':k<l.length:=by simpa using h
  rw[aA hk'] at hb
  have hr:=hl.2 _ (aj hk')
  rw[DN] at hr
  have hrl:=hr.1
  have hol2:out.length+1≤2147483648:=AQ2
  simp only[go_sem,ae,AA _ hk',hk',ak]
  refine CW (Hz l[k] hrl) fun _=>?_
  simp only[go_sem,aW,bn,ae,AA _ hk',hk',hol2,GM,ay,ak,wrap_i64 (n:=(k:Int)+1) AQ2 AQ2]
  refine⟨(k+1,out ++ [l[k]]),ABP [(4,true),(1,false)] 1 0 ⟨rfl,rfl,FH DRow.o_nr _ out rfl,AP DVal.pure,trivial⟩ ⟨out.length,out.map DRow.o ++ [DRow.o l[k]],_,DRow.o l[k],_,⟨bD 0,rfl,FD DRow.o_nr _ out _ _,AQ3,rfl⟩,
   ⟨rfl,rfl,rfl,rfl,rfl,rfl,BH _,ARF,fun l hl=>ARA⟩,⟨rfl, ?tr⟩, ?eq⟩,⟨hk',AQ5,(aZ _ _ _).trans hb⟩,AQ4⟩
  case tr=>unfold Am; rw[Ae]; exact allA (AU (AO _))
  case eq=>unfold Am; rw[Ae,bQ]; rfl
 ·have hk':k=l.length:=by simp at h; omega
  subst hk'
  rw[aJ] at hb
  have:out=l:=ARZ
  subst this
  exact AOO
def J5:Int→List DRef→List DRef→Bool
 | _,_,[]=>true
 | e,seen,r::l=>Eg r&&((r.first==e)&&(!Ew seen r.buf&&J5 (IntKind.i64.wrap (e+r.many)) (seen ++ [r]) l))
def NZ (d:DDir):Bool:=!decide (d.ver<0)&&(!decide ((d.l.length:Int)>8)&&J5 0 [] d.l)
def QI (l:List DRef) (k:Nat):Int:=(l.take k).foldl (fun e r=>IntKind.i64.wrap (e+r.many)) 0
theorem Ze (l:List DRef) (e:Int) {k:Nat} (h:k<l.length):J5 e (l.take k) (l.drop k)=(Eg l[k]&&((l[k].first==e)&&(!Ew (l.take k) l[k].buf&&J5 (IntKind.i64.wrap (e+l[k].many)) (l.take (k+1)) (l.drop (k+1))))):=by
 rw[aA h,J5,abR,aC h]
 rfl
theorem Q9 (l:List DRef) {k:Nat} (h:k<l.length):QI l (k+1)=IntKind.i64.wrap (QI l k+l[k].many):=by
 unfold QI
 rw[abR,aC h,List.foldl_append]
 rfl
theorem ANu (l:List DRef):((l.map DRef.c).all fun r=>r.length==5)=true:=aS.2 fun r hr=>by
 exact APL
theorem Zf (d:DDir) (hl:d.l.length≤1048576):Ctr prog 126 [.agg d.c] [.val (.c (.v (.bool (NZ d))))]:=by
 refine CM call126 func126 ntmps126 results126 fun hw=>?_
 unfold NZ
 rcases h1:decide (d.ver<0) with _ | _
 rotate_left
 ·simp only[go_sem,h1,aO,ag]
 rcases h2:decide ((d.l.length:Int)>8) with _ | _
 rotate_left
 ·simp only[go_sem,h1,h2,aO,aH,ah,ag]
 simp only[go_sem,h1,h2,aH,ah]
 refine AAT 1 (A:=Nat) (fun x=>[(18,.c (.v (.int .i64 (x)))),(3,.c (.v (.int .i64 (QI d.l x))))]) (fun _=>[⟨40,2,[d.c],true,true⟩]) (fun x=>x≤d.l.length∧J5 (QI d.l x) (d.l.take x) (d.l.drop x)=J5 0 [] d.l) (fun x=>d.l.length-x) 0 ⟨⟨rfl,rfl⟩,rfl,au _,rfl⟩ ?_
 rintro k ⟨hk,hb⟩
 refine AQx (fun h=>?_) fun h=>?_
 ·have hk':k<d.l.length:=by simpa using h
  rw[Ze _ _ hk',← Q9 _ hk'] at hb
  simp only[go_sem,AA _ hk',hk']
  refine AAO ?_
  simp only[go_sem,AA _ hk',hk']
  refine CY (TT d.l[k]) ?_
  rcases h3:Eg d.l[k] with _ | _
  ·rw[h3,ag] at hb
   simp only[go_sem,h3,← hb]
  rcases h4:d.l[k].first==QI d.l k with _ | _
  ·have g4:(d.l[k].first != QI d.l k)=true:=by simp[bne,h4]
   rw[h3,h4,ag,aK] at hb
   simp only[go_sem,h3,g4,← hb]
  have g4:(d.l[k].first != QI d.l k)=false:=by simp[bne,h4]
  have hmt:List.take k (d.l.map DRef.c)=(d.l.take k).map DRef.c:=(cZ ..).symm
  simp only[go_sem,AA _ hk',hk',h3,g4,hmt,hk,ANu,au,vH,vI,bH]
  refine CY (uD ⟨0,d.l.take k⟩ d.l[k].buf AQ5) ?_
  rcases h5:Ew (d.l.take k) d.l[k].buf with _ | _
  ·rw[h3,h4,h5,ah,ah,aH,ah] at hb
   simp only[go_sem,AA _ hk',hk',h3,g4,h5,← Q9 _ hk',wrap_i64 (n:=(k:Int)+1) AQ2 AQ2]
   exact AOx
  ·rw[h5,aO,ag,aK,aK] at hb
   simp only[go_sem,AA _ hk',hk',h3,g4,h5,← hb]
 ·have hk':k=d.l.length:=by simp at h; omega
  subst hk'
  rw[aJ] at hb
  simp only[go_sem,← hb,J5]
theorem Zg (d:DDir) (hl:d.l.length≤1048576):Ctr prog 109 [.agg d.c] [.val (.c (.v (.bool (NZ d))))]:=by
 refine CM call109 func109 ntmps109 results109 fun hw=>?_
 unfold NZ
 rcases h2:decide ((d.l.length:Int)>8) with _ | _
 rotate_left
 ·simp only[go_sem,h2,aO,ag,aK]
 simp only[go_sem,h2,aH,ah]
 refine AAT 1 (A:=Nat) (fun x=>[(4,.c (.v (.int .i64 (x)))),(3,.c (.v (.int .i64 (QI d.l x))))]) (fun _=>[⟨40,2,[d.c],true,true⟩]) (fun x=>x≤d.l.length∧J5 (QI d.l x) (d.l.take x) (d.l.drop x)=J5 0 [] d.l) (fun x=>d.l.length-x) 0 ⟨⟨rfl,rfl⟩,rfl,au _,rfl⟩ ?_
 rintro k ⟨hk,hb⟩
 refine AQx (fun h=>?_) fun h=>?_
 ·have hk':k<d.l.length:=by simpa using h
  rw[Ze _ _ hk',← Q9 _ hk'] at hb
  simp only[go_sem,AA _ hk',hk']
  refine CW (TU d.l[k]) fun _=>?_
  rcases h3:Eg d.l[k] with _ | _
  ·rw[h3,ag] at hb
   simp only[go_sem,h3,← hb,aK]
  rcases h4:d.l[k].first==QI d.l k with _ | _
  ·have g4:(d.l[k].first != QI d.l k)=true:=by simp[bne,h4]
   rw[h3,h4,ag,aK] at hb
   simp only[go_sem,AA _ hk',hk',h3,g4,← hb,aK]
  have g4:(d.l[k].first != QI d.l k)=false:=by simp[bne,h4]
  have htl:(d.l.take k).length=k:=AQ5
  have hti:∀ j (h:j<(d.l.take k).length),(d.l.take k)[j]=d.l[j]' AQ2:=fun j h=>AQ3
  simp only[go_sem,AA _ hk',hk',h3,g4,← Q9 _ hk']
  refine AAT 1 (A:=Nat) (fun x=>[(5,.c (.v (.int .i64 (x))))]) (fun _=>[⟨40,2,[d.c],true,true⟩]) (Gp (d.l.take k) fun r=>!(r.buf==d.l[k].buf)) (fun x=>k-x) 0 ⟨⟨rfl,rfl⟩,rfl,EL⟩ ?_
  intro j hj
  refine AQx (fun h=>?_) fun h=>?_
  ·have hjk:j<k:=by simpa using h
   have hj':j<d.l.length:=AQ2
   have hj2:j<(d.l.take k).length:=AQ2
   rcases h1:d.l[j].buf==d.l[k].buf with _ | _
   ·simp only[go_sem,AA _ hk',hk',AA _ hj',hj',h1]
    refine AAO ?_
    simp only[go_sem,AA _ hk',hk',AA _ hj',hj',h1,wrap_i64 (n:=(j:Int)+1) AQ2 AQ2]
    exact⟨j+1,⟨rfl,rfl⟩,rfl,Bv hj2 hj (by rw[hti]; simp[h1]),AQ2⟩
   ·have h5:Ew (d.l.take k) d.l[k].buf=true:=uC (p:=fun r:DRef=>r.buf==d.l[k].buf) hj2 (by rw[hti]; exact h1)
    rw[h5,aO,ag,aK,aK] at hb
    simp only[go_sem,AA _ hk',hk',AA _ hj',hj',h1]
    refine AAO ?_
    simp only[go_sem,AA _ hk',hk',AA _ hj',hj',h1,← hb,aK]
  ·have hjk:j=k:=by have:=hj.1; rw[htl] at this; simp at h; omega
   subst hjk
   have h5:Ew (d.l.take j) d.l[j].buf=false:=ABo (by rw[htl]; exact hj)
   rw[h3,h4,h5,ah,ah,aH,ah] at hb
   simp only[go_sem,wrap_i64 (n:=(j:Int)+1) AQ2 AQ2]
   exact⟨j+1,⟨rfl,rfl⟩,rfl,⟨hk',hb⟩,AQ2⟩
 ·have hk':k=d.l.length:=by simp at h; omega
  subst hk'
  rw[aJ] at hb
  simp only[go_sem,← hb,J5,aF]
  rcases h1:decide (d.ver<0) with _ | _<;>simp at h1<;>simp[h1]<;>omega
def Kt (cs:List Int) (next i:Int) (s:DSlot):Bool:=Pm s.ins&&(!(decide (i≥next)&&(s.ins != 0))&&(!((s.ins==0)&&decide ((s.l.length:Int)>0)) && !((s.ins != 0) && !fits cs s.l)))
def Ku (cs:List Int) (next:Int):Nat→List DSlot→Bool
 | _,[]=>true
 | i,s::l=>Kt cs next i s&&Ku cs next (i+1) l
theorem Xj (cs:List Int) (next:Int) (l:List DSlot) {k:Nat} (h:k<l.length):Ku cs next k (l.drop k)=(Kt cs next k l[k]&&Ku cs next (k+1) (l.drop (k+1))):=by
 rw[aA h,Ku]
def Q_ (cs:List Int) (c:DChunk):Bool:=Ad c.l.length 1 4&&(Ad c.next 0 c.l.length&&Ku cs c.next 0 c.l)
theorem lw (cs:List Int) (c:DChunk) (hc:E5 c):Ctr prog 320 [.c (.sl (cs.map intC)),.agg c.c] [.val (.c (.v (.bool (Q_ cs c))))]:=by
 rw[DY] at hc
 have hl:=hc.1
 refine CM call320 func320 ntmps320 results320 fun hw=>?_
 unfold Q_
 simp only[go_sem]
 refine AAN _ (AL c.l.length 1 4) fun _=>?_
 rcases h1:Ad c.l.length 1 4 with _ | _
 ·exact AOH
 simp only[go_sem,h1]
 refine AAN _ (AL c.next 0 c.l.length) fun _=>?_
 rcases h2:Ad c.next 0 c.l.length with _ | _
 ·simp only[go_sem,h1,h2,ag,ah]
 simp only[go_sem,h1,h2,ah]
 refine AAT 1 (A:=Nat) (fun x=>[(24,.c (.v (.int .i64 (x))))]) (fun _=>[⟨168,2,[c.c],true,true⟩]) (fun x=>x≤c.l.length∧Ku cs c.next x (c.l.drop x)=Ku cs c.next 0 c.l) (fun x=>c.l.length-x) 0 ⟨⟨rfl,rfl⟩,rfl,au _,rfl⟩ ?_
 rintro k ⟨hk,hb⟩
 refine AQx (fun h=>?_) fun h=>?_
 ·have hk':k<c.l.length:=by simpa using h
  rw[Xj _ _ _ hk'] at hb
  simp only[go_sem,AA _ hk',hk']
  refine AAN _ (Xb c.l[k].ins) fun _=>?_
  rcases h3:Pm c.l[k].ins with _ | _
  ·rw[Kt,h3,ag,ag] at hb
   simp only[go_sem,h3,← hb]
  rcases h4:c.l[k].ins==0 with _ | _
  ·have g4:(c.l[k].ins != 0)=true:=by simp[bne,h4]
   rcases h5:decide ((k:Int)≥c.next) with _ | _
   rotate_left
   ·rw[Kt,h3,g4,h5] at hb
    simp only[aF,aO,ag,aK] at hb
    simp only[go_sem,AA _ hk',hk',h3,g4,h5,← hb]
   simp only[go_sem,AA _ hk',hk',h3,h4,g4,h5]
   refine AAN _ (G6 cs c.l[k].l) fun _=>?_
   rcases h6:fits cs c.l[k].l with _ | _
   ·rw[Kt,h3,h4,g4,h5,h6] at hb
    simp only[aF,ah,aO,aH,ag,aK] at hb
    simp only[go_sem,h6,← hb]
   ·exact AOa
  ·have g4:(c.l[k].ins != 0)=false:=by simp[bne,h4]
   rcases h6:decide ((c.l[k].l.length:Int)>0) with _ | _
   ·rw[Kt,h3,h4,g4,h6] at hb
    simp only[aF,ah,aO,aH,ag,aK] at hb
    rcases h5:decide ((k:Int)≥c.next) with _ | _<;>simp only[go_sem,AA _ hk',hk',h3,h4,g4,h5,h6,wrap_i64 (n:=(k:Int)+1) AQ2 AQ2] <;>
     exact AOx
   ·rw[Kt,h3,h4,g4,h6] at hb
    simp only[aF,ah,aO,aH,ag,aK] at hb
    rcases h5:decide ((k:Int)≥c.next) with _ | _<;>simp only[go_sem,AA _ hk',hk',h3,h4,g4,h5,h6,← hb]
 ·have hk':k=c.l.length:=by simp at h; omega
  subst hk'
  rw[aJ] at hb
  simp only[go_sem,← hb,Ku]
theorem l7 (cs:List Int) (c:DChunk) (hc:E5 c):Ctr prog 312 [.c (.sl (cs.map intC)),.agg c.c] [.val (.c (.v (.bool (Q_ cs c))))]:=by
 rw[DY] at hc
 have hl:=hc.1
 refine CM call312 func312 ntmps312 results312 fun hw=>?_
 unfold Q_
 simp only[go_sem]
 refine AAT 1 (A:=Nat) (fun x=>[(5,.c (.v (.int .i64 (x))))]) (fun _=>[⟨168,2,[c.c],true,true⟩]) (fun x=>x≤c.l.length∧Ku cs c.next x (c.l.drop x)=Ku cs c.next 0 c.l) (fun x=>c.l.length-x) 0 ⟨⟨rfl,rfl⟩,rfl,au _,rfl⟩ ?_
 rintro k ⟨hk,hb⟩
 refine AQx (fun h=>?_) fun h=>?_
 ·have hk':k<c.l.length:=by simpa using h
  rw[Xj _ _ _ hk'] at hb
  simp only[go_sem,AA _ hk',hk']
  refine AAN _ (Q3 c.l[k].ins) fun _=>?_
  rcases h3:Pm c.l[k].ins with _ | _
  ·rw[Kt,h3,ag,ag] at hb
   simp only[go_sem,h3,← hb,aK]
  rcases h4:c.l[k].ins==0 with _ | _
  ·have g4:(c.l[k].ins != 0)=true:=by simp[bne,h4]
   rcases h5:decide ((k:Int)≥c.next) with _ | _
   rotate_left
   ·rw[Kt,h3,g4,h5] at hb
    simp only[aF,aO,ag,aK] at hb
    simp only[go_sem,AA _ hk',hk',h3,h4,g4,h5,← hb,aK]
   simp only[go_sem,AA _ hk',hk',h3,h4,g4,h5]
   refine AAN _ (Jz cs c.l[k].l) fun _=>?_
   rcases h6:fits cs c.l[k].l with _ | _
   ·rw[Kt,h3,h4,g4,h5,h6] at hb
    simp only[aF,ah,aO,aH,ag,aK] at hb
    simp only[go_sem,h6,← hb,aK]
   ·exact AOa
  ·have g4:(c.l[k].ins != 0)=false:=by simp[bne,h4]
   rcases h6:decide ((c.l[k].l.length:Int)>0) with _ | _
   ·rw[Kt,h3,h4,g4,h6] at hb
    simp only[aF,ah,aO,aH,ag,aK] at hb
    simp only[go_sem,AA _ hk',hk',h3,h4,g4,h6,wrap_i64 (n:=(k:Int)+1) AQ2 AQ2]
    exact AOx
   ·rw[Kt,h3,h4,g4,h6] at hb
    simp only[aF,ah,aO,aH,ag,aK] at hb
    simp only[go_sem,AA _ hk',hk',h3,h4,g4,h6,← hb,aK]
 ·have hk':k=c.l.length:=by simp at h; omega
  subst hk'
  rw[aJ] at hb
  simp only[go_sem,← hb,Ku,aF]
  refine AAN _ (AQ c.l.length 1 4) fun _=>?_
  rcases h1:Ad c.l.length 1 4 with _ | _
  ·exact AOH
  simp only[go_sem,h1]
  refine AAN _ (AQ c.next 0 c.l.length) fun _=>?_
  simp only[go_sem,ah]
def QJ (c:DChunk):Bool:=(c.next==0)&&((c.l.length:Int)==0)
noncomputable def je (cs:List Int) (b:DBuf):Bool:=
 if(b.kind==0)=true then decide (b.gen≥0)&&(QJ b.c0&&((b.g.length:Int)==0)) else
 if(b.kind==1)=true then decide (b.gen≥0)&&(Q_ cs b.c0&&((b.g.length:Int)==0)) else
 (b.kind==2)&&(decide (b.gen≥0)&&(QJ b.c0&&(CQ cs b.g).isSome))
theorem ABr (c:DChunk) (hc:E5 c):Ctr prog 319 [.agg c.c,.agg IR.c] [.val (.c (.v (.bool (QJ c))))]:=by
 rw[DY] at hc
 have hl:=hc.1
 refine CM call319 func319 ntmps319 results319 fun hw=>?_
 rcases h1:c.next==0 with _ | _
 ·have g1:(c.next != 0)=true:=by simp[bne,h1]
  simp only[go_sem,g1,h1,IR,QJ,ag]
 have g1:(c.next != 0)=false:=ASf
 rcases h2:((c.l.length:Int)==0) with _ | _
 ·have g2:((c.l.length:Int) != 0)=true:=by simp only[bne,h2,aH]
  simp only[go_sem,g1,h1,g2,h2,IR,QJ,df,bV,abS,aK]
 have g2:((c.l.length:Int) != 0)=false:=by simp only[bne,h2,aO]
 have hn:c.l = []:=ARw
 simp only[go_sem,g1,h1,g2,h2,IR,QJ,df,bV,abS,aF,hn,ax]
 refine AAT 2 (A:=Unit) (fun _=>[]) (fun _=>[⟨168,2,[[.v (.int .i64 c.next),.sl []]],true,true⟩,⟨168,2,[[.v (.int .i64 0),.sl []]],true,true⟩]) (fun _=>True) (fun _=>0) () ⟨⟨rfl,rfl⟩,rfl,trivial⟩ ?_
 intro _ _
 simp only[go_sem,Int.lt_irrefl,abU,aB]
theorem jf (c:DChunk) (hc:E5 c):Ctr prog 311 [.agg c.c] [.val (.c (.v (.bool (QJ c))))]:=by
 refine CM call311 func311 ntmps311 results311 fun hw=>?_
 rcases h1:c.next==0 with _ | _
 ·simp only[go_sem,h1,QJ,ag]
 ·simp only[go_sem,h1,QJ,ah]
theorem zQ (cs:List Int) (b:DBuf) (hf:KL b) (hg:Af b.g):Ctr prog 240 [.c (.sl (cs.map intC)),.agg b.c] [.val (.c (.v (.bool (je cs b))))]:=by
 rw[JL] at hf
 refine CM call240 func240 ntmps240 results240 fun hw=>?_
 unfold je
 simp only[go_sem]
 refine AAN _ (by have:=ABr b.c0 hf.1; simpa only[go_sem,IR,df] using this) fun _=>?_
 rcases k0:b.kind==0 with _ | _
 rotate_left
 ·simp only[bH]
  rcases h1:decide (b.gen≥0) with _ | _
  ·simp only[go_sem,k0,h1,ag]
  rcases h2:QJ b.c0 with _ | _
  ·simp only[go_sem,k0,h1,h2,ag,ah]
  simp only[go_sem,k0,h1,h2,ah]
 simp only[ay,aY]
 rcases k1:b.kind==1 with _ | _
 rotate_left
 ·simp only[bH]
  rcases h1:decide (b.gen≥0) with _ | _
  ·simp only[go_sem,k0,k1,h1,ag]
  simp only[go_sem,k0,k1,h1]
  refine CW (lw cs b.c0 hf.1) fun _=>?_
  exact AQJ
 simp only[ay,aY]
 rcases k2:b.kind==2 with _ | _
 ·simp only[go_sem,k0,k1,k2,ag]
 simp only[go_sem,k0,k1,k2]
 refine AAN _ (Vp cs b.g hg hf.2) fun _=>?_
 rcases h1:decide (b.gen≥0) with _ | _
 ·simp only[go_sem,h1,ag,aK]
 rcases h2:QJ b.c0 with _ | _
 ·simp only[go_sem,h1,h2,ag,ah,aK]
 simp only[go_sem,h1,h2,ah]
theorem Zh (cs:List Int) (b:DBuf) (hf:KL b) (hg:Af b.g):Ctr prog 219 [.c (.sl (cs.map intC)),.agg b.c] [.val (.c (.v (.bool (je cs b))))]:=by
 rw[JL] at hf
 refine CM call219 func219 ntmps219 results219 fun hw=>?_
 unfold je
 rcases k0:b.kind==0 with _ | _
 rotate_left
 ·simp only[bH]
  rcases h1:decide (b.gen≥0) with _ | _
  ·simp only[go_sem,k0,h1,ag]
  simp only[go_sem,k0,h1]
  refine CW (jf b.c0 hf.1) fun _=>?_
  rcases h2:QJ b.c0 with _ | _
  ·simp only[go_sem,h2,ag,ah]
  simp only[go_sem,h2,ah]
 simp only[ay,aY]
 rcases k1:b.kind==1 with _ | _
 rotate_left
 ·simp only[bH]
  rcases h1:decide (b.gen≥0) with _ | _
  ·simp only[go_sem,k0,k1,h1,ag]
  simp only[go_sem,k0,k1,h1]
  refine CW (l7 cs b.c0 hf.1) fun _=>?_
  exact AQJ
 simp only[ay,aY]
 simp only[go_sem,k0,k1]
 refine AAN _ (jd cs b.g hg hf.2) fun _=>?_
 rcases k2:b.kind==2 with _ | _
 ·simp only[go_sem,k2,ag]
 rcases h1:decide (b.gen≥0) with _ | _
 ·simp only[go_sem,k2,h1,ag,aK]
 simp only[go_sem,k2,h1]
 refine CW (jf b.c0 hf.1) fun _=>?_
 rcases h2:QJ b.c0 with _ | _
 ·simp only[go_sem,h2,ag,ah,aK]
 simp only[go_sem,h2,ah]
def DT (r:DRef) (id:Int):Bool:=decide (r.first≥0)&&(decide (id≥r.first)&&decide (IntKind.i64.wrap (id-r.first)<r.many))
noncomputable def QK (w:DWorld) (b:DBuf):Bool:=je w.c0.cols b&&b.c0.l.all fun s=>!decide (s.ins>w.t)
def QL (t m:Int):Bool:=Pm m && !decide (m>t)
noncomputable def o6 (w:DWorld) (r:DRef):List DRow:=if(r.kind==2&&there w r)=true then Ec w r else []
noncomputable def TZ (w:DWorld) (r:DRef):Bool:=there w r&&(!((r.kind==1)&&(r.many != w.c0.slots))&&(o6 w r).all fun x=>DT r x.id)
def Me (w:DWorld) (d:DDead):Bool:=match VA w d.buf with
 | none=>false
 | some b=>(b.gen==d.gen)&&Ad d.at0 0 w.e
def uH (w:DWorld) (i:Nat):Nat:=w.x.countP (fun d=>d.buf==(i:Int))+w.tasks.countP (fun t=>t.own==(i:Int)+1)
def RD (n:Int) (b:DBuf):Bool:=!(((b.kind==0)&&decide (n>0))||((b.kind != 0)&&(n != 1)))
def RF (l:List DRef) (i:Nat):Nat:=l.countP (fun r=>r.buf==(i:Int))
def RG (w:DWorld) (i:Nat) (b:DBuf):Bool:=RD ((RF w.d.l i+uH w i:Nat):Int) b
def deed1 (w:DWorld) (d:DDeed):Bool:=Ef d&&(!decide (d.inv≥w.time)&&(!decide (d.lin≥w.time) && !decide (d.ret≥w.time)))
def looks (t:DTask):Bool:=(t.op != 0)&&decide (t.pc≥1)
def l0 (t:DTask):DRef:=t.l.headD ⟨0,0,0,0,0⟩
def AGv (w:DWorld) (t:DTask) (d:DDeed):Bool:=fits w.c0.cols t.r&&(NU t.r d.r&&((!Ad t.pc 2 4 && !Ad t.pc 6 7)||(((t.l.length:Int)==1)&&(((l0 t).kind==1)&&((t.pc==2)||decide (t.i<(l0 t).many))))))
def zS (w:DWorld) (t:DTask) (d:DDeed):Bool:=(t.id==d.id)&&(!Ad t.pc 2 7||(((t.l.length:Int)==1)&&(DT (l0 t) t.id&&(decide (t.id<(w.m.length:Int))&&(!Ad t.pc 3 4||((l0 t).kind==1))))))
noncomputable def uI (w:DWorld) (t:DTask) (r:DRef):Bool:=if(r.kind==1)=true then decide (t.j<r.many)&&(decide (t.pc<6)||decide (IntKind.i64.wrap (r.first+t.j)<(w.m.length:Int))) else
 decide (t.pc≥6)&&(match (Ec w r)[t.j.toNat]? with
  | none=>false
  | some x=>decide (x.id<(w.m.length:Int)))
noncomputable def zT (w:DWorld) (t:DTask) (d:DDeed):Bool:=Ah w.c0.cols t.q&&(Xf t.q d.q&&(!decide (t.ts>w.t)&&(!Ad t.pc 3 8||(!decide (t.i>(t.l.length:Int))&&((t.pc==3)||(match t.l[t.i.toNat]? with
 | none=>false
 | some r=>uI w t r))))))
def ADA (t:DTask):Bool:=!Ad t.pc 2 5||Ad (t.l.length:Int) 1 2
noncomputable def swB (w:DWorld) (t:DTask) (d:DDeed):Bool:=if(t.op==1)=true then AGv w t d else if(t.op==2)=true then zS w t d else if(t.op==3)=true then zT w t d else ADA t
def Xk (w:DWorld) (t:DTask) (kind:Int):Bool:=Ad t.own 1 w.b.length&&(match w.b[(t.own-1).toNat]? with
 | none=>false
 | some b=>b.kind==kind)
def jg (w:DWorld) (t:DTask):Int:=match w.b[(t.own-1).toNat]? with
 | none=>0
 | some b=>b.c0.l.length
def ownB (w:DWorld) (t:DTask):Bool:=if((t.op==1)&&(t.pc==8))=true then Xk w t 1&&(jg w t==w.c0.slots) else if((t.op==4)&&Ad t.pc 4 5)=true then Xk w t 2 else t.own==0
def jh (k:Int) (t:DTask) (d:DDeed):Bool:=(d.task==k)&&((d.op==t.op)&&(d.ret == -1))
noncomputable def zU (w:DWorld) (k:Int) (t:DTask):Bool:=match w.deeds[t.h.toNat]? with
 | none=>false
 | some d=>jh k t d&&(t.l.all (there w)&&(ownB w t&&swB w t d))
noncomputable def Rn (w:DWorld) (k:Int) (t:DTask) (p:Int):Bool:=JX t k&&(((p != -1)==looks t)&&((t.op==0)||zU w k t))
noncomputable def o7 (w:DWorld):Bool:=((w.b.length:Int)==w.c0.bufs)&&w.b.all (QK w)
def Tc (w:DWorld):Bool:=w.m.all (QL w.t)&&((w.m.length:Int)==endOf w.d)
noncomputable def ji (w:DWorld):Bool:=w.d.l.all (TZ w)
def jk (w:DWorld):Bool:=w.x.all (Me w)
noncomputable def Td {α:Type} (l:List α) (p:Nat→α→Bool):Bool:=@decide (∀ k (h:k<l.length),p k l[k]=true) (Classical.propDecidable _)
theorem Jk {α:Type} {l:List α} {p:Nat→α→Bool} {k:Nat} (h:k<l.length) (hp:p k l[k]=false):Td l p=false:=by
 simp only[Td,aaD]
 grind
def zV {α:Type} (l:List α) (p:Nat→α→Bool) (n:Nat):Prop:=n≤l.length∧∀ k (h:k<l.length),k<n→p k l[k]=true
theorem uJ {α:Type} {l:List α} {p:Nat→α→Bool}:zV l p 0:=⟨au _,fun _ _ h=>AQ2⟩
theorem PU {α:Type} {l:List α} {p:Nat→α→Bool} {k:Nat} (hk:k<l.length) (h:zV l p k) (hc:p k l[k]=true):zV l p (k+1):=⟨hk,fun i h2 h3=>by
 by_cases e:i=k
 ·grind
 ·exact h.2 i h2 AQ2⟩
theorem UX {α:Type} {l:List α} {p:Nat→α→Bool} (h:zV l p l.length):Td l p=true:=by
 simp only[Td,bC]
 exact fun k hk=>h.2 k hk hk
theorem Yf {α:Type} {l:List α} {p:Nat→α→Bool}:Td l p=true↔∀ k (h:k<l.length),p k l[k]=true:=by
 simp only[Td,bC]
noncomputable def uK (w:DWorld):Bool:=Td w.tasks fun k t=>Rn w k t (w.p[k]?.getD 0)
def Yg (w:DWorld):Bool:=w.deeds.all (deed1 w)
noncomputable def Xl (w:DWorld):Bool:=Td w.b (RG w)
def headB (w:DWorld):Bool:=Oq w.c0&&(Ad w.time 0 1000000&&(Ad w.t 1 1000000&&Ad w.e 0 1000000))
noncomputable def D_ (w:DWorld):Bool:=headB w&&(NZ w.d&&(!decide (w.d.ver>1000000)&&(o7 w&&(Tc w&&(ji w&&(jk w&&(((w.tasks.length:Int)==5)&&(((w.p.length:Int)==5)&&(Pn w.p w.e&&(uK w&&(Yg w&&Xl w)))))))))))
theorem jl (n:Nat):∀ (l:List DRef) (e:Int) (seen:List DRef),J5 e seen l=true→(Ew seen n=true→RF l n=0)∧RF l n≤1
 | [],_,_,_=>⟨fun _=>rfl,au _⟩
 | r::l,e,seen,h=>by
  rw[J5] at h
  simp only[az,abl] at h
  obtain⟨_,_,h3,h4⟩:=h
  obtain⟨g1,g2⟩:=jl n l _ _ h4
  have ha:Ew (seen ++ [r]) n=(Ew seen n||(r.buf==(n:Int))):=by simp[Ew]
  rw[ha] at g1
  unfold RF at g1 g2 ⊢
  grind
theorem AIc (l:List DRef) (n:Nat):(0<RF l n)↔Ew l n=true:=by
 unfold RF Ew
 simp_all
theorem AEm {d:DDir} (h:NZ d=true) (n:Nat):RF d.l n=if Ew d.l n=true then 1 else 0:=by
 simp only[NZ,az] at h
 have h1:=(jl n _ _ _ h.2.2).2
 grind [AIc]
theorem jm:∀ (l:List DRef) (e:Int) (seen:List DRef),J5 e seen l=true→0≤e→e+l.length*1000000000≤9000000000000→∀ r∈l,Eg r=true∧0≤r.first∧r.first≤9000000000000
 | [],_,_,_,_,_=>AQ3
 | r::l,e,seen,h,h0,hb=>by
  rw[J5] at h
  simp only[az,nz] at h
  obtain⟨h1,h2,h3,h4⟩:=h
  have hm:1≤r.many∧r.many≤1000000000:=by
   simp only[Eg,Ad,az,bC] at h1
   exact h1.2.2.2
  have hl:((r::l).length:Int)=l.length+1:=AQ3
  rw[hl] at hb
  have hw:IntKind.i64.wrap (e+r.many)=e+r.many:=wrap_i64 AQ2 AQ2
  rw[hw] at h4
  intro x hx
  rcases Rx.1 hx with rfl | hx
  ·grind
  ·exact jm l _ _ h4 AQ2 AQ2 x hx
theorem AEn {d:DDir} (h:NZ d=true) {r:DRef} (hr:r∈d.l):Eg r=true∧0≤r.first∧r.first≤9000000000000:=by
 simp only[NZ,az,abl,aaD] at h
 grind [jm]
def Vr (w:DWorld) (i:Nat) (b:DBuf):Bool:=RD (((if Ew w.d.l i=true then 1 else 0)+uH w i:Nat):Int) b
theorem zW {w:DWorld} (h:NZ w.d=true) (i:Nat) (b:DBuf):Vr w i b=RG w i b:=by
 unfold Vr RG
 rw[AEm h]
theorem AEo {r:DRef} (h:Eg r=true) (h0:0≤r.first) (h1:r.first≤9000000000000) (id:Int) (hid : -9223372036854775808≤id∧id≤9223372036854775807):DT r id=Ad id r.first (IntKind.i64.wrap (IntKind.i64.wrap (r.first+r.many)-1)):=by
 have hm:1≤r.many∧r.many≤1000000000:=by
  simp only[Eg,Ad,az,bC] at h
  exact h.2.2.2
 rw[wrap_i64 (n:=r.first+r.many) AQ2 AQ2,wrap_i64 (n:=r.first+r.many-1) AQ2 AQ2]
 unfold DT Ad
 grind [wrap_i64]
theorem AMl (n:Int):(!Ad n 2 4 && !Ad n 6 7)=(!Ad n 2 7||(n==5)):=by
 unfold Ad
 grind
theorem AKh (n:Int) (h:Ad n 2 7=true) (b:Bool):(!Ad n 3 4||b)=(decide (n>4)||((n==2)||b)):=by
 simp only[Ad,az,bC] at h
 have h:n=2∨n=3∨n=4∨n=5∨n=6∨n=7:=AQ2
 rcases h with h | h | h | h | h | h<;>subst h<;>cases b<;>rfl
theorem Hw (r:DRef) (id:Int):Ctr prog 245 [.agg r.c,.c (.v (.int .i64 (id)))] [.val (.c (.v (.bool (DT r id))))]:=by
 refine CM call245 func245 ntmps245 results245 fun hw=>?_
 rcases h1:decide (r.first≥0) with _ | _
 ·simp only[go_sem,h1,DT,ag]
 rcases h2:decide (id≥r.first) with _ | _
 ·simp only[go_sem,h1,h2,DT,ag,ah]
 simp only[go_sem,h1,h2,DT,ah]
theorem QM {w:DWorld} (hf:AZ w) {k:Nat} (hk:k<w.b.length):KL w.b[k]:=by
 rw[Ai] at hf
 exact hf.2.2.1.2 _ (aj hk)
theorem Xm {w:DWorld} (hf:AZ w):w.tasks.length≤1048576:=by
 rw[Ai] at hf
 exact hf.2.2.2.2.2.2.1.1
theorem zX {w:DWorld} (hf:AZ w):w.b.length≤1048576:=by
 rw[Ai] at hf
 exact hf.2.2.1.1
theorem AMm {w:DWorld} (hf:AZ w) {k:Nat} (hk:k<w.b.length):w.b[k].c0.l.length≤1048576:=by
 have:=QM hf hk
 rw[JL,DY] at this
 exact this.1.1
theorem AMn {w:DWorld} (hf:AZ w):w.m.length≤1048576:=by
 rw[Ai] at hf
 exact hf.2.2.2.1
theorem AKi {w:DWorld} (hf:AZ w):w.x.length≤1048576:=by
 rw[Ai] at hf
 exact hf.2.2.2.2.1
theorem AId {w:DWorld} (hf:AZ w):w.p.length≤1048576:=by
 rw[Ai] at hf
 exact hf.2.2.2.2.2.1
theorem lenD {w:DWorld} (hf:AZ w):w.d.l.length≤1048576:=by
 rw[Ai,LM] at hf
 exact hf.2.1
theorem ADB {w:DWorld} (hf:AZ w):w.deeds.length≤1048576:=by
 rw[Ai] at hf
 exact hf.2.2.2.2.2.2.2.1
theorem jo (w:DWorld) (hf:AZ w):Ctr prog 127 [.agg w.c] [.val (.c (.v (.bool (o7 w))))]:=by
 refine CM call127 func127 ntmps127 results127 fun hw=>?_
 have hb:=zX hf
 unfold o7
 rcases h0:((w.b.length:Int)==w.c0.bufs) with _ | _
 ·exact APu
 have g0:((w.b.length:Int) != w.c0.bufs)=false:=by simp only[bne,h0,aO]
 simp only[go_sem,g0,ah]
 refine AAT 1 (A:=Nat) (fun x=>[(17,.c (.v (.int .i64 (x))))]) (fun _=>[⟨46,14,[w.c],true,true⟩]) (Gp w.b (QK w)) (fun x=>w.b.length-x) 0 ⟨⟨rfl,rfl⟩,rfl,EL⟩ ?_
 intro k hk
 refine AQx (fun h=>?_) fun h=>?_
 ·have hk':k<w.b.length:=by simpa using h
  simp only[go_sem,AA _ hk',hk']
  refine CW (zQ w.c0.cols w.b[k] (QM hf hk') (UW hw.1 hk')) fun _=>?_
  rcases h1:je w.c0.cols w.b[k] with _ | _
  ·simp only[go_sem,h1,BP (p:=QK w) hk' (by simp only[QK,h1,ag])]
  simp only[go_sem,h1]
  have hs:=AMm hf hk'
  refine AAT 2 (A:=Nat) (fun x=>[(31,.c (.v (.int .i64 (x))))]) (fun _=>[⟨46,14,[w.c],true,true⟩,⟨170,5,[w.b[k].c],true,true⟩]) (Gp w.b[k].c0.l fun s=>!decide (s.ins>w.t)) (fun x=>w.b[k].c0.l.length-x) 0 ⟨⟨rfl,rfl⟩,rfl,EL⟩ ?_
  intro j hj
  refine AQx (fun h=>?_) fun h=>?_
  ·have hj':j<w.b[k].c0.l.length:=by simpa using h
   rcases h2:decide (w.b[k].c0.l[j].ins>w.t) with _ | _
   ·simp only[go_sem,AA _ hj',hj',h2,wrap_i64 (n:=(j:Int)+1) AQ2 AQ2]
    exact⟨j+1,⟨rfl,rfl⟩,rfl,Bv hj' hj (by simp only[h2,aH]),AQ2⟩
   ·have hno:=BP (p:=fun s:DSlot=>!decide (s.ins>w.t)) hj' (by simp only[h2,aO])
    simp only[go_sem,AA _ hj',hj',h2,BP (p:=QK w) hk' (by simp only[QK,hno,aK])]
  ·have hj':j=w.b[k].c0.l.length:=by have:=hj.1; simp at h; omega
   subst hj'
   have hyes:=DR hj
   simp only[go_sem,wrap_i64 (n:=(k:Int)+1) AQ2 AQ2]
   exact⟨k+1,⟨rfl,rfl⟩,rfl,Bv hk' hk (by simp only[QK,h1,hyes,aF]),AQ2⟩
 ·have hk':k=w.b.length:=by have:=hk.1; simp at h; omega
  subst hk'
  simp only[go_sem,DR hk]
theorem Zi (w:DWorld) (hf:AZ w):Ctr prog 128 [.agg w.c] [.val (.c (.v (.bool (Tc w))))]:=by
 refine CM call128 func128 ntmps128 results128 fun hw=>?_
 have hb:=AMn hf
 unfold Tc
 simp only[go_sem]
 refine AAT 1 (A:=Nat) (fun x=>[(8,.c (.v (.int .i64 (x))))]) (fun _=>[⟨46,14,[w.c],true,true⟩]) (Gp w.m (QL w.t)) (fun x=>w.m.length-x) 0 ⟨⟨rfl,rfl⟩,rfl,EL⟩ ?_
 intro k hk
 refine AQx (fun h=>?_) fun h=>?_
 ·have hk':k<w.m.length:=by simpa using h
  simp only[go_sem,AA _ hk',hk']
  refine AAN _ (Xb w.m[k]) fun _=>?_
  rcases h1:Pm w.m[k] with _ | _
  ·simp only[go_sem,h1,BP (p:=QL w.t) hk' (by simp only[QL,h1,ag]),ag]
  rcases h2:decide (w.m[k]>w.t) with _ | _
  ·simp only[go_sem,h1,h2,wrap_i64 (n:=(k:Int)+1) AQ2 AQ2]
   exact AQd
  ·simp only[go_sem,h1,h2,BP (p:=QL w.t) hk' (by simp only[QL,h1,h2]; rfl),ag]
 ·have hk':k=w.m.length:=by have:=hk.1; simp at h; omega
  subst hk'
  simp only[go_sem,DR hk,ah]
  try refine AAO ?_
  try simp only[go_sem]
  first | refine CY (Za w.d (lenD hf)) ?_ | refine CW (Za w.d (lenD hf)) fun _=>?_
  exact AIu
theorem Zj (w:DWorld) (hf:AZ w):Ctr prog 114 [.agg w.c] [.val (.c (.v (.bool (Tc w))))]:=by
 refine CM call114 func114 ntmps114 results114 fun hw=>?_
 have hb:=AMn hf
 unfold Tc
 simp only[go_sem]
 refine AAT 1 (A:=Nat) (fun x=>[(3,.c (.v (.int .i64 (x))))]) (fun _=>[⟨46,14,[w.c],true,true⟩]) (Gp w.m (QL w.t)) (fun x=>w.m.length-x) 0 ⟨⟨rfl,rfl⟩,rfl,EL⟩ ?_
 intro k hk
 refine AQx (fun h=>?_) fun h=>?_
 ·have hk':k<w.m.length:=by simpa using h
  simp only[go_sem,AA _ hk',hk']
  try refine AAO ?_
  try simp only[go_sem,AA _ hk',hk']
  first | refine AAS _ (Q3 w.m[k]) ?_ | refine AAN _ (Q3 w.m[k]) fun _=>?_
  rcases h1:Pm w.m[k] with _ | _
  ·simp only[go_sem,h1,BP (p:=QL w.t) hk' (by simp only[QL,h1,ag]),ag]
  rcases h2:decide (w.m[k]>w.t) with _ | _
  ·simp only[go_sem,AA _ hk',hk',h1,h2,wrap_i64 (n:=(k:Int)+1) AQ2 AQ2]
   exact AQd
  ·simp only[go_sem,AA _ hk',hk',h1,h2,BP (p:=QL w.t) hk' (by simp only[QL,h1,h2]; rfl),ag]
 ·have hk':k=w.m.length:=by have:=hk.1; simp at h; omega
  subst hk'
  simp only[go_sem,DR hk,ah]
  try refine AAO ?_
  try simp only[go_sem]
  first | refine CY (Zb w.d (lenD hf)) ?_ | refine CW (Zb w.d (lenD hf)) fun _=>?_
  exact AIu
theorem zY {w:DWorld} {n:Int} {k:Nat} (h:n=k) (hk:k<w.b.length):VA w n=some w.b[k]:=by
 subst h
 simp[VA,hk]
theorem jq (w:DWorld) (hf:AZ w):Ctr prog 130 [.agg w.c] [.val (.c (.v (.bool (jk w))))]:=by
 refine CM call130 func130 ntmps130 results130 fun hw=>?_
 have hb:=AKi hf
 have hlb:=zX hf
 unfold jk
 simp only[go_sem]
 refine AAT 1 (A:=Nat) (fun x=>[(8,.c (.v (.int .i64 (x))))]) (fun _=>[⟨46,14,[w.c],true,true⟩]) (Gp w.x (Me w)) (fun x=>w.x.length-x) 0 ⟨⟨rfl,rfl⟩,rfl,EL⟩ ?_
 intro k hk
 refine AQx (fun h=>?_) fun h=>?_
 ·have hk':k<w.x.length:=by simpa using h
  simp only[go_sem,AA _ hk',hk']
  refine AAO ?_
  rcases Eb w w.x[k].buf with ⟨m,hm,hbm,hat⟩ | ⟨hbm,hat⟩
  ·have e1:decide ((m:Int)<0)=false:=by simp
   have e2:decide ((m:Int)≥w.b.length)=false:=AQ5
   rcases h1:w.b[m].gen==w.x[k].gen with _ | _
   ·have g1:(w.b[m].gen != w.x[k].gen)=true:=by simp[bne,h1]
    simp only[go_sem,AA _ hk',hk',hbm,e1,e2,AA _ hm,hm,g1,BP (p:=Me w) hk' (by simp only[Me,hat,h1,ag])]
   have g1:(w.b[m].gen != w.x[k].gen)=false:=ASf
   simp only[go_sem,AA _ hk',hk',hbm,e1,e2,AA _ hm,hm,g1]
   refine AAS _ (AL w.x[k].at0 0 w.e) ?_
   rcases h2:Ad w.x[k].at0 0 w.e with _ | _
   ·simp only[go_sem,h2,BP (p:=Me w) hk' (by simp only[Me,hat,h1,h2,aK])]
   ·simp only[go_sem,h2,wrap_i64 (n:=(k:Int)+1) AQ2 AQ2]
    exact⟨k+1,⟨rfl,rfl⟩,rfl,Bv hk' hk (by simp only[Me,hat,h1,h2,aF]),AQ2⟩
  ·have hno:=BP (p:=Me w) hk' (by simp only[Me,hat])
   rcases h0:decide (w.x[k].buf<0) with _ | _
   ·have e2:decide (w.x[k].buf≥(w.b.length:Int))=true:=by simp at h0 ⊢; omega
    simp only[go_sem,AA _ hk',hk',h0,e2,hno]
   ·simp only[go_sem,AA _ hk',hk',h0,hno]
 ·have hk':k=w.x.length:=by have:=hk.1; simp at h; omega
  subst hk'
  simp only[go_sem,DR hk]
@[go_sem] theorem ALZ {n:Nat} {d:Departure}:Region.binds .any ⟨n,.textOnly d⟩=false:=rfl
@[go_sem] theorem AFt {n:Nat} {d:Departure}:Region.binds .any ⟨n,.gcOnly d⟩=false:=rfl
theorem uM {w:DWorld} (hf:AZ w):w.d.l.length≤1048576:=by
 rw[Ai] at hf
 have:=hf.2.1
 rw[LM] at this
 exact this
theorem Tf {cs b:List Int} {l:List DRow} (h:CQ cs b=some l):Dq cs l=true:=by
 unfold CQ at h
 split at h
 ·cases h
 ·split at h
  ·split at h
   ·cases h
   ·split at h
    ·rename_i h2
     cases h
     exact h2.2
    ·cases h
  ·cases h
theorem d_ (w:DWorld) (r:DRef):(Ec w r).length≤12:=by
 unfold Ec
 split
 ·simp
 ·rename_i b hb
  rcases h:CQ w.c0.cols b.g with _ | l
  ·simp
  ·simp only[ak]
   exact(Uf (Tf h)).2.1
end Go.Proofs.YthmifbbmgnhddaaGreat
