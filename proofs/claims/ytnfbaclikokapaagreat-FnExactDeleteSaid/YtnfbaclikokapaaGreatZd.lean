/- A part. -/
import Derived.Test.YtnfbaclikokapaaGreatAf
import Derived.Test.YtnfbaclikokapaaGreatDk
import Derived.Test.YtnfbaclikokapaaGreatZc
import Derived.Test.YtnfbaclikokapaaGreatAc
set_option linter.unusedSimpArgs false
set_option linter.unusedVariables false
set_option maxHeartbeats 4000000
set_option maxRecDepth 10000
open Go.Proofs.Tryz
namespace Go.Proofs.YtnfbaclikokapaaGreat
open Go.Vm
def L6 (cs:List Int) (p:DPred):Bool:=EQ cs&&(H_ cs 4 p&&decide ((Bi 4 p:Int)≤8))
theorem kP (cs:List Int) (p:DPred) (hc:cs.length≤1048576) (hp:Aq p):Ctr prog 205 [.c (.sl (cs.map intC)),.agg p.c] [.val (.c (.v (.bool (L6 cs p))))]:=by
 refine CM call205 func205 ntmps205 results205 fun hw=>?_
 simp only[go_sem,ae]
 refine CallK.mk _ (OL cs) fun _=>?_
 rcases h1:EQ cs with _ | _
 ·simp only[go_sem,L6,h1,ag]
 simp only[go_sem,h1]
 refine CW (RV cs hc 4 1 p (by decide) (by decide) hp) fun _=>?_
 rcases h2:H_ cs 4 p with _ | _
 ·simp only[go_sem,L6,h1,h2,ag,aH]
 simp only[go_sem,h1,h2]
 refine CW (PD cs 4 p (by decide) hp h2) fun _=>?_
 simp only[go_sem,L6,h1,h2,ai]
theorem kQ (cs:List Int) (p:DPred) (hc:cs.length≤1048576) (hp:Aq p):Ctr prog 206 [.c (.sl (cs.map intC)),.agg p.c] [.val (.c (.v (.bool (L6 cs p))))]:=by
 refine CM call206 func206 ntmps206 results206 fun hw=>?_
 simp only[go_sem,ae]
 refine CallK.mk _ (OM cs) fun _=>?_
 rcases h1:EQ cs with _ | _
 ·simp only[go_sem,L6,h1,ag]
 simp only[go_sem,h1]
 refine CallK.mk _ (by have:=VW cs hc 4 p (by decide) hp; rw[show ((4:Nat):Int)=4 from rfl] at this; simpa only[go_sem] using this) fun _=>?_
 simp only[go_sem,h1]
 refine CallK.mk _ (AC _ _ _) fun _=>?_
 have:Ac (DD cs 4 p) 1 8=L6 cs p:=by
  unfold L6 DD
  rw[h1]
  rcases h2:H_ cs 4 p with _ | _
  ·rfl
  ·have:1≤Bi 4 p:=AAH 3 p
   simp[Ac]
   omega
 simp only[go_sem,this]
def ADK (q:DQuery):List Cl:=[.v (.int .i64 q.kind),.v (.int .i64 q.p.kind),.v (.int .i64 q.p.col),.v (.int .i64 q.p.op),.v (.int .i64 q.p.v.ty),.v (.int .i64 q.p.v.n),.v (.string q.p.v.s),.sl (q.p.l.map DPred.c),.v (.int .i64 q.col),.sl (q.out.map intC)]
@[go_sem] theorem AHo (q:DQuery):ADK q = [.v (.int .i64 q.kind),.v (.int .i64 q.p.kind),.v (.int .i64 q.p.col),.v (.int .i64 q.p.op),.v (.int .i64 q.p.v.ty),.v (.int .i64 q.p.v.n),.v (.string q.p.v.s),.sl (q.p.l.map DPred.c),.v (.int .i64 q.col),.sl (q.out.map intC)]:=rfl
def KJ (cs:List Int) (l:List Int):Bool:=l.all fun k=>Ac k 0 ((cs.length:Int)-1)
def BX (cs:List Int) (q:DQuery):Bool:=
 L6 cs q.p&&(if(q.kind==1)=true then KJ cs q.out&&((q.col==0)&&Ac q.out.length 1 3) else
  if(q.kind==2)=true then(q.col==0)&&((q.out.length:Int)==0) else
  if(q.kind==3)=true then Ac q.col 0 ((cs.length:Int)-1)&&(((cs[q.col.toNat]?).getD 0==1)&&((q.out.length:Int)==0)) else
  if(q.kind==4)=true then Ac q.col 0 ((cs.length:Int)-1)&&((q.out.length:Int)==0) else
  if(q.kind==5)=true then Ac q.col 0 ((cs.length:Int)-1)&&((q.out.length:Int)==0) else false)
theorem SK (cs:List Int) (l:List Int) {k:Nat} (h:k<l.length):KJ cs (l.drop k)=(Ac l[k] 0 ((cs.length:Int)-1)&&KJ cs (l.drop (k+1))):=by
 unfold KJ
 rw[aG h]; rfl
theorem RP (cs:List Int) (q:DQuery) (hc:cs.length≤1048576) (hq:Dv q):Ctr prog 143 [.c (.sl (cs.map intC)),.agg q.c] [.val (.c (.v (.bool (BX cs q))))]:=by
 rw[Ey] at hq
 have hol:=hq.2
 have hwl:IntKind.i64.wrap ((cs.length:Int)-1)=(cs.length:Int)-1:=wrap_i64 (by omega) (by omega)
 have hin:Ac q.col 0 ((cs.length:Int)-1)=true→∃ m:Nat,q.col=m∧m<cs.length:=by
  intro hh
  simp[Ac] at hh
  exact⟨q.col.toNat,by omega,by omega⟩
 refine CM call143 func143 ntmps143 results143 fun hw=>?_
 simp only[go_sem,ae]
 refine CW (kP cs q.p hc hq.1) fun _=>?_
 rcases h1:L6 cs q.p with _ | _
 ·simp only[go_sem,BX,h1,ag]
 rcases k1:(q.kind==1) with _ | _
 rotate_left
 ·have hr:BX cs q=(KJ cs q.out&&((q.col==0)&&Ac q.out.length 1 3)):=by simp[BX,h1,k1]
  rw[hr]
  simp only[go_sem,ae,h1,k1]
  refine LoopU.mk 1 (A:=Nat) (fun k=>[(5,.c (.v (.int .i64 (k))))]) (fun _=>[⟨73,10,[ADK q],true,true⟩]) (fun k=>k≤q.out.length∧KJ cs (q.out.drop k)=KJ cs q.out) (fun k=>q.out.length-k) 0 ⟨⟨rfl,rfl⟩,rfl,ax _,rfl⟩ ?_
  rintro k ⟨hk,hb⟩
  simp only[go_sem,ae]
  refine cndC.mk (fun h=>?_) (fun h=>?_)
  ·have hk':k<q.out.length:=by simpa using h
   rw[SK cs q.out hk'] at hb
   simp only[go_sem,ae,AA _ hk',hk',hwl]
   refine CallK.mk _ (AL q.out[k] 0 _) fun _=>?_
   rcases hv:Ac q.out[k] 0 ((cs.length:Int)-1) with _ | _
   ·rw[hv,ag] at hb
    simp only[go_sem,ae,hv,← hb,ag]
   ·rw[hv,ai] at hb
    simp only[go_sem,ae,hv,wrap_i64 (n:=(k:Int)+1) (by omega) (by omega)]
    exact⟨k+1,⟨rfl,rfl⟩,rfl,⟨by omega,hb⟩,by omega⟩
  ·have hk':k=q.out.length:=by simp at h; omega
   rw[hk',aU] at hb
   have hb':KJ cs q.out=true:=by rw[← hb]; rfl
   rw[hb',ai]
   rcases hA:(q.col==0) with _ | _
   ·simp only[go_sem,ae,hA,ag]
   ·simp only[go_sem,ae,hA,ai]
    refine CallK.mk _ (AL q.out.length 1 3) fun _=>?_
    simp only[go_sem,ae,hA,ai]
 rcases k2:(q.kind==2) with _ | _
 rotate_left
 ·have hr:BX cs q=((q.col==0)&&((q.out.length:Int)==0)):=by simp[BX,h1,k1,k2]
  rw[hr]
  rcases hA:(q.col==0) with _ | _
  ·simp only[go_sem,ae,h1,k1,k2,hA,ag]
  ·simp only[go_sem,ae,h1,k1,k2,hA,ai]
 rcases k3:(q.kind==3) with _ | _
 rotate_left
 ·have hr:BX cs q=(Ac q.col 0 ((cs.length:Int)-1)&&(((cs[q.col.toNat]?).getD 0==1)&&((q.out.length:Int)==0))):=by simp[BX,h1,k1,k2,k3]
  rw[hr]
  simp only[go_sem,ae,h1,k1,k2,k3,hwl]
  refine CallK.mk _ (AL q.col 0 _) fun _=>?_
  rcases c1:Ac q.col 0 ((cs.length:Int)-1) with _ | _
  ·simp only[go_sem,ae,c1,ag]
  obtain⟨m,hm,hml⟩:=hin c1
  have hgm:(cs[q.col.toNat]?).getD 0=cs[m]:=by rw[hm]; simp[hml]
  rw[hgm]
  rcases c2:(cs[m]==1) with _ | _
  ·simp only[go_sem,ae,c1,c2,hm,AA _ hml,hml,ai,ag]
  ·simp only[go_sem,ae,c1,c2,hm,AA _ hml,hml,ai]
 rcases k4:(q.kind==4) with _ | _
 rotate_left
 ·have hr:BX cs q=(Ac q.col 0 ((cs.length:Int)-1)&&((q.out.length:Int)==0)):=by simp[BX,h1,k1,k2,k3,k4]
  rw[hr]
  simp only[go_sem,ae,h1,k1,k2,k3,k4,hwl]
  refine CallK.mk _ (AL q.col 0 _) fun _=>?_
  rcases c1:Ac q.col 0 ((cs.length:Int)-1) with _ | _
  all_goals simp only[go_sem,ae,c1,ag,ai]
 rcases k5:(q.kind==5) with _ | _
 rotate_left
 ·have hr:BX cs q=(Ac q.col 0 ((cs.length:Int)-1)&&((q.out.length:Int)==0)):=by simp[BX,h1,k1,k2,k3,k4,k5]
  rw[hr]
  simp only[go_sem,ae,h1,k1,k2,k3,k4,k5,hwl]
  refine CallK.mk _ (AL q.col 0 _) fun _=>?_
  rcases c1:Ac q.col 0 ((cs.length:Int)-1) with _ | _
  all_goals simp only[go_sem,ae,c1,ag,ai]
 have hr:BX cs q=false:=by simp[BX,h1,k1,k2,k3,k4,k5]
 rw[hr]
 simp only[go_sem,ae,h1,k1,k2,k3,k4,k5]
theorem RQ (cs:List Int) (q:DQuery) (hc:cs.length≤1048576) (hq:Dv q):Ctr prog 145 [.c (.sl (cs.map intC)),.agg q.c] [.val (.c (.v (.bool (BX cs q))))]:=by
 rw[Ey] at hq
 have hol:=hq.2
 have hwl:IntKind.i64.wrap ((cs.length:Int)-1)=(cs.length:Int)-1:=wrap_i64 (by omega) (by omega)
 have hin:Ac q.col 0 ((cs.length:Int)-1)=true→∃ m:Nat,q.col=m∧m<cs.length:=by
  intro hh
  simp[Ac] at hh
  exact⟨q.col.toNat,by omega,by omega⟩
 refine CM call145 func145 ntmps145 results145 fun hw=>?_
 simp only[go_sem,ae]
 refine CW (kQ cs q.p hc hq.1) fun _=>?_
 rcases h1:L6 cs q.p with _ | _
 ·simp only[go_sem,BX,h1,ag]
 simp only[go_sem,ae,h1,hwl]
 refine CallK.mk _ (AC q.col 0 _) fun _=>?_
 rcases c1:Ac q.col 0 ((cs.length:Int)-1) with _ | _
 ·rcases k1:(q.kind==1) with _ | _
  rotate_left
  ·have hr:BX cs q=(KJ cs q.out&&((q.col==0)&&Ac q.out.length 1 3)):=by simp[BX,h1,k1]
   rw[hr]
   simp only[go_sem,ae,h1,c1,k1]
   refine LoopU.mk 1 (A:=Nat) (fun k=>[(32,.c (.v (.int .i64 (k))))]) (fun _=>[⟨73,10,[ADK q],true,true⟩]) (fun k=>k≤q.out.length∧KJ cs (q.out.drop k)=KJ cs q.out) (fun k=>q.out.length-k) 0 ⟨⟨rfl,rfl⟩,rfl,ax _,rfl⟩ ?_
   rintro k ⟨hk,hb⟩
   simp only[go_sem,ae]
   refine cndC.mk (fun h=>?_) (fun h=>?_)
   ·have hk':k<q.out.length:=by simpa using h
    rw[SK cs q.out hk'] at hb
    simp only[go_sem,ae,AA _ hk',hk',hwl]
    refine CallK.mk _ (AC q.out[k] 0 _) fun _=>?_
    rcases hv:Ac q.out[k] 0 ((cs.length:Int)-1) with _ | _
    ·rw[hv,ag] at hb
     simp only[go_sem,ae,hv,← hb,ag]
    ·rw[hv,ai] at hb
     simp only[go_sem,ae,hv,wrap_i64 (n:=(k:Int)+1) (by omega) (by omega)]
     exact⟨k+1,⟨rfl,rfl⟩,rfl,⟨by omega,hb⟩,by omega⟩
   ·have hk':k=q.out.length:=by simp at h; omega
    rw[hk',aU] at hb
    have hb':KJ cs q.out=true:=by rw[← hb]; rfl
    rw[hb',ai]
    simp only[go_sem,ae]
    refine CallK.mk _ (AC q.out.length 1 3) fun _=>?_
    rcases hA:Ac q.out.length 1 3 with _ | _
    ·simp only[go_sem,ae,hA,aH]
    ·simp only[go_sem,ae,hA,aS]
  rcases k2:(q.kind==2) with _ | _
  rotate_left
  ·have hr:BX cs q=((q.col==0)&&((q.out.length:Int)==0)):=by simp[BX,h1,k1,k2]
   rw[hr]
   rcases hA:(q.col==0) with _ | _
   ·simp only[go_sem,ae,h1,c1,k1,k2,hA,ag]
   ·simp only[go_sem,ae,h1,c1,k1,k2,hA,ai]
  have hr:BX cs q=false:=by simp[BX,h1,k1,k2,c1]
  rw[hr]
  rcases k3:(q.kind==3) with _ | _
  rotate_left
  ·simp only[go_sem,ae,h1,c1,k1,k2,k3]
  rcases k4:(q.kind==4) with _ | _
  rotate_left
  ·simp only[go_sem,ae,h1,c1,k1,k2,k3,k4]
  rcases k5:(q.kind==5) with _ | _
  rotate_left
  ·simp only[go_sem,ae,h1,c1,k1,k2,k3,k4,k5]
  simp only[go_sem,ae,h1,c1,k1,k2,k3,k4,k5]
 ·rcases k1:(q.kind==1) with _ | _
  rotate_left
  ·have hr:BX cs q=(KJ cs q.out&&((q.col==0)&&Ac q.out.length 1 3)):=by simp[BX,h1,k1]
   rw[hr]
   simp only[go_sem,ae,h1,c1,k1]
   refine LoopU.mk 1 (A:=Nat) (fun k=>[(32,.c (.v (.int .i64 (k))))]) (fun _=>[⟨73,10,[ADK q],true,true⟩]) (fun k=>k≤q.out.length∧KJ cs (q.out.drop k)=KJ cs q.out) (fun k=>q.out.length-k) 0 ⟨⟨rfl,rfl⟩,rfl,ax _,rfl⟩ ?_
   rintro k ⟨hk,hb⟩
   simp only[go_sem,ae]
   refine cndC.mk (fun h=>?_) (fun h=>?_)
   ·have hk':k<q.out.length:=by simpa using h
    rw[SK cs q.out hk'] at hb
    simp only[go_sem,ae,AA _ hk',hk',hwl]
    refine CallK.mk _ (AC q.out[k] 0 _) fun _=>?_
    rcases hv:Ac q.out[k] 0 ((cs.length:Int)-1) with _ | _
    ·rw[hv,ag] at hb
     simp only[go_sem,ae,hv,← hb,ag]
    ·rw[hv,ai] at hb
     simp only[go_sem,ae,hv,wrap_i64 (n:=(k:Int)+1) (by omega) (by omega)]
     exact⟨k+1,⟨rfl,rfl⟩,rfl,⟨by omega,hb⟩,by omega⟩
   ·have hk':k=q.out.length:=by simp at h; omega
    rw[hk',aU] at hb
    have hb':KJ cs q.out=true:=by rw[← hb]; rfl
    rw[hb',ai]
    simp only[go_sem,ae]
    refine CallK.mk _ (AC q.out.length 1 3) fun _=>?_
    rcases hA:Ac q.out.length 1 3 with _ | _
    ·simp only[go_sem,ae,hA,aH]
    ·simp only[go_sem,ae,hA,aS]
  rcases k2:(q.kind==2) with _ | _
  rotate_left
  ·have hr:BX cs q=((q.col==0)&&((q.out.length:Int)==0)):=by simp[BX,h1,k1,k2]
   rw[hr]
   rcases hA:(q.col==0) with _ | _
   ·simp only[go_sem,ae,h1,c1,k1,k2,hA,ag]
   ·simp only[go_sem,ae,h1,c1,k1,k2,hA,ai]
  rcases k3:(q.kind==3) with _ | _
  rotate_left
  ·obtain⟨m,hm,hml⟩:=hin c1
   have hgm:(cs[q.col.toNat]?).getD 0=cs[m]:=by rw[hm]; simp[hml]
   have hr:BX cs q=((cs[m]==1)&&((q.out.length:Int)==0)):=by simp only[BX,h1,k1,k2,k3,c1,hgm]; rfl
   rw[hr]
   rcases c2:((q.out.length:Int)==0) with _ | _
   ·simp only[go_sem,ae,h1,c1,c2,k1,k2,k3,aH]
   ·simp only[go_sem,ae,h1,c1,c2,k1,k2,k3,hm,AA _ hml,hml,aS]
  have hr2:(q.kind==4)=true∨(q.kind==5)=true→BX cs q=((q.out.length:Int)==0):=by
   intro h45
   rcases h45 with h45 | h45
   ·simp[BX,h1,k1,k2,k3,h45,c1]
   ·simp[BX,h1,k1,k2,k3,h45,c1]
  rcases k4:(q.kind==4) with _ | _
  rotate_left
  ·rw[hr2 (.inl k4)]
   simp only[go_sem,ae,h1,c1,k1,k2,k3,k4]
  rcases k5:(q.kind==5) with _ | _
  rotate_left
  ·rw[hr2 (.inr k5)]
   simp only[go_sem,ae,h1,c1,k1,k2,k3,k4,k5]
  have hr:BX cs q=false:=by simp[BX,h1,k1,k2,k3,k4,k5]
  rw[hr]
  simp only[go_sem,ae,h1,c1,k1,k2,k3,k4,k5]
theorem allA {N:Nat} {a:Ob} (ha:Az N a=true) : [a].all (Az N)=true:=by simp[ha]
theorem QF (l:List DRow) (hl:fitS IR l):Ctr prog 195 [.c (.sl (l.map DRow.c))] [.own 204 2 (l.map DRow.o) true]:=by
 refine CM call195 func195 ntmps195 results195 fun hw=>?_
 have hlen:=hl.1
 simp only[go_sem,ae]
 refine LoopH.mk [6] (A:=Nat×List DRow) (fun x=>[(9,.c (.v (.int .i64 (x.1)))),(3,.c (.ref 0))]) (fun x=>[⟨204,2,x.2.map DRow.o,true,true⟩]) (fun x=>x.1≤l.length∧x.2.length≤x.1∧x.2++l.drop x.1=l) (fun x=>l.length-x.1) (0,[]) (Head.sel [(0,false)] ⟨rfl,rfl,rfl,trivial⟩ rfl) ⟨ax _,aN _,rfl⟩ ?_
 rintro⟨k,out⟩ ⟨hk,hol,hb⟩
 dsimp only at hk hol hb
 simp only[go_sem,ae]
 refine cndC.mk (fun h=>?_) (fun h=>?_)
 ·have hk':k<l.length:=by simpa using h
  rw[aG hk'] at hb
  have hr:=hl.2 _ (aj hk')
  rw[NP] at hr
  have hrl:=hr.1
  have hol2:out.length+1≤2147483648:=by omega
  simp only[go_sem,ae,AA _ hk',hk',aJ]
  refine CW (Zb l[k] hrl) fun _=>?_
  simp only[go_sem,bK,dm,ae,AA _ hk',hk',hol2,MG,aC,aJ,wrap_i64 (n:=(k:Int)+1) (by omega) (by omega)]
  refine⟨(k+1,out ++ [l[k]]),Head.selAbs [(4,true),(2,false)] 1 0 ⟨rfl,rfl,I7 DRow.o_nr _ out rfl,AQ DVal.pure,trivial⟩ ⟨out.length,out.map DRow.o ++ [DRow.o l[k]],_,DRow.o l[k],_,⟨W_ 0,rfl,I5 DRow.o_nr _ out _ _,by simp,rfl⟩,
   ⟨rfl,rfl,rfl,rfl,rfl,rfl,CV _,by simp[D7],fun l hl=>by simp[D7] at hl; omega⟩,⟨rfl, ?tr⟩, ?eq⟩,⟨hk',by simp; omega,(bM _ _ _).trans hb⟩,by simp only; omega⟩
  case tr=>unfold A8; rw[BJ]; exact allA (AP (A7 _))
  case eq=>unfold A8; rw[BJ,Vp]; rfl
 ·have hk':k=l.length:=by simp at h; omega
  subst hk'
  rw[aU] at hb
  have:out=l:=by simpa using hb
  subst this
  simp only[go_sem,A7]
  try simp
theorem Y_ (l:List DRow) (hl:fitS IR l):Ctr prog 154 [.c (.sl (l.map DRow.c))] [.own 204 2 (l.map DRow.o) true]:=by
 refine CM call154 func154 ntmps154 results154 fun hw=>?_
 have hlen:=hl.1
 simp only[go_sem,ae]
 refine LoopH.mk [6] (A:=Nat×List DRow) (fun x=>[(4,.c (.v (.int .i64 (x.1)))),(3,.c (.ref 0))]) (fun x=>[⟨204,2,x.2.map DRow.o,true,true⟩]) (fun x=>x.1≤l.length∧x.2.length≤x.1∧x.2++l.drop x.1=l) (fun x=>l.length-x.1) (0,[]) (Head.sel [(0,false)] ⟨rfl,rfl,rfl,trivial⟩ rfl) ⟨ax _,aN _,rfl⟩ ?_
 rintro⟨k,out⟩ ⟨hk,hol,hb⟩
 dsimp only at hk hol hb
 simp only[go_sem,ae]
 refine cndC.mk (fun h=>?_) (fun h=>?_)
 ·have hk':k<l.length:=by simpa using h
  rw[aG hk'] at hb
  have hr:=hl.2 _ (aj hk')
  rw[NP] at hr
  have hrl:=hr.1
  have hol2:out.length+1≤2147483648:=by omega
  simp only[go_sem,ae,AA _ hk',hk',aJ]
  refine CW (lM l[k] hrl) fun _=>?_
  simp only[go_sem,bK,dm,ae,AA _ hk',hk',hol2,MG,aC,aJ,wrap_i64 (n:=(k:Int)+1) (by omega) (by omega)]
  refine⟨(k+1,out ++ [l[k]]),Head.selAbs [(4,true),(1,false)] 1 0 ⟨rfl,rfl,I7 DRow.o_nr _ out rfl,AQ DVal.pure,trivial⟩ ⟨out.length,out.map DRow.o ++ [DRow.o l[k]],_,DRow.o l[k],_,⟨W_ 0,rfl,I5 DRow.o_nr _ out _ _,by simp,rfl⟩,
   ⟨rfl,rfl,rfl,rfl,rfl,rfl,CV _,by simp[D7],fun l hl=>by simp[D7] at hl; omega⟩,⟨rfl, ?tr⟩, ?eq⟩,⟨hk',by simp; omega,(bM _ _ _).trans hb⟩,by simp only; omega⟩
  case tr=>unfold A8; rw[BJ]; exact allA (AP (A7 _))
  case eq=>unfold A8; rw[BJ,Vp]; rfl
 ·have hk':k=l.length:=by simp at h; omega
  subst hk'
  rw[aU] at hb
  have:out=l:=by simpa using hb
  subst this
  simp only[go_sem,A7]
  try simp
def IZ:Int→List DRef→List DRef→Bool
 | _,_,[]=>true
 | e,seen,r::l=>Dt r&&((r.first==e)&&(!D_ seen r.buf&&IZ (IntKind.i64.wrap (e+r.many)) (seen ++ [r]) l))
def KL (d:DDir):Bool:=!decide (d.ver<0)&&(!decide ((d.l.length:Int)>8)&&IZ 0 [] d.l)
def Ns (l:List DRef) (k:Nat):Int:=(l.take k).foldl (fun e r=>IntKind.i64.wrap (e+r.many)) 0
theorem WL (l:List DRef) (e:Int) {k:Nat} (h:k<l.length):IZ e (l.take k) (l.drop k)=(Dt l[k]&&((l[k].first==e)&&(!D_ (l.take k) l[k].buf&&IZ (IntKind.i64.wrap (e+l[k].many)) (l.take (k+1)) (l.drop (k+1))))):=by
 rw[aG h,IZ,List.take_add_one,aA h]
 rfl
theorem Oj (l:List DRef) {k:Nat} (h:k<l.length):Ns l (k+1)=IntKind.i64.wrap (Ns l k+l[k].many):=by
 unfold Ns
 rw[List.take_add_one,aA h,List.foldl_append]
 rfl
theorem AII (l:List DRef):((l.map DRef.c).all fun r=>r.length==5)=true:=aF.2 fun r hr=>by
 obtain⟨x,_,rfl⟩:=WY.1 hr
 rfl
theorem WM (d:DDir) (hl:d.l.length≤1048576):Ctr prog 107 [.agg d.c] [.val (.c (.v (.bool (KL d))))]:=by
 refine CM call107 func107 ntmps107 results107 fun hw=>?_
 unfold KL
 rcases h1:decide (d.ver<0) with _ | _
 rotate_left
 ·simp only[go_sem,h1,aQ,ag]
 rcases h2:decide ((d.l.length:Int)>8) with _ | _
 rotate_left
 ·simp only[go_sem,h1,h2,aQ,aO,ai,ag]
 simp only[go_sem,h1,h2,aO,ai]
 refine LoopU.mk 1 (A:=Nat) (fun x=>[(18,.c (.v (.int .i64 (x)))),(3,.c (.v (.int .i64 (Ns d.l x))))]) (fun _=>[⟨38,2,[d.c],true,true⟩]) (fun x=>x≤d.l.length∧IZ (Ns d.l x) (d.l.take x) (d.l.drop x)=IZ 0 [] d.l) (fun x=>d.l.length-x) 0 ⟨⟨rfl,rfl⟩,rfl,ax _,rfl⟩ ?_
 rintro k ⟨hk,hb⟩
 simp only[go_sem]
 refine cndC.mk (fun h=>?_) (fun h=>?_)
 ·have hk':k<d.l.length:=by simpa using h
  rw[WL _ _ hk',← Oj _ hk'] at hb
  simp only[go_sem,AA _ hk',hk']
  refine DrawK.mk ?_
  simp only[go_sem,AA _ hk',hk']
  refine CY (QC d.l[k]) ?_
  rcases h3:Dt d.l[k] with _ | _
  ·rw[h3,ag] at hb
   simp only[go_sem,h3,← hb]
  rcases h4:d.l[k].first==Ns d.l k with _ | _
  ·have g4:(d.l[k].first != Ns d.l k)=true:=by simp[bne,h4]
   rw[h3,h4,ag,aH] at hb
   simp only[go_sem,h3,g4,← hb]
  have g4:(d.l[k].first != Ns d.l k)=false:=by simp[bne,h4]
  have hmt:List.take k (d.l.map DRef.c)=(d.l.take k).map DRef.c:=(bV ..).symm
  simp only[go_sem,AA _ hk',hk',h3,g4,hmt,hk,AII,ax,aa9,and_self,bD]
  refine CY (kN ⟨0,d.l.take k⟩ d.l[k].buf (by simp; omega)) ?_
  rcases h5:D_ (d.l.take k) d.l[k].buf with _ | _
  ·rw[h3,h4,h5,ai,ai,aO,ai] at hb
   simp only[go_sem,AA _ hk',hk',h3,g4,h5,← Oj _ hk',wrap_i64 (n:=(k:Int)+1) (by omega) (by omega)]
   exact⟨k+1,⟨rfl,rfl⟩,rfl,⟨hk',hb⟩,by omega⟩
  ·rw[h5,aQ,ag,aH,aH] at hb
   simp only[go_sem,AA _ hk',hk',h3,g4,h5,← hb]
 ·have hk':k=d.l.length:=by simp at h; omega
  subst hk'
  rw[aU] at hb
  simp only[go_sem,← hb,IZ]
theorem WN (d:DDir) (hl:d.l.length≤1048576):Ctr prog 90 [.agg d.c] [.val (.c (.v (.bool (KL d))))]:=by
 refine CM call90 func90 ntmps90 results90 fun hw=>?_
 unfold KL
 rcases h2:decide ((d.l.length:Int)>8) with _ | _
 rotate_left
 ·simp only[go_sem,h2,aQ,ag,aH]
 simp only[go_sem,h2,aO,ai]
 refine LoopU.mk 1 (A:=Nat) (fun x=>[(4,.c (.v (.int .i64 (x)))),(3,.c (.v (.int .i64 (Ns d.l x))))]) (fun _=>[⟨38,2,[d.c],true,true⟩]) (fun x=>x≤d.l.length∧IZ (Ns d.l x) (d.l.take x) (d.l.drop x)=IZ 0 [] d.l) (fun x=>d.l.length-x) 0 ⟨⟨rfl,rfl⟩,rfl,ax _,rfl⟩ ?_
 rintro k ⟨hk,hb⟩
 simp only[go_sem]
 refine cndC.mk (fun h=>?_) (fun h=>?_)
 ·have hk':k<d.l.length:=by simpa using h
  rw[WL _ _ hk',← Oj _ hk'] at hb
  simp only[go_sem,AA _ hk',hk']
  refine CW (QD d.l[k]) fun _=>?_
  rcases h3:Dt d.l[k] with _ | _
  ·rw[h3,ag] at hb
   simp only[go_sem,h3,← hb,aH]
  rcases h4:d.l[k].first==Ns d.l k with _ | _
  ·have g4:(d.l[k].first != Ns d.l k)=true:=by simp[bne,h4]
   rw[h3,h4,ag,aH] at hb
   simp only[go_sem,AA _ hk',hk',h3,g4,← hb,aH]
  have g4:(d.l[k].first != Ns d.l k)=false:=by simp[bne,h4]
  have htl:(d.l.take k).length=k:=by simp; omega
  have hti:∀ j (h:j<(d.l.take k).length),(d.l.take k)[j]=d.l[j]'(by omega):=fun j h=>by simp
  simp only[go_sem,AA _ hk',hk',h3,g4,← Oj _ hk']
  refine LoopU.mk 1 (A:=Nat) (fun x=>[(5,.c (.v (.int .i64 (x))))]) (fun _=>[⟨38,2,[d.c],true,true⟩]) (FO (d.l.take k) fun r=>!(r.buf==d.l[k].buf)) (fun x=>k-x) 0 ⟨⟨rfl,rfl⟩,rfl,DW⟩ ?_
  intro j hj
  simp only[go_sem]
  refine cndC.mk (fun h=>?_) (fun h=>?_)
  ·have hjk:j<k:=by simpa using h
   have hj':j<d.l.length:=by omega
   have hj2:j<(d.l.take k).length:=by omega
   rcases h1:d.l[j].buf==d.l[k].buf with _ | _
   ·simp only[go_sem,AA _ hk',hk',AA _ hj',hj',h1]
    refine DrawK.mk ?_
    simp only[go_sem,AA _ hk',hk',AA _ hj',hj',h1,wrap_i64 (n:=(j:Int)+1) (by omega) (by omega)]
    exact⟨j+1,⟨rfl,rfl⟩,rfl,Bc hj2 hj (by rw[hti]; simp[h1]),by omega⟩
   ·have h5:D_ (d.l.take k) d.l[k].buf=true:=kM (p:=fun r:DRef=>r.buf==d.l[k].buf) hj2 (by rw[hti]; exact h1)
    rw[h5,aQ,ag,aH,aH] at hb
    simp only[go_sem,AA _ hk',hk',AA _ hj',hj',h1]
    refine DrawK.mk ?_
    simp only[go_sem,AA _ hk',hk',AA _ hj',hj',h1,← hb,aH]
  ·have hjk:j=k:=by have:=hj.1; rw[htl] at this; simp at h; omega
   subst hjk
   have h5:D_ (d.l.take j) d.l[j].buf=false:=uk (by rw[htl]; exact hj)
   rw[h3,h4,h5,ai,ai,aO,ai] at hb
   simp only[go_sem,wrap_i64 (n:=(j:Int)+1) (by omega) (by omega)]
   exact⟨j+1,⟨rfl,rfl⟩,rfl,⟨hk',hb⟩,by omega⟩
 ·have hk':k=d.l.length:=by simp at h; omega
  subst hk'
  rw[aU] at hb
  simp only[go_sem,← hb,IZ,aS]
  rcases h1:decide (d.ver<0) with _ | _<;>simp at h1<;>simp[h1]<;>omega
def JF (cs:List Int) (next i:Int) (s:DSlot):Bool:=NK s.ins&&(!(decide (i≥next)&&(s.ins != 0))&&(!((s.ins==0)&&decide ((s.l.length:Int)>0)) && !((s.ins != 0) && !fits cs s.l)))
def JG (cs:List Int) (next:Int):Nat→List DSlot→Bool
 | _,[]=>true
 | i,s::l=>JF cs next i s&&JG cs next (i+1) l
theorem Ua (cs:List Int) (next:Int) (l:List DSlot) {k:Nat} (h:k<l.length):JG cs next k (l.drop k)=(JF cs next k l[k]&&JG cs next (k+1) (l.drop (k+1))):=by
 rw[aG h,JG]
def Ol (cs:List Int) (c:DChunk):Bool:=Ac c.l.length 1 4&&(Ac c.next 0 c.l.length&&JG cs c.next 0 c.l)
theorem Z7 (cs:List Int) (c:DChunk) (hc:Gg c):Ctr prog 224 [.c (.sl (cs.map intC)),.agg c.c] [.val (.c (.v (.bool (Ol cs c))))]:=by
 rw[Ez] at hc
 have hl:=hc.1
 refine CM call224 func224 ntmps224 results224 fun hw=>?_
 unfold Ol
 simp only[go_sem]
 refine CallK.mk _ (AC c.l.length 1 4) fun _=>?_
 rcases h1:Ac c.l.length 1 4 with _ | _
 ·simp only[go_sem,h1,ag]
 simp only[go_sem,h1]
 refine CallK.mk _ (AC c.next 0 c.l.length) fun _=>?_
 rcases h2:Ac c.next 0 c.l.length with _ | _
 ·simp only[go_sem,h1,h2,ag,ai]
 simp only[go_sem,h1,h2,ai]
 refine LoopU.mk 1 (A:=Nat) (fun x=>[(24,.c (.v (.int .i64 (x))))]) (fun _=>[⟨158,2,[c.c],true,true⟩]) (fun x=>x≤c.l.length∧JG cs c.next x (c.l.drop x)=JG cs c.next 0 c.l) (fun x=>c.l.length-x) 0 ⟨⟨rfl,rfl⟩,rfl,ax _,rfl⟩ ?_
 rintro k ⟨hk,hb⟩
 simp only[go_sem]
 refine cndC.mk (fun h=>?_) (fun h=>?_)
 ·have hk':k<c.l.length:=by simpa using h
  rw[Ua _ _ _ hk'] at hb
  simp only[go_sem,AA _ hk',hk']
  refine CallK.mk _ (UV c.l[k].ins) fun _=>?_
  rcases h3:NK c.l[k].ins with _ | _
  ·rw[JF,h3,ag,ag] at hb
   simp only[go_sem,h3,← hb]
  rcases h4:c.l[k].ins==0 with _ | _
  ·have g4:(c.l[k].ins != 0)=true:=by simp[bne,h4]
   rcases h5:decide ((k:Int)≥c.next) with _ | _
   rotate_left
   ·rw[JF,h3,g4,h5] at hb
    simp only[aS,aQ,ag,aH] at hb
    simp only[go_sem,AA _ hk',hk',h3,g4,h5,← hb]
   simp only[go_sem,AA _ hk',hk',h3,h4,g4,h5]
   refine CallK.mk _ (OJ cs c.l[k].l) fun _=>?_
   rcases h6:fits cs c.l[k].l with _ | _
   ·rw[JF,h3,h4,g4,h5,h6] at hb
    simp only[aS,ai,aQ,aO,ag,aH] at hb
    simp only[go_sem,h6,← hb]
   ·rw[JF,h3,h4,g4,h5,h6] at hb
    simp only[aS,ai,aQ,aO,ag,aH] at hb
    simp only[go_sem,h6,wrap_i64 (n:=(k:Int)+1) (by omega) (by omega)]
    exact⟨k+1,⟨rfl,rfl⟩,rfl,⟨hk',hb⟩,by omega⟩
  ·have g4:(c.l[k].ins != 0)=false:=by simp[bne,h4]
   rcases h6:decide ((c.l[k].l.length:Int)>0) with _ | _
   ·rw[JF,h3,h4,g4,h6] at hb
    simp only[aS,ai,aQ,aO,ag,aH] at hb
    rcases h5:decide ((k:Int)≥c.next) with _ | _<;>simp only[go_sem,AA _ hk',hk',h3,h4,g4,h5,h6,wrap_i64 (n:=(k:Int)+1) (by omega) (by omega)] <;>
     exact⟨k+1,⟨rfl,rfl⟩,rfl,⟨hk',hb⟩,by omega⟩
   ·rw[JF,h3,h4,g4,h6] at hb
    simp only[aS,ai,aQ,aO,ag,aH] at hb
    rcases h5:decide ((k:Int)≥c.next) with _ | _<;>simp only[go_sem,AA _ hk',hk',h3,h4,g4,h5,h6,← hb]
 ·have hk':k=c.l.length:=by simp at h; omega
  subst hk'
  rw[aU] at hb
  simp only[go_sem,← hb,JG]
theorem Z8 (cs:List Int) (c:DChunk) (hc:Gg c):Ctr prog 215 [.c (.sl (cs.map intC)),.agg c.c] [.val (.c (.v (.bool (Ol cs c))))]:=by
 rw[Ez] at hc
 have hl:=hc.1
 refine CM call215 func215 ntmps215 results215 fun hw=>?_
 unfold Ol
 simp only[go_sem]
 refine LoopU.mk 1 (A:=Nat) (fun x=>[(5,.c (.v (.int .i64 (x))))]) (fun _=>[⟨158,2,[c.c],true,true⟩]) (fun x=>x≤c.l.length∧JG cs c.next x (c.l.drop x)=JG cs c.next 0 c.l) (fun x=>c.l.length-x) 0 ⟨⟨rfl,rfl⟩,rfl,ax _,rfl⟩ ?_
 rintro k ⟨hk,hb⟩
 simp only[go_sem]
 refine cndC.mk (fun h=>?_) (fun h=>?_)
 ·have hk':k<c.l.length:=by simpa using h
  rw[Ua _ _ _ hk'] at hb
  simp only[go_sem,AA _ hk',hk']
  refine CallK.mk _ (Oi c.l[k].ins) fun _=>?_
  rcases h3:NK c.l[k].ins with _ | _
  ·rw[JF,h3,ag,ag] at hb
   simp only[go_sem,h3,← hb,aH]
  rcases h4:c.l[k].ins==0 with _ | _
  ·have g4:(c.l[k].ins != 0)=true:=by simp[bne,h4]
   rcases h5:decide ((k:Int)≥c.next) with _ | _
   rotate_left
   ·rw[JF,h3,g4,h5] at hb
    simp only[aS,aQ,ag,aH] at hb
    simp only[go_sem,AA _ hk',hk',h3,h4,g4,h5,← hb,aH]
   simp only[go_sem,AA _ hk',hk',h3,h4,g4,h5]
   refine CallK.mk _ (OI cs c.l[k].l) fun _=>?_
   rcases h6:fits cs c.l[k].l with _ | _
   ·rw[JF,h3,h4,g4,h5,h6] at hb
    simp only[aS,ai,aQ,aO,ag,aH] at hb
    simp only[go_sem,h6,← hb,aH]
   ·rw[JF,h3,h4,g4,h5,h6] at hb
    simp only[aS,ai,aQ,aO,ag,aH] at hb
    simp only[go_sem,h6,wrap_i64 (n:=(k:Int)+1) (by omega) (by omega)]
    exact⟨k+1,⟨rfl,rfl⟩,rfl,⟨hk',hb⟩,by omega⟩
  ·have g4:(c.l[k].ins != 0)=false:=by simp[bne,h4]
   rcases h6:decide ((c.l[k].l.length:Int)>0) with _ | _
   ·rw[JF,h3,h4,g4,h6] at hb
    simp only[aS,ai,aQ,aO,ag,aH] at hb
    simp only[go_sem,AA _ hk',hk',h3,h4,g4,h6,wrap_i64 (n:=(k:Int)+1) (by omega) (by omega)]
    exact⟨k+1,⟨rfl,rfl⟩,rfl,⟨hk',hb⟩,by omega⟩
   ·rw[JF,h3,h4,g4,h6] at hb
    simp only[aS,ai,aQ,aO,ag,aH] at hb
    simp only[go_sem,AA _ hk',hk',h3,h4,g4,h6,← hb,aH]
 ·have hk':k=c.l.length:=by simp at h; omega
  subst hk'
  rw[aU] at hb
  simp only[go_sem,← hb,JG,aS]
  refine CallK.mk _ (AL c.l.length 1 4) fun _=>?_
  rcases h1:Ac c.l.length 1 4 with _ | _
  ·simp only[go_sem,h1,ag]
  simp only[go_sem,h1]
  refine CallK.mk _ (AL c.next 0 c.l.length) fun _=>?_
  simp only[go_sem,ai]
def Nu (c:DChunk):Bool:=(c.next==0)&&((c.l.length:Int)==0)
noncomputable def ZA (cs:List Int) (b:DBuf):Bool:=
 if(b.kind==0)=true then decide (b.gen≥0)&&(Nu b.c0&&((b.g.length:Int)==0)) else
 if(b.kind==1)=true then decide (b.gen≥0)&&(Ol cs b.c0&&((b.g.length:Int)==0)) else
 (b.kind==2)&&(decide (b.gen≥0)&&(Nu b.c0&&(CS cs b.g).isSome))
theorem uo (c:DChunk) (hc:Gg c):Ctr prog 223 [.agg c.c,.agg F8.c] [.val (.c (.v (.bool (Nu c))))]:=by
 rw[Ez] at hc
 have hl:=hc.1
 refine CM call223 func223 ntmps223 results223 fun hw=>?_
 rcases h1:c.next==0 with _ | _
 ·have g1:(c.next != 0)=true:=by simp[bne,h1]
  simp only[go_sem,g1,h1,F8,Nu,ag]
 have g1:(c.next != 0)=false:=by simp[bne,h1]
 rcases h2:((c.l.length:Int)==0) with _ | _
 ·have g2:((c.l.length:Int) != 0)=true:=by simp only[bne,h2,aO]
  simp only[go_sem,g1,h1,g2,h2,F8,Nu,dh,X5,abG,aH]
 have g2:((c.l.length:Int) != 0)=false:=by simp only[bne,h2,aQ]
 have hn:c.l = []:=by simpa using h2
 simp only[go_sem,g1,h1,g2,h2,F8,Nu,dh,X5,abG,aS,hn,au]
 refine LoopU.mk 2 (A:=Unit) (fun _=>[]) (fun _=>[⟨158,2,[[.v (.int .i64 c.next),.sl []]],true,true⟩,⟨158,2,[[.v (.int .i64 0),.sl []]],true,true⟩]) (fun _=>True) (fun _=>0) () ⟨⟨rfl,rfl⟩,rfl,trivial⟩ ?_
 intro _ _
 simp only[go_sem,Int.lt_irrefl,abH,ay]
theorem ZB (c:DChunk) (hc:Gg c):Ctr prog 214 [.agg c.c] [.val (.c (.v (.bool (Nu c))))]:=by
 refine CM call214 func214 ntmps214 results214 fun hw=>?_
 rcases h1:c.next==0 with _ | _
 ·simp only[go_sem,h1,Nu,ag]
 ·simp only[go_sem,h1,Nu,ai]
theorem qX (cs:List Int) (b:DBuf) (hf:Io b) (hg:AY b.g):Ctr prog 179 [.c (.sl (cs.map intC)),.agg b.c] [.val (.c (.v (.bool (ZA cs b))))]:=by
 rw[Ht] at hf
 refine CM call179 func179 ntmps179 results179 fun hw=>?_
 unfold ZA
 simp only[go_sem]
 refine CallK.mk _ (by have:=uo b.c0 hf.1; simpa only[go_sem,F8,dh] using this) fun _=>?_
 rcases k0:b.kind==0 with _ | _
 rotate_left
 ·simp only[bD]
  rcases h1:decide (b.gen≥0) with _ | _
  ·simp only[go_sem,k0,h1,ag]
  rcases h2:Nu b.c0 with _ | _
  ·simp only[go_sem,k0,h1,h2,ag,ai]
  simp only[go_sem,k0,h1,h2,ai]
 simp only[aC,aT]
 rcases k1:b.kind==1 with _ | _
 rotate_left
 ·simp only[bD]
  rcases h1:decide (b.gen≥0) with _ | _
  ·simp only[go_sem,k0,k1,h1,ag]
  simp only[go_sem,k0,k1,h1]
  refine CW (Z7 cs b.c0 hf.1) fun _=>?_
  rcases h2:Ol cs b.c0 with _ | _
  ·simp only[go_sem,h2,ag,ai]
  simp only[go_sem,h2,ai]
 simp only[aC,aT]
 rcases k2:b.kind==2 with _ | _
 ·simp only[go_sem,k0,k1,k2,ag]
 simp only[go_sem,k0,k1,k2]
 refine CallK.mk _ (RU cs b.g hg hf.2) fun _=>?_
 rcases h1:decide (b.gen≥0) with _ | _
 ·simp only[go_sem,h1,ag,aH]
 rcases h2:Nu b.c0 with _ | _
 ·simp only[go_sem,h1,h2,ag,ai,aH]
 simp only[go_sem,h1,h2,ai]
theorem WO (cs:List Int) (b:DBuf) (hf:Io b) (hg:AY b.g):Ctr prog 159 [.c (.sl (cs.map intC)),.agg b.c] [.val (.c (.v (.bool (ZA cs b))))]:=by
 rw[Ht] at hf
 refine CM call159 func159 ntmps159 results159 fun hw=>?_
 unfold ZA
 rcases k0:b.kind==0 with _ | _
 rotate_left
 ·simp only[bD]
  rcases h1:decide (b.gen≥0) with _ | _
  ·simp only[go_sem,k0,h1,ag]
  simp only[go_sem,k0,h1]
  refine CW (ZB b.c0 hf.1) fun _=>?_
  rcases h2:Nu b.c0 with _ | _
  ·simp only[go_sem,h2,ag,ai]
  simp only[go_sem,h2,ai]
 simp only[aC,aT]
 rcases k1:b.kind==1 with _ | _
 rotate_left
 ·simp only[bD]
  rcases h1:decide (b.gen≥0) with _ | _
  ·simp only[go_sem,k0,k1,h1,ag]
  simp only[go_sem,k0,k1,h1]
  refine CW (Z8 cs b.c0 hf.1) fun _=>?_
  rcases h2:Ol cs b.c0 with _ | _
  ·simp only[go_sem,h2,ag,ai]
  simp only[go_sem,h2,ai]
 simp only[aC,aT]
 simp only[go_sem,k0,k1]
 refine CallK.mk _ (XV cs b.g hg hf.2) fun _=>?_
 rcases k2:b.kind==2 with _ | _
 ·simp only[go_sem,k2,ag]
 rcases h1:decide (b.gen≥0) with _ | _
 ·simp only[go_sem,k2,h1,ag,aH]
 simp only[go_sem,k2,h1]
 refine CW (ZB b.c0 hf.1) fun _=>?_
 rcases h2:Nu b.c0 with _ | _
 ·simp only[go_sem,h2,ag,ai,aH]
 simp only[go_sem,h2,ai]
end Go.Proofs.YtnfbaclikokapaaGreat
