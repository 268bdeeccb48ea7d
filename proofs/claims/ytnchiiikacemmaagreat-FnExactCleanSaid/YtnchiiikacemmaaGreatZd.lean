/- A part. -/
import Derived.Test.YtnchiiikacemmaaGreatAf
import Derived.Test.YtnchiiikacemmaaGreatWb
import Derived.Test.YtnchiiikacemmaaGreatAc
set_option linter.unusedSimpArgs false
set_option linter.unusedVariables false
set_option maxHeartbeats 4000000
set_option maxRecDepth 10000
open Go.Proofs.Tryz
namespace Go.Proofs.YtnchiiikacemmaaGreat
open Go.Vm
def LU (cs:List Int) (p:DPred):Bool:=EX cs&&(IB cs 4 p&&decide ((Bh 4 p:Int)≤8))
theorem kY (cs:List Int) (p:DPred) (hc:cs.length≤1048576) (hp:Ak p):Ctr prog 235 [.c (.sl (cs.map intC)),.agg p.c] [.val (.c (.v (.bool (LU cs p))))]:=by
 refine CM call235 func235 ntmps235 results235 fun hw=>?_
 simp only[go_sem]
 refine CallK.mk _ (OC cs) fun _=>?_
 rcases h1:EX cs with _ | _
 ·simp only[go_sem,LU,h1,ag]
 simp only[go_sem]
 refine CW (RF cs hc 4 1 p (by decide) (by decide) hp) fun _=>?_
 rcases h2:IB cs 4 p with _ | _
 ·simp only[go_sem,LU,h1,h2,ag,aJ]
 simp only[go_sem]
 refine CW (Ox cs 4 p (by decide) hp h2) fun _=>?_
 simp only[go_sem,LU,h1,h2,ai]
theorem kZ (cs:List Int) (p:DPred) (hc:cs.length≤1048576) (hp:Ak p):Ctr prog 246 [.c (.sl (cs.map intC)),.agg p.c] [.val (.c (.v (.bool (LU cs p))))]:=by
 refine CM call246 func246 ntmps246 results246 fun hw=>?_
 simp only[go_sem]
 refine CallK.mk _ (OD cs) fun _=>?_
 rcases h1:EX cs with _ | _
 ·simp only[go_sem,LU,h1,ag]
 simp only[go_sem]
 refine CallK.mk _ (by have:=VX cs hc 4 p (by decide) hp; rw[show ((4:Nat):Int)=4 from rfl] at this; simpa only[go_sem] using this) fun _=>?_
 simp only[go_sem]
 refine CallK.mk _ (AC _ _ _) fun _=>?_
 have:Ac (DT cs 4 p) 1 8=LU cs p:=by
  unfold LU DT
  rw[h1]
  rcases h2:IB cs 4 p with _ | _
  ·rfl
  ·have:1≤Bh 4 p:=AAc 3 p
   simp[Ac]
   omega
 simp only[go_sem,this]
def ADc (q:DQuery):List Cl:=[.v (.int .i64 q.kind),.v (.int .i64 q.p.kind),.v (.int .i64 q.p.col),.v (.int .i64 q.p.op),.v (.int .i64 q.p.v.ty),.v (.int .i64 q.p.v.n),.v (.string q.p.v.s),.sl (q.p.l.map DPred.c),.v (.int .i64 q.col),.sl (q.out.map intC)]
@[go_sem] theorem AH4 (q:DQuery):ADc q = [.v (.int .i64 q.kind),.v (.int .i64 q.p.kind),.v (.int .i64 q.p.col),.v (.int .i64 q.p.op),.v (.int .i64 q.p.v.ty),.v (.int .i64 q.p.v.n),.v (.string q.p.v.s),.sl (q.p.l.map DPred.c),.v (.int .i64 q.col),.sl (q.out.map intC)]:=rfl
def KD (cs:List Int) (l:List Int):Bool:=l.all fun k=>Ac k 0 ((cs.length:Int)-1)
def BR (cs:List Int) (q:DQuery):Bool:=
 LU cs q.p&&(if(q.kind==1)=true then KD cs q.out&&((q.col==0)&&Ac q.out.length 1 3) else
  if(q.kind==2)=true then(q.col==0)&&((q.out.length:Int)==0) else
  if(q.kind==3)=true then Ac q.col 0 ((cs.length:Int)-1)&&(((cs[q.col.toNat]?).getD 0==1)&&((q.out.length:Int)==0)) else
  if(q.kind==4)=true then Ac q.col 0 ((cs.length:Int)-1)&&((q.out.length:Int)==0) else
  if(q.kind==5)=true then Ac q.col 0 ((cs.length:Int)-1)&&((q.out.length:Int)==0) else false)
theorem SA (cs:List Int) (l:List Int) {k:Nat} (h:k<l.length):KD cs (l.drop k)=(Ac l[k] 0 ((cs.length:Int)-1)&&KD cs (l.drop (k+1))):=by
 unfold KD
 rw[aC h]; rfl
theorem Q7 (cs:List Int) (q:DQuery) (hc:cs.length≤1048576) (hq:Dl q):Ctr prog 208 [.c (.sl (cs.map intC)),.agg q.c] [.val (.c (.v (.bool (BR cs q))))]:=by
 rw[Ea] at hq
 have hol:=hq.2
 have hwl:IntKind.i64.wrap ((cs.length:Int)-1)=(cs.length:Int)-1:=wrap_i64 (by omega) (by omega)
 have hin:Ac q.col 0 ((cs.length:Int)-1)=true→∃ m:Nat,q.col=m∧m<cs.length:=by
  intro hh
  simp[Ac] at hh
  exact⟨q.col.toNat,by omega,by omega⟩
 refine CM call208 func208 ntmps208 results208 fun hw=>?_
 simp only[go_sem]
 refine CW (kY cs q.p hc hq.1) fun _=>?_
 rcases h1:LU cs q.p with _ | _
 ·simp only[go_sem,BR,h1,ag]
 rcases k1:(q.kind==1) with _ | _
 rotate_left
 ·have hr:BR cs q=(KD cs q.out&&((q.col==0)&&Ac q.out.length 1 3)):=by simp[BR,h1,k1]
  rw[hr]
  simp only[go_sem,k1]
  refine LoopU.mk 1 (A:=Nat) (fun k=>[(5,.c (.v (.int .i64 (k))))]) (fun _=>[⟨124,10,[ADc q],true,true⟩]) (fun k=>k≤q.out.length∧KD cs (q.out.drop k)=KD cs q.out) (fun k=>q.out.length-k) 0 ⟨⟨rfl,rfl⟩,rfl,ak _,rfl⟩ ?_
  rintro k ⟨hk,hb⟩
  simp only[go_sem,ae]
  refine cndC.mk (fun h=>?_) (fun h=>?_)
  ·have hk':k<q.out.length:=by simpa using h
   rw[SA cs q.out hk'] at hb
   simp only[go_sem,ae,AA _ hk',hwl]
   refine CallK.mk _ (AL q.out[k] 0 _) fun _=>?_
   rcases hv:Ac q.out[k] 0 ((cs.length:Int)-1) with _ | _
   ·rw[hv,ag] at hb
    simp only[go_sem,← hb,ag]
   ·rw[hv,ai] at hb
    simp only[go_sem,wrap_i64 (n:=(k:Int)+1) (by omega) (by omega)]
    exact⟨k+1,⟨rfl,rfl⟩,rfl,⟨by omega,hb⟩,by omega⟩
  ·have hk':k=q.out.length:=by simp at h; omega
   rw[hk',aO] at hb
   have hb':KD cs q.out=true:=by rw[← hb]; rfl
   rw[hb',ai]
   rcases hA:(q.col==0) with _ | _
   ·simp only[go_sem,hA,ag]
   ·simp only[go_sem,ae,hA,ai]
    refine CallK.mk _ (AL q.out.length 1 3) fun _=>?_
    simp only[go_sem]
 rcases k2:(q.kind==2) with _ | _
 rotate_left
 ·have hr:BR cs q=((q.col==0)&&((q.out.length:Int)==0)):=by simp[BR,h1,k1,k2]
  rw[hr]
  rcases hA:(q.col==0) with _ | _
  ·simp only[go_sem,k1,k2,hA,ag]
  ·simp only[go_sem,ae,k1,k2,hA,ai]
 rcases k3:(q.kind==3) with _ | _
 rotate_left
 ·have hr:BR cs q=(Ac q.col 0 ((cs.length:Int)-1)&&(((cs[q.col.toNat]?).getD 0==1)&&((q.out.length:Int)==0))):=by simp[BR,h1,k1,k2,k3]
  rw[hr]
  simp only[go_sem,ae,k1,k2,k3,hwl]
  refine CallK.mk _ (AL q.col 0 _) fun _=>?_
  rcases c1:Ac q.col 0 ((cs.length:Int)-1) with _ | _
  ·simp only[go_sem,ag]
  obtain⟨m,hm,hml⟩:=hin c1
  have hgm:(cs[q.col.toNat]?).getD 0=cs[m]:=by rw[hm]; simp[hml]
  rw[hgm]
  rcases c2:(cs[m]==1) with _ | _
  ·simp only[go_sem,c2,hm,AA _ hml,ai,ag]
  ·simp only[go_sem,ae,c2,hm,AA _ hml,ai]
 rcases k4:(q.kind==4) with _ | _
 rotate_left
 ·have hr:BR cs q=(Ac q.col 0 ((cs.length:Int)-1)&&((q.out.length:Int)==0)):=by simp[BR,h1,k1,k2,k3,k4]
  rw[hr]
  simp only[go_sem,ae,k1,k2,k3,k4,hwl]
  refine CallK.mk _ (AL q.col 0 _) fun _=>?_
  rcases c1:Ac q.col 0 ((cs.length:Int)-1) with _ | _
  all_goals simp only[go_sem,ae,ag,ai]
 rcases k5:(q.kind==5) with _ | _
 rotate_left
 ·have hr:BR cs q=(Ac q.col 0 ((cs.length:Int)-1)&&((q.out.length:Int)==0)):=by simp[BR,h1,k1,k2,k3,k4,k5]
  rw[hr]
  simp only[go_sem,ae,k1,k2,k3,k4,k5,hwl]
  refine CallK.mk _ (AL q.col 0 _) fun _=>?_
  rcases c1:Ac q.col 0 ((cs.length:Int)-1) with _ | _
  all_goals simp only[go_sem,ae,ag,ai]
 have hr:BR cs q=false:=by simp[BR,h1,k1,k2,k3,k4,k5]
 rw[hr]
 simp only[go_sem,k1,k2,k3,k4,k5]
theorem Q8 (cs:List Int) (q:DQuery) (hc:cs.length≤1048576) (hq:Dl q):Ctr prog 218 [.c (.sl (cs.map intC)),.agg q.c] [.val (.c (.v (.bool (BR cs q))))]:=by
 rw[Ea] at hq
 have hol:=hq.2
 have hwl:IntKind.i64.wrap ((cs.length:Int)-1)=(cs.length:Int)-1:=wrap_i64 (by omega) (by omega)
 have hin:Ac q.col 0 ((cs.length:Int)-1)=true→∃ m:Nat,q.col=m∧m<cs.length:=by
  intro hh
  simp[Ac] at hh
  exact⟨q.col.toNat,by omega,by omega⟩
 refine CM call218 func218 ntmps218 results218 fun hw=>?_
 simp only[go_sem]
 refine CW (kZ cs q.p hc hq.1) fun _=>?_
 rcases h1:LU cs q.p with _ | _
 ·simp only[go_sem,BR,h1,ag]
 simp only[go_sem,ae,hwl]
 refine CallK.mk _ (AC q.col 0 _) fun _=>?_
 rcases c1:Ac q.col 0 ((cs.length:Int)-1) with _ | _
 ·rcases k1:(q.kind==1) with _ | _
  rotate_left
  ·have hr:BR cs q=(KD cs q.out&&((q.col==0)&&Ac q.out.length 1 3)):=by simp[BR,h1,k1]
   rw[hr]
   simp only[go_sem,ae,k1]
   refine LoopU.mk 1 (A:=Nat) (fun k=>[(32,.c (.v (.int .i64 (k))))]) (fun _=>[⟨124,10,[ADc q],true,true⟩]) (fun k=>k≤q.out.length∧KD cs (q.out.drop k)=KD cs q.out) (fun k=>q.out.length-k) 0 ⟨⟨rfl,rfl⟩,rfl,ak _,rfl⟩ ?_
   rintro k ⟨hk,hb⟩
   simp only[go_sem]
   refine cndC.mk (fun h=>?_) (fun h=>?_)
   ·have hk':k<q.out.length:=by simpa using h
    rw[SA cs q.out hk'] at hb
    simp only[go_sem,ae,AA _ hk',hwl]
    refine CallK.mk _ (AC q.out[k] 0 _) fun _=>?_
    rcases hv:Ac q.out[k] 0 ((cs.length:Int)-1) with _ | _
    ·rw[hv,ag] at hb
     simp only[go_sem,← hb,ag]
    ·rw[hv,ai] at hb
     simp only[go_sem,wrap_i64 (n:=(k:Int)+1) (by omega) (by omega)]
     exact⟨k+1,⟨rfl,rfl⟩,rfl,⟨by omega,hb⟩,by omega⟩
   ·have hk':k=q.out.length:=by simp at h; omega
    rw[hk',aO] at hb
    have hb':KD cs q.out=true:=by rw[← hb]; rfl
    rw[hb',ai]
    simp only[go_sem,ae]
    refine CallK.mk _ (AC q.out.length 1 3) fun _=>?_
    rcases hA:Ac q.out.length 1 3 with _ | _
    ·simp only[go_sem,aJ]
    ·simp only[go_sem,aU]
  rcases k2:(q.kind==2) with _ | _
  rotate_left
  ·have hr:BR cs q=((q.col==0)&&((q.out.length:Int)==0)):=by simp[BR,h1,k1,k2]
   rw[hr]
   rcases hA:(q.col==0) with _ | _
   ·simp only[go_sem,k1,k2,hA,ag]
   ·simp only[go_sem,ae,k1,k2,hA,ai]
  have hr:BR cs q=false:=by simp[BR,h1,k1,k2,c1]
  rw[hr]
  rcases k3:(q.kind==3) with _ | _
  rotate_left
  ·simp only[go_sem,k1,k2,k3]
  rcases k4:(q.kind==4) with _ | _
  rotate_left
  ·simp only[go_sem,k1,k2,k3,k4]
  rcases k5:(q.kind==5) with _ | _
  rotate_left
  ·simp only[go_sem,k1,k2,k3,k4,k5]
  simp only[go_sem,k1,k2,k3,k4,k5]
 ·rcases k1:(q.kind==1) with _ | _
  rotate_left
  ·have hr:BR cs q=(KD cs q.out&&((q.col==0)&&Ac q.out.length 1 3)):=by simp[BR,h1,k1]
   rw[hr]
   simp only[go_sem,ae,k1]
   refine LoopU.mk 1 (A:=Nat) (fun k=>[(32,.c (.v (.int .i64 (k))))]) (fun _=>[⟨124,10,[ADc q],true,true⟩]) (fun k=>k≤q.out.length∧KD cs (q.out.drop k)=KD cs q.out) (fun k=>q.out.length-k) 0 ⟨⟨rfl,rfl⟩,rfl,ak _,rfl⟩ ?_
   rintro k ⟨hk,hb⟩
   simp only[go_sem]
   refine cndC.mk (fun h=>?_) (fun h=>?_)
   ·have hk':k<q.out.length:=by simpa using h
    rw[SA cs q.out hk'] at hb
    simp only[go_sem,ae,AA _ hk',hwl]
    refine CallK.mk _ (AC q.out[k] 0 _) fun _=>?_
    rcases hv:Ac q.out[k] 0 ((cs.length:Int)-1) with _ | _
    ·rw[hv,ag] at hb
     simp only[go_sem,← hb,ag]
    ·rw[hv,ai] at hb
     simp only[go_sem,wrap_i64 (n:=(k:Int)+1) (by omega) (by omega)]
     exact⟨k+1,⟨rfl,rfl⟩,rfl,⟨by omega,hb⟩,by omega⟩
   ·have hk':k=q.out.length:=by simp at h; omega
    rw[hk',aO] at hb
    have hb':KD cs q.out=true:=by rw[← hb]; rfl
    rw[hb',ai]
    simp only[go_sem,ae]
    refine CallK.mk _ (AC q.out.length 1 3) fun _=>?_
    rcases hA:Ac q.out.length 1 3 with _ | _
    ·simp only[go_sem,aJ]
    ·simp only[go_sem,aU]
  rcases k2:(q.kind==2) with _ | _
  rotate_left
  ·have hr:BR cs q=((q.col==0)&&((q.out.length:Int)==0)):=by simp[BR,h1,k1,k2]
   rw[hr]
   rcases hA:(q.col==0) with _ | _
   ·simp only[go_sem,ae,k1,k2,hA,ag]
   ·simp only[go_sem,ae,k1,k2,hA,ai]
  rcases k3:(q.kind==3) with _ | _
  rotate_left
  ·obtain⟨m,hm,hml⟩:=hin c1
   have hgm:(cs[q.col.toNat]?).getD 0=cs[m]:=by rw[hm]; simp[hml]
   have hr:BR cs q=((cs[m]==1)&&((q.out.length:Int)==0)):=by simp only[BR,h1,k1,k2,k3,c1,hgm]; rfl
   rw[hr]
   rcases c2:((q.out.length:Int)==0) with _ | _
   ·simp only[go_sem,ae,c2,k1,k2,k3,aJ]
   ·simp only[go_sem,ae,c2,k1,k2,k3,hm,AA _ hml,aU]
  have hr2:(q.kind==4)=true∨(q.kind==5)=true→BR cs q=((q.out.length:Int)==0):=by
   intro h45
   rcases h45 with h45 | h45
   ·simp[BR,h1,k1,k2,k3,h45,c1]
   ·simp[BR,h1,k1,k2,k3,h45,c1]
  rcases k4:(q.kind==4) with _ | _
  rotate_left
  ·rw[hr2 (.inl k4)]
   simp only[go_sem,ae,k1,k2,k3,k4]
  rcases k5:(q.kind==5) with _ | _
  rotate_left
  ·rw[hr2 (.inr k5)]
   simp only[go_sem,ae,k1,k2,k3,k4,k5]
  have hr:BR cs q=false:=by simp[BR,h1,k1,k2,k3,k4,k5]
  rw[hr]
  simp only[go_sem,ae,k1,k2,k3,k4,k5]
theorem allA {N:Nat} {a:Ob} (ha:Aw N a=true) : [a].all (Aw N)=true:=by simp[ha]
theorem Pm (l:List DRow) (hl:fitS G_ l):Ctr prog 182 [.c (.sl (l.map DRow.c))] [.own 193 2 (l.map DRow.o) true]:=by
 refine CM call182 func182 ntmps182 results182 fun hw=>?_
 have hlen:=hl.1
 simp only[go_sem,ae]
 refine LoopH.mk [6] (A:=Nat×List DRow) (fun x=>[(9,.c (.v (.int .i64 (x.1)))),(3,.c (.ref 0))]) (fun x=>[⟨193,2,x.2.map DRow.o,true,true⟩]) (fun x=>x.1≤l.length∧x.2.length≤x.1∧x.2++l.drop x.1=l) (fun x=>l.length-x.1) (0,[]) (Head.sel [(0,false)] ⟨rfl,rfl,rfl,trivial⟩ rfl) ⟨ak _,aK _,rfl⟩ ?_
 rintro⟨k,out⟩ ⟨hk,hol,hb⟩
 dsimp only at hk hol hb
 simp only[go_sem]
 refine cndC.mk (fun h=>?_) (fun h=>?_)
 ·have hk':k<l.length:=by simpa using h
  rw[aC hk'] at hb
  have hr:=hl.2 _ (aj hk')
  rw[KY] at hr
  have hrl:=hr.1
  have hol2:out.length+1≤2147483648:=by omega
  simp only[go_sem,AA _ hk']
  refine CW (Zy l[k] hrl) fun _=>?_
  simp only[go_sem,bK,Oo,ae,hol2,vk,az,aS,wrap_i64 (n:=(k:Int)+1) (by omega) (by omega)]
  refine⟨(k+1,out ++ [l[k]]),Head.selAbs [(4,true),(2,false)] 1 0 ⟨rfl,rfl,Iy DRow.o_nr _ out rfl,AO DVal.pure,trivial⟩ ⟨out.length,out.map DRow.o ++ [DRow.o l[k]],_,DRow.o l[k],_,⟨lU 0,rfl,Iw DRow.o_nr _ out _ _,by simp,rfl⟩,
   ⟨rfl,rfl,rfl,rfl,rfl,rfl,CX _,by simp[En],fun l hl=>by simp[En] at hl; omega⟩,⟨rfl, ?tr⟩, ?eq⟩,⟨hk',by simp; omega,(bJ _ _ _).trans hb⟩,by simp only; omega⟩
  case tr=>unfold Az; rw[Bc]; exact allA (AP (A8 _))
  case eq=>unfold Az; rw[Bc,Uz]; rfl
 ·have hk':k=l.length:=by simp at h; omega
  subst hk'
  rw[aO] at hb
  have:out=l:=by simpa using hb
  subst this
  simp only[go_sem,A8]
  try simp
theorem ZC (l:List DRow) (hl:fitS G_ l):Ctr prog 143 [.c (.sl (l.map DRow.c))] [.own 193 2 (l.map DRow.o) true]:=by
 refine CM call143 func143 ntmps143 results143 fun hw=>?_
 have hlen:=hl.1
 simp only[go_sem]
 refine LoopH.mk [6] (A:=Nat×List DRow) (fun x=>[(4,.c (.v (.int .i64 (x.1)))),(3,.c (.ref 0))]) (fun x=>[⟨193,2,x.2.map DRow.o,true,true⟩]) (fun x=>x.1≤l.length∧x.2.length≤x.1∧x.2++l.drop x.1=l) (fun x=>l.length-x.1) (0,[]) (Head.sel [(0,false)] ⟨rfl,rfl,rfl,trivial⟩ rfl) ⟨ak _,aK _,rfl⟩ ?_
 rintro⟨k,out⟩ ⟨hk,hol,hb⟩
 dsimp only at hk hol hb
 simp only[go_sem,ae]
 refine cndC.mk (fun h=>?_) (fun h=>?_)
 ·have hk':k<l.length:=by simpa using h
  rw[aC hk'] at hb
  have hr:=hl.2 _ (aj hk')
  rw[KY] at hr
  have hrl:=hr.1
  have hol2:out.length+1≤2147483648:=by omega
  simp only[go_sem,AA _ hk']
  refine CW (pW l[k] hrl) fun _=>?_
  simp only[go_sem,bK,Oo,ae,hol2,vk,az,aS,wrap_i64 (n:=(k:Int)+1) (by omega) (by omega)]
  refine⟨(k+1,out ++ [l[k]]),Head.selAbs [(4,true),(1,false)] 1 0 ⟨rfl,rfl,Iy DRow.o_nr _ out rfl,AO DVal.pure,trivial⟩ ⟨out.length,out.map DRow.o ++ [DRow.o l[k]],_,DRow.o l[k],_,⟨lU 0,rfl,Iw DRow.o_nr _ out _ _,by simp,rfl⟩,
   ⟨rfl,rfl,rfl,rfl,rfl,rfl,CX _,by simp[En],fun l hl=>by simp[En] at hl; omega⟩,⟨rfl, ?tr⟩, ?eq⟩,⟨hk',by simp; omega,(bJ _ _ _).trans hb⟩,by simp only; omega⟩
  case tr=>unfold Az; rw[Bc]; exact allA (AP (A8 _))
  case eq=>unfold Az; rw[Bc,Uz]; rfl
 ·have hk':k=l.length:=by simp at h; omega
  subst hk'
  rw[aO] at hb
  have:out=l:=by simpa using hb
  subst this
  simp only[go_sem,A8]
  try simp
def Ia:Int→List DRef→List DRef→Bool
 | _,_,[]=>true
 | e,seen,r::l=>Dv r&&((r.first==e)&&(!D9 seen r.buf&&Ia (IntKind.i64.wrap (e+r.many)) (seen ++ [r]) l))
def KE (d:DDir):Bool:=!decide (d.ver<0)&&(!decide ((d.l.length:Int)>8)&&Ia 0 [] d.l)
def NQ (l:List DRef) (k:Nat):Int:=(l.take k).foldl (fun e r=>IntKind.i64.wrap (e+r.many)) 0
theorem WS (l:List DRef) (e:Int) {k:Nat} (h:k<l.length):Ia e (l.take k) (l.drop k)=(Dv l[k]&&((l[k].first==e)&&(!D9 (l.take k) l[k].buf&&Ia (IntKind.i64.wrap (e+l[k].many)) (l.take (k+1)) (l.drop (k+1))))):=by
 rw[aC h,Ia,List.take_add_one,aA h]
 rfl
theorem OU (l:List DRef) {k:Nat} (h:k<l.length):NQ l (k+1)=IntKind.i64.wrap (NQ l k+l[k].many):=by
 unfold NQ
 rw[List.take_add_one,aA h,List.foldl_append]
 rfl
theorem AIT (l:List DRef):((l.map DRef.c).all fun r=>r.length==5)=true:=aG.2 fun r hr=>by
 obtain⟨x,_,rfl⟩:=RX.1 hr
 rfl
theorem WT (d:DDir) (hl:d.l.length≤1048576):Ctr prog 89 [.agg d.c] [.val (.c (.v (.bool (KE d))))]:=by
 refine CM call89 func89 ntmps89 results89 fun hw=>?_
 unfold KE
 rcases h1:decide (d.ver<0) with _ | _
 rotate_left
 ·simp only[go_sem,h1,aQ,ag]
 rcases h2:decide ((d.l.length:Int)>8) with _ | _
 rotate_left
 ·simp only[go_sem,h1,h2,aQ,aN,ai,ag]
 simp only[go_sem,h1,h2,aN,ai]
 refine LoopU.mk 1 (A:=Nat) (fun x=>[(18,.c (.v (.int .i64 (x)))),(3,.c (.v (.int .i64 (NQ d.l x))))]) (fun _=>[⟨39,2,[d.c],true,true⟩]) (fun x=>x≤d.l.length∧Ia (NQ d.l x) (d.l.take x) (d.l.drop x)=Ia 0 [] d.l) (fun x=>d.l.length-x) 0 ⟨⟨rfl,rfl⟩,rfl,ak _,rfl⟩ ?_
 rintro k ⟨hk,hb⟩
 simp only[go_sem]
 refine cndC.mk (fun h=>?_) (fun h=>?_)
 ·have hk':k<d.l.length:=by simpa using h
  rw[WS _ _ hk',← OU _ hk'] at hb
  simp only[go_sem,AA _ hk']
  refine DrawK.mk ?_
  simp only[go_sem]
  refine CY (PW d.l[k]) ?_
  rcases h3:Dv d.l[k] with _ | _
  ·rw[h3,ag] at hb
   simp only[go_sem,← hb]
  rcases h4:d.l[k].first==NQ d.l k with _ | _
  ·have g4:(d.l[k].first != NQ d.l k)=true:=by simp[bne,h4]
   rw[h3,h4,ag,aJ] at hb
   simp only[go_sem,g4,← hb]
  have g4:(d.l[k].first != NQ d.l k)=false:=by simp[bne,h4]
  have hmt:List.take k (d.l.map DRef.c)=(d.l.take k).map DRef.c:=(bZ ..).symm
  simp only[go_sem,g4,hmt,hk,AIT,ak,aba,and_self,aW]
  refine CY (jo ⟨0,d.l.take k⟩ d.l[k].buf (by simp; omega)) ?_
  rcases h5:D9 (d.l.take k) d.l[k].buf with _ | _
  ·rw[h3,h4,h5,ai,ai,aN,ai] at hb
   simp only[go_sem,← OU _ hk',wrap_i64 (n:=(k:Int)+1) (by omega) (by omega)]
   exact⟨k+1,⟨rfl,rfl⟩,rfl,⟨hk',hb⟩,by omega⟩
  ·rw[h5,aQ,ag,aJ,aJ] at hb
   simp only[go_sem,← hb]
 ·have hk':k=d.l.length:=by simp at h; omega
  subst hk'
  rw[aO] at hb
  simp only[go_sem,← hb,Ia]
theorem WU (d:DDir) (hl:d.l.length≤1048576):Ctr prog 75 [.agg d.c] [.val (.c (.v (.bool (KE d))))]:=by
 refine CM call75 func75 ntmps75 results75 fun hw=>?_
 unfold KE
 rcases h2:decide ((d.l.length:Int)>8) with _ | _
 rotate_left
 ·simp only[go_sem,h2,aQ,ag,aJ]
 simp only[go_sem,h2,aN,ai]
 refine LoopU.mk 1 (A:=Nat) (fun x=>[(4,.c (.v (.int .i64 (x)))),(3,.c (.v (.int .i64 (NQ d.l x))))]) (fun _=>[⟨39,2,[d.c],true,true⟩]) (fun x=>x≤d.l.length∧Ia (NQ d.l x) (d.l.take x) (d.l.drop x)=Ia 0 [] d.l) (fun x=>d.l.length-x) 0 ⟨⟨rfl,rfl⟩,rfl,ak _,rfl⟩ ?_
 rintro k ⟨hk,hb⟩
 simp only[go_sem]
 refine cndC.mk (fun h=>?_) (fun h=>?_)
 ·have hk':k<d.l.length:=by simpa using h
  rw[WS _ _ hk',← OU _ hk'] at hb
  simp only[go_sem,AA _ hk']
  refine CW (PX d.l[k]) fun _=>?_
  rcases h3:Dv d.l[k] with _ | _
  ·rw[h3,ag] at hb
   simp only[go_sem,← hb,aJ]
  rcases h4:d.l[k].first==NQ d.l k with _ | _
  ·have g4:(d.l[k].first != NQ d.l k)=true:=by simp[bne,h4]
   rw[h3,h4,ag,aJ] at hb
   simp only[go_sem,AA _ hk',g4,← hb,aJ]
  have g4:(d.l[k].first != NQ d.l k)=false:=by simp[bne,h4]
  have htl:(d.l.take k).length=k:=by simp; omega
  have hti:∀ j (h:j<(d.l.take k).length),(d.l.take k)[j]=d.l[j]'(by omega):=fun j h=>by simp
  simp only[go_sem,AA _ hk',g4,← OU _ hk']
  refine LoopU.mk 1 (A:=Nat) (fun x=>[(5,.c (.v (.int .i64 (x))))]) (fun _=>[⟨39,2,[d.c],true,true⟩]) (Eh (d.l.take k) fun r=>!(r.buf==d.l[k].buf)) (fun x=>k-x) 0 ⟨⟨rfl,rfl⟩,rfl,DJ⟩ ?_
  intro j hj
  simp only[go_sem]
  refine cndC.mk (fun h=>?_) (fun h=>?_)
  ·have hjk:j<k:=by simpa using h
   have hj':j<d.l.length:=by omega
   have hj2:j<(d.l.take k).length:=by omega
   rcases h1:d.l[j].buf==d.l[k].buf with _ | _
   ·simp only[go_sem]
    refine DrawK.mk ?_
    simp only[go_sem,AA _ hk',AA _ hj',h1,wrap_i64 (n:=(j:Int)+1) (by omega) (by omega)]
    exact⟨j+1,⟨rfl,rfl⟩,rfl,BI hj2 hj (by rw[hti]; simp[h1]),by omega⟩
   ·have h5:D9 (d.l.take k) d.l[k].buf=true:=jm (p:=fun r:DRef=>r.buf==d.l[k].buf) hj2 (by rw[hti]; exact h1)
    rw[h5,aQ,ag,aJ,aJ] at hb
    simp only[go_sem]
    refine DrawK.mk ?_
    simp only[go_sem,AA _ hk',AA _ hj',h1,← hb,aJ]
  ·have hjk:j=k:=by have:=hj.1; rw[htl] at this; simp at h; omega
   subst hjk
   have h5:D9 (d.l.take j) d.l[j].buf=false:=uj (by rw[htl]; exact hj)
   rw[h3,h4,h5,ai,ai,aN,ai] at hb
   simp only[go_sem,wrap_i64 (n:=(j:Int)+1) (by omega) (by omega)]
   exact⟨j+1,⟨rfl,rfl⟩,rfl,⟨hk',hb⟩,by omega⟩
 ·have hk':k=d.l.length:=by simp at h; omega
  subst hk'
  rw[aO] at hb
  simp only[go_sem,← hb,Ia,aU]
  rcases h1:decide (d.ver<0) with _ | _<;>simp at h1<;>simp[h1]<;>omega
def JB (cs:List Int) (next i:Int) (s:DSlot):Bool:=MM s.ins&&(!(decide (i≥next)&&(s.ins != 0))&&(!((s.ins==0)&&decide ((s.l.length:Int)>0)) && !((s.ins != 0) && !fits cs s.l)))
def JC (cs:List Int) (next:Int):Nat→List DSlot→Bool
 | _,[]=>true
 | i,s::l=>JB cs next i s&&JC cs next (i+1) l
theorem UY (cs:List Int) (next:Int) (l:List DSlot) {k:Nat} (h:k<l.length):JC cs next k (l.drop k)=(JB cs next k l[k]&&JC cs next (k+1) (l.drop (k+1))):=by
 rw[aC h,JC]
def OV (cs:List Int) (c:DChunk):Bool:=Ac c.l.length 1 4&&(Ac c.next 0 c.l.length&&JC cs c.next 0 c.l)
theorem dE (cs:List Int) (c:DChunk) (hc:FY c):Ctr prog 211 [.c (.sl (cs.map intC)),.agg c.c] [.val (.c (.v (.bool (OV cs c))))]:=by
 rw[Eb] at hc
 have hl:=hc.1
 refine CM call211 func211 ntmps211 results211 fun hw=>?_
 unfold OV
 simp only[go_sem]
 refine CallK.mk _ (AC c.l.length 1 4) fun _=>?_
 rcases h1:Ac c.l.length 1 4 with _ | _
 ·simp only[go_sem,ag]
 simp only[go_sem]
 refine CallK.mk _ (AC c.next 0 c.l.length) fun _=>?_
 rcases h2:Ac c.next 0 c.l.length with _ | _
 ·simp only[go_sem,ag]
 simp only[go_sem,ai]
 refine LoopU.mk 1 (A:=Nat) (fun x=>[(24,.c (.v (.int .i64 (x))))]) (fun _=>[⟨110,2,[c.c],true,true⟩]) (fun x=>x≤c.l.length∧JC cs c.next x (c.l.drop x)=JC cs c.next 0 c.l) (fun x=>c.l.length-x) 0 ⟨⟨rfl,rfl⟩,rfl,ak _,rfl⟩ ?_
 rintro k ⟨hk,hb⟩
 simp only[go_sem]
 refine cndC.mk (fun h=>?_) (fun h=>?_)
 ·have hk':k<c.l.length:=by simpa using h
  rw[UY _ _ _ hk'] at hb
  simp only[go_sem,AA _ hk']
  refine CallK.mk _ (UC c.l[k].ins) fun _=>?_
  rcases h3:MM c.l[k].ins with _ | _
  ·rw[JB,h3,ag,ag] at hb
   simp only[go_sem,← hb]
  rcases h4:c.l[k].ins==0 with _ | _
  ·have g4:(c.l[k].ins != 0)=true:=by simp[bne,h4]
   rcases h5:decide ((k:Int)≥c.next) with _ | _
   rotate_left
   ·rw[JB,h3,g4,h5] at hb
    simp only[aU,aQ,ag,aJ] at hb
    simp only[go_sem,g4,h5,← hb]
   simp only[go_sem,h4,g4,h5]
   refine CallK.mk _ (OB cs c.l[k].l) fun _=>?_
   rcases h6:fits cs c.l[k].l with _ | _
   ·rw[JB,h3,h4,g4,h5,h6] at hb
    simp only[aU,aQ,aN,ag,aJ] at hb
    simp only[go_sem,← hb]
   ·rw[JB,h3,h4,g4,h5,h6] at hb
    simp only[aU,ai,aQ,aN,ag,aJ] at hb
    simp only[go_sem,wrap_i64 (n:=(k:Int)+1) (by omega) (by omega)]
    exact⟨k+1,⟨rfl,rfl⟩,rfl,⟨hk',hb⟩,by omega⟩
  ·have g4:(c.l[k].ins != 0)=false:=by simp[bne,h4]
   rcases h6:decide ((c.l[k].l.length:Int)>0) with _ | _
   ·rw[JB,h3,h4,g4,h6] at hb
    simp only[aU,ai,aN,ag,aJ] at hb
    rcases h5:decide ((k:Int)≥c.next) with _ | _<;>simp only[go_sem,h4,g4,h5,h6,wrap_i64 (n:=(k:Int)+1) (by omega) (by omega)] <;>
     exact⟨k+1,⟨rfl,rfl⟩,rfl,⟨hk',hb⟩,by omega⟩
   ·rw[JB,h3,h4,g4,h6] at hb
    simp only[aU,aQ,aN,ag,aJ] at hb
    rcases h5:decide ((k:Int)≥c.next) with _ | _<;>simp only[go_sem,h4,g4,h5,h6,← hb]
 ·have hk':k=c.l.length:=by simp at h; omega
  subst hk'
  rw[aO] at hb
  simp only[go_sem,← hb,JC]
theorem dF (cs:List Int) (c:DChunk) (hc:FY c):Ctr prog 202 [.c (.sl (cs.map intC)),.agg c.c] [.val (.c (.v (.bool (OV cs c))))]:=by
 rw[Eb] at hc
 have hl:=hc.1
 refine CM call202 func202 ntmps202 results202 fun hw=>?_
 unfold OV
 simp only[go_sem]
 refine LoopU.mk 1 (A:=Nat) (fun x=>[(5,.c (.v (.int .i64 (x))))]) (fun _=>[⟨110,2,[c.c],true,true⟩]) (fun x=>x≤c.l.length∧JC cs c.next x (c.l.drop x)=JC cs c.next 0 c.l) (fun x=>c.l.length-x) 0 ⟨⟨rfl,rfl⟩,rfl,ak _,rfl⟩ ?_
 rintro k ⟨hk,hb⟩
 simp only[go_sem]
 refine cndC.mk (fun h=>?_) (fun h=>?_)
 ·have hk':k<c.l.length:=by simpa using h
  rw[UY _ _ _ hk'] at hb
  simp only[go_sem,AA _ hk']
  refine CallK.mk _ (OE c.l[k].ins) fun _=>?_
  rcases h3:MM c.l[k].ins with _ | _
  ·rw[JB,h3,ag,ag] at hb
   simp only[go_sem,← hb,aJ]
  rcases h4:c.l[k].ins==0 with _ | _
  ·have g4:(c.l[k].ins != 0)=true:=by simp[bne,h4]
   rcases h5:decide ((k:Int)≥c.next) with _ | _
   rotate_left
   ·rw[JB,h3,g4,h5] at hb
    simp only[aU,aQ,ag,aJ] at hb
    simp only[go_sem,h4,g4,h5,← hb,aJ]
   simp only[go_sem,h4,g4,h5]
   refine CallK.mk _ (OA cs c.l[k].l) fun _=>?_
   rcases h6:fits cs c.l[k].l with _ | _
   ·rw[JB,h3,h4,g4,h5,h6] at hb
    simp only[aU,aQ,aN,ag,aJ] at hb
    simp only[go_sem,← hb,aJ]
   ·rw[JB,h3,h4,g4,h5,h6] at hb
    simp only[aU,ai,aQ,aN,ag,aJ] at hb
    simp only[go_sem,wrap_i64 (n:=(k:Int)+1) (by omega) (by omega)]
    exact⟨k+1,⟨rfl,rfl⟩,rfl,⟨hk',hb⟩,by omega⟩
  ·have g4:(c.l[k].ins != 0)=false:=by simp[bne,h4]
   rcases h6:decide ((c.l[k].l.length:Int)>0) with _ | _
   ·rw[JB,h3,h4,g4,h6] at hb
    simp only[aU,ai,aN,ag,aJ] at hb
    simp only[go_sem,h4,g4,h6,wrap_i64 (n:=(k:Int)+1) (by omega) (by omega)]
    exact⟨k+1,⟨rfl,rfl⟩,rfl,⟨hk',hb⟩,by omega⟩
   ·rw[JB,h3,h4,g4,h6] at hb
    simp only[aU,aQ,aN,ag,aJ] at hb
    simp only[go_sem,h4,h6,← hb,aJ]
 ·have hk':k=c.l.length:=by simp at h; omega
  subst hk'
  rw[aO] at hb
  simp only[go_sem,← hb,JC,aU]
  refine CallK.mk _ (AL c.l.length 1 4) fun _=>?_
  rcases h1:Ac c.l.length 1 4 with _ | _
  ·simp only[go_sem,ag]
  simp only[go_sem]
  refine CallK.mk _ (AL c.next 0 c.l.length) fun _=>?_
  simp only[go_sem]
def NR (c:DChunk):Bool:=(c.next==0)&&((c.l.length:Int)==0)
noncomputable def ZE (cs:List Int) (b:DBuf):Bool:=
 if(b.kind==0)=true then decide (b.gen≥0)&&(NR b.c0&&((b.g.length:Int)==0)) else
 if(b.kind==1)=true then decide (b.gen≥0)&&(OV cs b.c0&&((b.g.length:Int)==0)) else
 (b.kind==2)&&(decide (b.gen≥0)&&(NR b.c0&&(CU cs b.g).isSome))
theorem vT (c:DChunk) (hc:FY c):Ctr prog 210 [.agg c.c,.agg Fv.c] [.val (.c (.v (.bool (NR c))))]:=by
 rw[Eb] at hc
 have hl:=hc.1
 refine CM call210 func210 ntmps210 results210 fun hw=>?_
 rcases h1:c.next==0 with _ | _
 ·have g1:(c.next != 0)=true:=by simp[bne,h1]
  simp only[go_sem,g1,h1,Fv,NR,ag]
 have g1:(c.next != 0)=false:=by simp[bne,h1]
 rcases h2:((c.l.length:Int)==0) with _ | _
 ·have g2:((c.l.length:Int) != 0)=true:=by simp only[bne,h2,aN]
  simp only[go_sem,g1,h1,g2,h2,Fv,NR,cZ,oI,Int.natCast_zero,aJ]
 have g2:((c.l.length:Int) != 0)=false:=by simp only[bne,h2,aQ]
 have hn:c.l = []:=by simpa using h2
 simp only[go_sem,g1,h1,Fv,NR,cZ,oI,Int.natCast_zero,hn,aH]
 refine LoopU.mk 2 (A:=Unit) (fun _=>[]) (fun _=>[⟨110,2,[[.v (.int .i64 c.next),.sl []]],true,true⟩,⟨110,2,[[.v (.int .i64 0),.sl []]],true,true⟩]) (fun _=>True) (fun _=>0) () ⟨⟨rfl,rfl⟩,rfl,trivial⟩ ?_
 intro _ _
 simp only[go_sem,Int.lt_irrefl,abJ,bD]
theorem ZF (c:DChunk) (hc:FY c):Ctr prog 201 [.agg c.c] [.val (.c (.v (.bool (NR c))))]:=by
 refine CM call201 func201 ntmps201 results201 fun hw=>?_
 rcases h1:c.next==0 with _ | _
 ·simp only[go_sem,h1,NR,ag]
 ·simp only[go_sem,h1,NR,ai]
theorem qm (cs:List Int) (b:DBuf) (hf:F6 b) (hg:AQ b.g):Ctr prog 164 [.c (.sl (cs.map intC)),.agg b.c] [.val (.c (.v (.bool (ZE cs b))))]:=by
 rw[Gp] at hf
 refine CM call164 func164 ntmps164 results164 fun hw=>?_
 unfold ZE
 simp only[go_sem]
 refine CallK.mk _ (by have:=vT b.c0 hf.1; simpa only[go_sem,Fv,cZ] using this) fun _=>?_
 rcases k0:b.kind==0 with _ | _
 rotate_left
 ·simp only[aW]
  rcases h1:decide (b.gen≥0) with _ | _
  ·simp only[go_sem,k0,h1,ag]
  rcases h2:NR b.c0 with _ | _
  ·simp only[go_sem,k0,h1,ag,ai]
  simp only[go_sem,k0,h1,ai]
 simp only[az,aI]
 rcases k1:b.kind==1 with _ | _
 rotate_left
 ·simp only[aW]
  rcases h1:decide (b.gen≥0) with _ | _
  ·simp only[go_sem,k0,k1,h1,ag]
  simp only[go_sem,k0,k1,h1]
  refine CW (dE cs b.c0 hf.1) fun _=>?_
  rcases h2:OV cs b.c0 with _ | _
  ·simp only[go_sem,ag]
  simp only[go_sem,ai]
 simp only[az,aI]
 rcases k2:b.kind==2 with _ | _
 ·simp only[go_sem,k0,k1,k2,ag]
 simp only[go_sem,k0,k1,k2]
 refine CallK.mk _ (RD cs b.g hg hf.2) fun _=>?_
 rcases h1:decide (b.gen≥0) with _ | _
 ·simp only[go_sem,h1,ag]
 rcases h2:NR b.c0 with _ | _
 ·simp only[go_sem,h1,ag,aJ]
 simp only[go_sem,h1,ai]
theorem WV (cs:List Int) (b:DBuf) (hf:F6 b) (hg:AQ b.g):Ctr prog 148 [.c (.sl (cs.map intC)),.agg b.c] [.val (.c (.v (.bool (ZE cs b))))]:=by
 rw[Gp] at hf
 refine CM call148 func148 ntmps148 results148 fun hw=>?_
 unfold ZE
 rcases k0:b.kind==0 with _ | _
 rotate_left
 ·simp only[aW]
  rcases h1:decide (b.gen≥0) with _ | _
  ·simp only[go_sem,k0,h1,ag]
  simp only[go_sem,k0,h1]
  refine CW (ZF b.c0 hf.1) fun _=>?_
  rcases h2:NR b.c0 with _ | _
  ·simp only[go_sem,ag]
  simp only[go_sem,ai]
 simp only[az,aI]
 rcases k1:b.kind==1 with _ | _
 rotate_left
 ·simp only[aW]
  rcases h1:decide (b.gen≥0) with _ | _
  ·simp only[go_sem,k0,k1,h1,ag]
  simp only[go_sem,k0,k1,h1]
  refine CW (dF cs b.c0 hf.1) fun _=>?_
  rcases h2:OV cs b.c0 with _ | _
  ·simp only[go_sem,ag]
  simp only[go_sem,ai]
 simp only[az,aI]
 simp only[go_sem,k0,k1]
 refine CallK.mk _ (Xi cs b.g hg hf.2) fun _=>?_
 rcases k2:b.kind==2 with _ | _
 ·simp only[go_sem,k2,ag]
 rcases h1:decide (b.gen≥0) with _ | _
 ·simp only[go_sem,k2,h1,ag,aJ]
 simp only[go_sem,k2,h1]
 refine CW (ZF b.c0 hf.1) fun _=>?_
 rcases h2:NR b.c0 with _ | _
 ·simp only[go_sem,ag]
 simp only[go_sem,ai]
end Go.Proofs.YtnchiiikacemmaaGreat
