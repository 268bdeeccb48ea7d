/- A part. -/
import Derived.Test.YtnoldekcdlaahaaGreatAf
import Derived.Test.YtnoldekcdlaahaaGreatZc
import Derived.Test.YtnoldekcdlaahaaGreatXa
import Derived.Test.YtnoldekcdlaahaaGreatYt
set_option linter.unusedSimpArgs false
set_option linter.unusedVariables false
set_option maxHeartbeats 4000000
set_option maxRecDepth 10000
open Go.Proofs.Tryz
namespace Go.Proofs.YtnoldekcdlaahaaGreat
open Go.Vm
def Nz (cs:List Int) (p:DPred):Bool:=FN cs&&(JA cs 4 p&&decide ((CO 4 p:Int)≤8))
theorem qZ (cs:List Int) (p:DPred) (hc:cs.length≤1048576) (hp:A_ p):Ctr prog 351 [.c (.sl (cs.map intC)),.agg p.c] [.val (.c (.v (.bool (Nz cs p))))]:=by
 refine CM call351 func351 ntmps351 results351 fun hw=>?_
 simp only[go_sem,ae]
 refine AAT _ (Pg cs) fun _=>?_
 rcases h1:FN cs with _ | _
 ·simp only[go_sem,Nz,h1,ai]
 simp only[go_sem,h1]
 refine CW (UE cs hc 4 1 p AOq AOq hp) fun _=>?_
 rcases h2:JA cs 4 p with _ | _
 ·simp only[go_sem,Nz,h1,h2,ai,aH]
 simp only[go_sem,h1,h2]
 refine CW (Qo cs 4 p AOq hp h2) fun _=>?_
 simp only[go_sem,Nz,h1,h2,aj]
theorem qc (cs:List Int) (p:DPred) (hc:cs.length≤1048576) (hp:A_ p):Ctr prog 362 [.c (.sl (cs.map intC)),.agg p.c] [.val (.c (.v (.bool (Nz cs p))))]:=by
 refine CM call362 func362 ntmps362 results362 fun hw=>?_
 simp only[go_sem,ae]
 refine AAT _ (Ph cs) fun _=>?_
 rcases h1:FN cs with _ | _
 ·simp only[go_sem,Nz,h1,ai]
 simp only[go_sem,h1]
 refine AAT _ (by have:=Xr cs hc 4 p AOq hp; rw[show ((4:Nat):Int)=4 from rfl] at this; simpa only[go_sem] using this) fun _=>?_
 simp only[go_sem,h1]
 refine AAT _ (AL _ _ _) fun _=>?_
 have:Aa (D5 cs 4 p) 1 8=Nz cs p:=by
  unfold Nz D5
  rw[h1]
  rcases h2:JA cs 4 p with _ | _
  ·rfl
  ·have:1≤CO 4 p:=ADB 3 p
   simp[Aa]
   omega
 simp only[go_sem,this]
def AGI (q:DQuery):List Cl:=[.v (.int .i64 q.kind),.v (.int .i64 q.p.kind),.v (.int .i64 q.p.col),.v (.int .i64 q.p.op),.v (.int .i64 q.p.v.ty),.v (.int .i64 q.p.v.n),.v (.string q.p.v.s),.sl (q.p.l.map DPred.c),.v (.int .i64 q.col),.sl (q.out.map intC)]
@[go_sem] theorem AK4 (q:DQuery):AGI q = [.v (.int .i64 q.kind),.v (.int .i64 q.p.kind),.v (.int .i64 q.p.col),.v (.int .i64 q.p.op),.v (.int .i64 q.p.v.ty),.v (.int .i64 q.p.v.n),.v (.string q.p.v.s),.sl (q.p.l.map DPred.c),.v (.int .i64 q.col),.sl (q.out.map intC)]:=rfl
def MM (cs:List Int) (l:List Int):Bool:=l.all fun k=>Aa k 0 ((cs.length:Int)-1)
def Bo (cs:List Int) (q:DQuery):Bool:=
 Nz cs q.p&&(if(q.kind==1)=true then MM cs q.out&&((q.col==0)&&Aa q.out.length 1 3) else
  if(q.kind==2)=true then(q.col==0)&&((q.out.length:Int)==0) else
  if(q.kind==3)=true then Aa q.col 0 ((cs.length:Int)-1)&&(((cs[q.col.toNat]?).getD 0==1)&&((q.out.length:Int)==0)) else
  if(q.kind==4)=true then Aa q.col 0 ((cs.length:Int)-1)&&((q.out.length:Int)==0) else
  if(q.kind==5)=true then Aa q.col 0 ((cs.length:Int)-1)&&((q.out.length:Int)==0) else false)
theorem Ui (cs:List Int) (l:List Int) {k:Nat} (h:k<l.length):MM cs (l.drop k)=(Aa l[k] 0 ((cs.length:Int)-1)&&MM cs (l.drop (k+1))):=by
 unfold MM
 grind [aG]
theorem Tz (cs:List Int) (q:DQuery) (hc:cs.length≤1048576) (hq:Ee q):Ctr prog 298 [.c (.sl (cs.map intC)),.agg q.c] [.val (.c (.v (.bool (Bo cs q))))]:=by
 rw[F9] at hq
 have hol:=hq.2
 have hwl:IntKind.i64.wrap ((cs.length:Int)-1)=(cs.length:Int)-1:=wrap_i64 AOh AOh
 have hin:Aa q.col 0 ((cs.length:Int)-1)=true→∃ m:Nat,q.col=m∧m<cs.length:=by
  intro hh
  simp[Aa] at hh
  exact⟨q.col.toNat,AOh,AOh⟩
 refine CM call298 func298 ntmps298 results298 fun hw=>?_
 simp only[go_sem,ae]
 refine CW (qZ cs q.p hc hq.1) fun _=>?_
 rcases h1:Nz cs q.p with _ | _
 ·simp only[go_sem,Bo,h1,ai]
 rcases k1:(q.kind==1) with _ | _
 rotate_left
 ·have hr:Bo cs q=(MM cs q.out&&((q.col==0)&&Aa q.out.length 1 3)):=by simp[Bo,h1,k1]
  rw[hr]
  simp only[go_sem,ae,h1,k1]
  refine AB4 1 (A:=Nat) (fun k=>[(5,.c (.v (.int .i64 (k))))]) (fun _=>[⟨69,10,[AGI q],true,true⟩]) (fun k=>k≤q.out.length∧MM cs (q.out.drop k)=MM cs q.out) (fun k=>q.out.length-k) 0 ⟨⟨rfl,rfl⟩,rfl,az _,rfl⟩ ?_
  rintro k ⟨hk,hb⟩
  refine AOc (fun h=>?_) fun h=>?_
  ·have hk':k<q.out.length:=by simpa using h
   rw[Ui cs q.out hk'] at hb
   simp only[go_sem,ae,AA _ hk',hk',hwl]
   refine AAT _ (AP q.out[k] 0 _) fun _=>?_
   rcases hv:Aa q.out[k] 0 ((cs.length:Int)-1) with _ | _
   ·rw[hv,ai] at hb
    simp only[go_sem,ae,hv,← hb,ai]
   ·rw[hv,aj] at hb
    simp only[go_sem,ae,hv,wrap_i64 (n:=(k:Int)+1) AOh AOh]
    exact⟨k+1,⟨rfl,rfl⟩,rfl,⟨AOh,hb⟩,AOh⟩
  ·have hk':k=q.out.length:=by simp at h; omega
   rw[hk',aV] at hb
   have hb':MM cs q.out=true:=by rw[← hb]; rfl
   rw[hb',aj]
   rcases hA:(q.col==0) with _ | _
   ·simp only[go_sem,ae,hA,ai]
   ·simp only[go_sem,ae,hA,aj]
    refine AAT _ (AP q.out.length 1 3) fun _=>?_
    simp only[go_sem,ae,hA,aj]
 rcases k2:(q.kind==2) with _ | _
 rotate_left
 ·have hr:Bo cs q=((q.col==0)&&((q.out.length:Int)==0)):=by simp[Bo,h1,k1,k2]
  rw[hr]
  rcases hA:(q.col==0) with _ | _
  ·simp only[go_sem,ae,h1,k1,k2,hA,ai]
  ·simp only[go_sem,ae,h1,k1,k2,hA,aj]
 rcases k3:(q.kind==3) with _ | _
 rotate_left
 ·have hr:Bo cs q=(Aa q.col 0 ((cs.length:Int)-1)&&(((cs[q.col.toNat]?).getD 0==1)&&((q.out.length:Int)==0))):=by simp[Bo,h1,k1,k2,k3]
  rw[hr]
  simp only[go_sem,ae,h1,k1,k2,k3,hwl]
  refine AAT _ (AP q.col 0 _) fun _=>?_
  rcases c1:Aa q.col 0 ((cs.length:Int)-1) with _ | _
  ·simp only[go_sem,ae,c1,ai]
  obtain⟨m,hm,hml⟩:=hin c1
  have hgm:(cs[q.col.toNat]?).getD 0=cs[m]:=by rw[hm]; simp[hml]
  rw[hgm]
  rcases c2:(cs[m]==1) with _ | _
  ·simp only[go_sem,ae,c1,c2,hm,AA _ hml,hml,aj,ai]
  ·simp only[go_sem,ae,c1,c2,hm,AA _ hml,hml,aj]
 rcases k4:(q.kind==4) with _ | _
 rotate_left
 ·have hr:Bo cs q=(Aa q.col 0 ((cs.length:Int)-1)&&((q.out.length:Int)==0)):=by simp[Bo,h1,k1,k2,k3,k4]
  rw[hr]
  simp only[go_sem,ae,h1,k1,k2,k3,k4,hwl]
  exact AMv
 rcases k5:(q.kind==5) with _ | _
 rotate_left
 ·have hr:Bo cs q=(Aa q.col 0 ((cs.length:Int)-1)&&((q.out.length:Int)==0)):=by simp[Bo,h1,k1,k2,k3,k4,k5]
  rw[hr]
  simp only[go_sem,ae,h1,k1,k2,k3,k4,k5,hwl]
  exact AMv
 have hr:Bo cs q=false:=by simp[Bo,h1,k1,k2,k3,k4,k5]
 rw[hr]
 simp only[go_sem,ae,h1,k1,k2,k3,k4,k5]
theorem T_ (cs:List Int) (q:DQuery) (hc:cs.length≤1048576) (hq:Ee q):Ctr prog 311 [.c (.sl (cs.map intC)),.agg q.c] [.val (.c (.v (.bool (Bo cs q))))]:=by
 rw[F9] at hq
 have hol:=hq.2
 have hwl:IntKind.i64.wrap ((cs.length:Int)-1)=(cs.length:Int)-1:=wrap_i64 AOh AOh
 have hin:Aa q.col 0 ((cs.length:Int)-1)=true→∃ m:Nat,q.col=m∧m<cs.length:=by
  intro hh
  simp[Aa] at hh
  exact⟨q.col.toNat,AOh,AOh⟩
 refine CM call311 func311 ntmps311 results311 fun hw=>?_
 simp only[go_sem,ae]
 refine CW (qc cs q.p hc hq.1) fun _=>?_
 rcases h1:Nz cs q.p with _ | _
 ·simp only[go_sem,Bo,h1,ai]
 simp only[go_sem,ae,h1,hwl]
 refine AAT _ (AL q.col 0 _) fun _=>?_
 rcases c1:Aa q.col 0 ((cs.length:Int)-1) with _ | _
 ·rcases k1:(q.kind==1) with _ | _
  rotate_left
  ·exact AGg
  rcases k2:(q.kind==2) with _ | _
  rotate_left
  ·exact AL5
  have hr:Bo cs q=false:=by simp[Bo,h1,k1,k2,c1]
  rw[hr]
  rcases k3:(q.kind==3) with _ | _
  rotate_left
  ·simp only[go_sem,ae,h1,c1,k1,k2,k3]
  rcases k4:(q.kind==4) with _ | _
  rotate_left
  ·simp only[go_sem,ae,h1,c1,k1,k2,k3,k4]
  rcases k5:(q.kind==5) with _ | _
  rotate_left
  ·exact ANH
  exact ANH
 ·rcases k1:(q.kind==1) with _ | _
  rotate_left
  ·exact AGg
  rcases k2:(q.kind==2) with _ | _
  rotate_left
  ·exact AL5
  rcases k3:(q.kind==3) with _ | _
  rotate_left
  ·obtain⟨m,hm,hml⟩:=hin c1
   have hgm:(cs[q.col.toNat]?).getD 0=cs[m]:=by rw[hm]; simp[hml]
   have hr:Bo cs q=((cs[m]==1)&&((q.out.length:Int)==0)):=by simp only[Bo,h1,k1,k2,k3,c1,hgm]; rfl
   rw[hr]
   rcases c2:((q.out.length:Int)==0) with _ | _
   ·simp only[go_sem,ae,h1,c1,c2,k1,k2,k3,aH]
   ·simp only[go_sem,ae,h1,c1,c2,k1,k2,k3,hm,AA _ hml,hml,aS]
  have hr2:(q.kind==4)=true∨(q.kind==5)=true→Bo cs q=((q.out.length:Int)==0):=by
   intro h45
   rcases h45 with h45 | h45
   ·simp[Bo,h1,k1,k2,k3,h45,c1]
   ·simp[Bo,h1,k1,k2,k3,h45,c1]
  rcases k4:(q.kind==4) with _ | _
  rotate_left
  ·rw[hr2 (.inl k4)]
   simp only[go_sem,ae,h1,c1,k1,k2,k3,k4]
  rcases k5:(q.kind==5) with _ | _
  rotate_left
  ·rw[hr2 (.inr k5)]
   exact ANH
  have hr:Bo cs q=false:=by simp[Bo,h1,k1,k2,k3,k4,k5]
  rw[hr]
  exact ANH
theorem allA {N:Nat} {a:Ob} (ha:BD N a=true) : [a].all (BD N)=true:=by simp[ha]
theorem Rq (l:List DRow) (hl:fitS Gu l):Ctr prog 237 [.c (.sl (l.map DRow.c))] [.own 204 2 (l.map DRow.o) true]:=by
 refine CM call237 func237 ntmps237 results237 fun hw=>?_
 have hlen:=hl.1
 simp only[go_sem,ae]
 refine AB6 [6] (A:=Nat×List DRow) (fun x=>[(9,.c (.v (.int .i64 (x.1)))),(3,.c (.ref 0))]) (fun x=>[⟨204,2,x.2.map DRow.o,true,true⟩]) (fun x=>x.1≤l.length∧x.2.length≤x.1∧x.2++l.drop x.1=l) (fun x=>l.length-x.1) (0,[]) (AB3 [(0,false)] ⟨rfl,rfl,rfl,trivial⟩ rfl) ⟨az _,aT _,rfl⟩ ?_
 rintro⟨k,out⟩ ⟨hk,hol,hb⟩
 dsimp only at hk hol hb
 refine AOc (fun h=>?_) fun h=>?_
 ·have hk':k<l.length:=by simpa using h
  rw[aG hk'] at hb
  have hr:=hl.2 _ (ax hk')
  rw[Ja] at hr
  have hrl:=hr.1
  have hol2:out.length+1≤2147483648:=AOh
  simp only[go_sem,ae,AA _ hk',hk',aI]
  refine CW (Ox l[k] hrl) fun _=>?_
  simp only[go_sem,bC,bU,ae,AA _ hk',hk',hol2,N8,aC,aI,wrap_i64 (n:=(k:Int)+1) AOh AOh]
  refine⟨(k+1,out ++ [l[k]]),ACS [(4,true),(2,false)] 1 0 ⟨rfl,rfl,Jz DRow.o_nr _ out rfl,AY DVal.pure,trivial⟩ ⟨out.length,out.map DRow.o ++ [DRow.o l[k]],_,DRow.o l[k],_,⟨kL 0,rfl,Jy DRow.o_nr _ out _ _,AOi,rfl⟩,
   ⟨rfl,rfl,rfl,rfl,rfl,rfl,DD _,AO1,fun l hl=>AOv⟩,⟨rfl, ?tr⟩, ?eq⟩,⟨hk',AOj,(bM _ _ _).trans hb⟩,AOl⟩
  case tr=>unfold BO; rw[B_]; exact allA (AU (BF _))
  case eq=>unfold BO; rw[B_,XC]; rfl
 ·exact AMj
theorem iP (l:List DRow) (hl:fitS Gu l):Ctr prog 188 [.c (.sl (l.map DRow.c))] [.own 204 2 (l.map DRow.o) true]:=by
 refine CM call188 func188 ntmps188 results188 fun hw=>?_
 have hlen:=hl.1
 simp only[go_sem,ae]
 refine AB6 [6] (A:=Nat×List DRow) (fun x=>[(4,.c (.v (.int .i64 (x.1)))),(3,.c (.ref 0))]) (fun x=>[⟨204,2,x.2.map DRow.o,true,true⟩]) (fun x=>x.1≤l.length∧x.2.length≤x.1∧x.2++l.drop x.1=l) (fun x=>l.length-x.1) (0,[]) (AB3 [(0,false)] ⟨rfl,rfl,rfl,trivial⟩ rfl) ⟨az _,aT _,rfl⟩ ?_
 rintro⟨k,out⟩ ⟨hk,hol,hb⟩
 dsimp only at hk hol hb
 refine AOc (fun h=>?_) fun h=>?_
 ·have hk':k<l.length:=by simpa using h
  rw[aG hk'] at hb
  have hr:=hl.2 _ (ax hk')
  rw[Ja] at hr
  have hrl:=hr.1
  have hol2:out.length+1≤2147483648:=AOh
  simp only[go_sem,ae,AA _ hk',hk',aI]
  refine CW (Ri l[k] hrl) fun _=>?_
  simp only[go_sem,bC,bU,ae,AA _ hk',hk',hol2,N8,aC,aI,wrap_i64 (n:=(k:Int)+1) AOh AOh]
  refine⟨(k+1,out ++ [l[k]]),ACS [(4,true),(1,false)] 1 0 ⟨rfl,rfl,Jz DRow.o_nr _ out rfl,AY DVal.pure,trivial⟩ ⟨out.length,out.map DRow.o ++ [DRow.o l[k]],_,DRow.o l[k],_,⟨kL 0,rfl,Jy DRow.o_nr _ out _ _,AOi,rfl⟩,
   ⟨rfl,rfl,rfl,rfl,rfl,rfl,DD _,AO1,fun l hl=>AOv⟩,⟨rfl, ?tr⟩, ?eq⟩,⟨hk',AOj,(bM _ _ _).trans hb⟩,AOl⟩
  case tr=>unfold BO; rw[B_]; exact allA (AU (BF _))
  case eq=>unfold BO; rw[B_,XC]; rfl
 ·exact AMj
def JY:Int→List DRef→List DRef→Bool
 | _,_,[]=>true
 | e,seen,r::l=>Ed r&&((r.first==e)&&(!Ep seen r.buf&&JY (IntKind.i64.wrap (e+r.many)) (seen ++ [r]) l))
def MN (d:DDir):Bool:=!decide (d.ver<0)&&(!decide ((d.l.length:Int)>8)&&JY 0 [] d.l)
def PS (l:List DRef) (k:Nat):Int:=(l.take k).foldl (fun e r=>IntKind.i64.wrap (e+r.many)) 0
theorem Yk (l:List DRef) (e:Int) {k:Nat} (h:k<l.length):JY e (l.take k) (l.drop k)=(Ed l[k]&&((l[k].first==e)&&(!Ep (l.take k) l[k].buf&&JY (IntKind.i64.wrap (e+l[k].many)) (l.take (k+1)) (l.drop (k+1))))):=by
 rw[aG h,JY,List.take_add_one,au h]
 rfl
theorem QP (l:List DRef) {k:Nat} (h:k<l.length):PS l (k+1)=IntKind.i64.wrap (PS l k+l[k].many):=by
 unfold PS
 rw[List.take_add_one,au h,abD]
 rfl
theorem ALW (l:List DRef):((l.map DRef.c).all fun r=>r.length==5)=true:=aP.2 fun r hr=>by
 obtain⟨x,_,rfl⟩:=kN.1 hr
 rfl
theorem Yl (d:DDir) (hl:d.l.length≤1048576):Ctr prog 103 [.agg d.c] [.val (.c (.v (.bool (MN d))))]:=by
 refine CM call103 func103 ntmps103 results103 fun hw=>?_
 unfold MN
 rcases h1:decide (d.ver<0) with _ | _
 rotate_left
 ·simp only[go_sem,h1,aJ,ai]
 rcases h2:decide ((d.l.length:Int)>8) with _ | _
 rotate_left
 ·simp only[go_sem,h1,h2,aJ,aK,aj,ai]
 simp only[go_sem,h1,h2,aK,aj]
 refine AB4 1 (A:=Nat) (fun x=>[(18,.c (.v (.int .i64 (x)))),(3,.c (.v (.int .i64 (PS d.l x))))]) (fun _=>[⟨38,2,[d.c],true,true⟩]) (fun x=>x≤d.l.length∧JY (PS d.l x) (d.l.take x) (d.l.drop x)=JY 0 [] d.l) (fun x=>d.l.length-x) 0 ⟨⟨rfl,rfl⟩,rfl,az _,rfl⟩ ?_
 rintro k ⟨hk,hb⟩
 refine AOb (fun h=>?_) fun h=>?_
 ·have hk':k<d.l.length:=by simpa using h
  rw[Yk _ _ hk',← QP _ hk'] at hb
  simp only[go_sem,AA _ hk',hk']
  refine AAm ?_
  simp only[go_sem,AA _ hk',hk']
  refine CY (Rl d.l[k]) ?_
  rcases h3:Ed d.l[k] with _ | _
  ·rw[h3,ai] at hb
   simp only[go_sem,h3,← hb]
  rcases h4:d.l[k].first==PS d.l k with _ | _
  ·have g4:(d.l[k].first != PS d.l k)=true:=by simp[bne,h4]
   rw[h3,h4,ai,aH] at hb
   simp only[go_sem,h3,g4,← hb]
  have g4:(d.l[k].first != PS d.l k)=false:=by simp[bne,h4]
  have hmt:List.take k (d.l.map DRef.c)=(d.l.take k).map DRef.c:=(bV ..).symm
  simp only[go_sem,AA _ hk',hk',h3,g4,hmt,hk,ALW,az,aa8,and_self,aX]
  refine CY (qX ⟨0,d.l.take k⟩ d.l[k].buf AOj) ?_
  rcases h5:Ep (d.l.take k) d.l[k].buf with _ | _
  ·rw[h3,h4,h5,aj,aj,aK,aj] at hb
   simp only[go_sem,AA _ hk',hk',h3,g4,h5,← QP _ hk',wrap_i64 (n:=(k:Int)+1) AOh AOh]
   exact ALy
  ·rw[h5,aJ,ai,aH,aH] at hb
   simp only[go_sem,AA _ hk',hk',h3,g4,h5,← hb]
 ·have hk':k=d.l.length:=by simp at h; omega
  subst hk'
  rw[aV] at hb
  simp only[go_sem,← hb,JY]
theorem Ym (d:DDir) (hl:d.l.length≤1048576):Ctr prog 83 [.agg d.c] [.val (.c (.v (.bool (MN d))))]:=by
 refine CM call83 func83 ntmps83 results83 fun hw=>?_
 unfold MN
 rcases h2:decide ((d.l.length:Int)>8) with _ | _
 rotate_left
 ·simp only[go_sem,h2,aJ,ai,aH]
 simp only[go_sem,h2,aK,aj]
 refine AB4 1 (A:=Nat) (fun x=>[(4,.c (.v (.int .i64 (x)))),(3,.c (.v (.int .i64 (PS d.l x))))]) (fun _=>[⟨38,2,[d.c],true,true⟩]) (fun x=>x≤d.l.length∧JY (PS d.l x) (d.l.take x) (d.l.drop x)=JY 0 [] d.l) (fun x=>d.l.length-x) 0 ⟨⟨rfl,rfl⟩,rfl,az _,rfl⟩ ?_
 rintro k ⟨hk,hb⟩
 refine AOb (fun h=>?_) fun h=>?_
 ·have hk':k<d.l.length:=by simpa using h
  rw[Yk _ _ hk',← QP _ hk'] at hb
  simp only[go_sem,AA _ hk',hk']
  refine CW (Rn d.l[k]) fun _=>?_
  rcases h3:Ed d.l[k] with _ | _
  ·rw[h3,ai] at hb
   simp only[go_sem,h3,← hb,aH]
  rcases h4:d.l[k].first==PS d.l k with _ | _
  ·have g4:(d.l[k].first != PS d.l k)=true:=by simp[bne,h4]
   rw[h3,h4,ai,aH] at hb
   simp only[go_sem,AA _ hk',hk',h3,g4,← hb,aH]
  have g4:(d.l[k].first != PS d.l k)=false:=by simp[bne,h4]
  have htl:(d.l.take k).length=k:=AOj
  have hti:∀ j (h:j<(d.l.take k).length),(d.l.take k)[j]=d.l[j]' AOh:=fun j h=>AOi
  simp only[go_sem,AA _ hk',hk',h3,g4,← QP _ hk']
  refine AB4 1 (A:=Nat) (fun x=>[(5,.c (.v (.int .i64 (x))))]) (fun _=>[⟨38,2,[d.c],true,true⟩]) (Ea (d.l.take k) fun r=>!(r.buf==d.l[k].buf)) (fun x=>k-x) 0 ⟨⟨rfl,rfl⟩,rfl,Ce⟩ ?_
  intro j hj
  refine AOb (fun h=>?_) fun h=>?_
  ·have hjk:j<k:=by simpa using h
   have hj':j<d.l.length:=AOh
   have hj2:j<(d.l.take k).length:=AOh
   rcases h1:d.l[j].buf==d.l[k].buf with _ | _
   ·simp only[go_sem,AA _ hk',hk',AA _ hj',hj',h1]
    refine AAm ?_
    simp only[go_sem,AA _ hk',hk',AA _ hj',hj',h1,wrap_i64 (n:=(j:Int)+1) AOh AOh]
    exact⟨j+1,⟨rfl,rfl⟩,rfl,Ah hj2 hj (by rw[hti]; simp[h1]),AOh⟩
   ·have h5:Ep (d.l.take k) d.l[k].buf=true:=qW (p:=fun r:DRef=>r.buf==d.l[k].buf) hj2 (by rw[hti]; exact h1)
    rw[h5,aJ,ai,aH,aH] at hb
    simp only[go_sem,AA _ hk',hk',AA _ hj',hj',h1]
    refine AAm ?_
    simp only[go_sem,AA _ hk',hk',AA _ hj',hj',h1,← hb,aH]
  ·have hjk:j=k:=by have:=hj.1; rw[htl] at this; simp at h; omega
   subst hjk
   have h5:Ep (d.l.take j) d.l[j].buf=false:=AAJ (by rw[htl]; exact hj)
   rw[h3,h4,h5,aj,aj,aK,aj] at hb
   simp only[go_sem,wrap_i64 (n:=(j:Int)+1) AOh AOh]
   exact⟨j+1,⟨rfl,rfl⟩,rfl,⟨hk',hb⟩,AOh⟩
 ·have hk':k=d.l.length:=by simp at h; omega
  subst hk'
  rw[aV] at hb
  simp only[go_sem,← hb,JY,aS]
  rcases h1:decide (d.ver<0) with _ | _<;>simp at h1<;>simp[h1]<;>omega
def KC (cs:List Int) (next i:Int) (s:DSlot):Bool:=Oy s.ins&&(!(decide (i≥next)&&(s.ins != 0))&&(!((s.ins==0)&&decide ((s.l.length:Int)>0)) && !((s.ins != 0) && !fits cs s.l)))
def KD (cs:List Int) (next:Int):Nat→List DSlot→Bool
 | _,[]=>true
 | i,s::l=>KC cs next i s&&KD cs next (i+1) l
theorem WQ (cs:List Int) (next:Int) (l:List DSlot) {k:Nat} (h:k<l.length):KD cs next k (l.drop k)=(KC cs next k l[k]&&KD cs next (k+1) (l.drop (k+1))):=by
 rw[aG h,KD]
def QQ (cs:List Int) (c:DChunk):Bool:=Aa c.l.length 1 4&&(Aa c.next 0 c.l.length&&KD cs c.next 0 c.l)
theorem jh (cs:List Int) (c:DChunk) (hc:F_ c):Ctr prog 305 [.c (.sl (cs.map intC)),.agg c.c] [.val (.c (.v (.bool (QQ cs c))))]:=by
 rw[EE] at hc
 have hl:=hc.1
 refine CM call305 func305 ntmps305 results305 fun hw=>?_
 unfold QQ
 simp only[go_sem]
 refine AAT _ (AL c.l.length 1 4) fun _=>?_
 rcases h1:Aa c.l.length 1 4 with _ | _
 ·exact AMH
 simp only[go_sem,h1]
 refine AAT _ (AL c.next 0 c.l.length) fun _=>?_
 rcases h2:Aa c.next 0 c.l.length with _ | _
 ·simp only[go_sem,h1,h2,ai,aj]
 simp only[go_sem,h1,h2,aj]
 refine AB4 1 (A:=Nat) (fun x=>[(24,.c (.v (.int .i64 (x))))]) (fun _=>[⟨140,2,[c.c],true,true⟩]) (fun x=>x≤c.l.length∧KD cs c.next x (c.l.drop x)=KD cs c.next 0 c.l) (fun x=>c.l.length-x) 0 ⟨⟨rfl,rfl⟩,rfl,az _,rfl⟩ ?_
 rintro k ⟨hk,hb⟩
 refine AOb (fun h=>?_) fun h=>?_
 ·have hk':k<c.l.length:=by simpa using h
  rw[WQ _ _ _ hk'] at hb
  simp only[go_sem,AA _ hk',hk']
  refine AAT _ (WL c.l[k].ins) fun _=>?_
  rcases h3:Oy c.l[k].ins with _ | _
  ·rw[KC,h3,ai,ai] at hb
   simp only[go_sem,h3,← hb]
  rcases h4:c.l[k].ins==0 with _ | _
  ·have g4:(c.l[k].ins != 0)=true:=by simp[bne,h4]
   rcases h5:decide ((k:Int)≥c.next) with _ | _
   rotate_left
   ·rw[KC,h3,g4,h5] at hb
    simp only[aS,aJ,ai,aH] at hb
    simp only[go_sem,AA _ hk',hk',h3,g4,h5,← hb]
   simp only[go_sem,AA _ hk',hk',h3,h4,g4,h5]
   refine AAT _ (Pe cs c.l[k].l) fun _=>?_
   rcases h6:fits cs c.l[k].l with _ | _
   ·rw[KC,h3,h4,g4,h5,h6] at hb
    simp only[aS,aj,aJ,aK,ai,aH] at hb
    simp only[go_sem,h6,← hb]
   ·rw[KC,h3,h4,g4,h5,h6] at hb
    simp only[aS,aj,aJ,aK,ai,aH] at hb
    simp only[go_sem,h6,wrap_i64 (n:=(k:Int)+1) AOh AOh]
    exact ALy
  ·have g4:(c.l[k].ins != 0)=false:=by simp[bne,h4]
   rcases h6:decide ((c.l[k].l.length:Int)>0) with _ | _
   ·rw[KC,h3,h4,g4,h6] at hb
    simp only[aS,aj,aJ,aK,ai,aH] at hb
    rcases h5:decide ((k:Int)≥c.next) with _ | _<;>simp only[go_sem,AA _ hk',hk',h3,h4,g4,h5,h6,wrap_i64 (n:=(k:Int)+1) AOh AOh] <;>
     exact ALy
   ·rw[KC,h3,h4,g4,h6] at hb
    simp only[aS,aj,aJ,aK,ai,aH] at hb
    rcases h5:decide ((k:Int)≥c.next) with _ | _<;>simp only[go_sem,AA _ hk',hk',h3,h4,g4,h5,h6,← hb]
 ·have hk':k=c.l.length:=by simp at h; omega
  subst hk'
  rw[aV] at hb
  simp only[go_sem,← hb,KD]
theorem ji (cs:List Int) (c:DChunk) (hc:F_ c):Ctr prog 293 [.c (.sl (cs.map intC)),.agg c.c] [.val (.c (.v (.bool (QQ cs c))))]:=by
 rw[EE] at hc
 have hl:=hc.1
 refine CM call293 func293 ntmps293 results293 fun hw=>?_
 unfold QQ
 simp only[go_sem]
 refine AB4 1 (A:=Nat) (fun x=>[(5,.c (.v (.int .i64 (x))))]) (fun _=>[⟨140,2,[c.c],true,true⟩]) (fun x=>x≤c.l.length∧KD cs c.next x (c.l.drop x)=KD cs c.next 0 c.l) (fun x=>c.l.length-x) 0 ⟨⟨rfl,rfl⟩,rfl,az _,rfl⟩ ?_
 rintro k ⟨hk,hb⟩
 refine AOb (fun h=>?_) fun h=>?_
 ·have hk':k<c.l.length:=by simpa using h
  rw[WQ _ _ _ hk'] at hb
  simp only[go_sem,AA _ hk',hk']
  refine AAT _ (QO c.l[k].ins) fun _=>?_
  rcases h3:Oy c.l[k].ins with _ | _
  ·rw[KC,h3,ai,ai] at hb
   simp only[go_sem,h3,← hb,aH]
  rcases h4:c.l[k].ins==0 with _ | _
  ·have g4:(c.l[k].ins != 0)=true:=by simp[bne,h4]
   rcases h5:decide ((k:Int)≥c.next) with _ | _
   rotate_left
   ·rw[KC,h3,g4,h5] at hb
    simp only[aS,aJ,ai,aH] at hb
    simp only[go_sem,AA _ hk',hk',h3,h4,g4,h5,← hb,aH]
   simp only[go_sem,AA _ hk',hk',h3,h4,g4,h5]
   refine AAT _ (PZ cs c.l[k].l) fun _=>?_
   rcases h6:fits cs c.l[k].l with _ | _
   ·rw[KC,h3,h4,g4,h5,h6] at hb
    simp only[aS,aj,aJ,aK,ai,aH] at hb
    simp only[go_sem,h6,← hb,aH]
   ·rw[KC,h3,h4,g4,h5,h6] at hb
    simp only[aS,aj,aJ,aK,ai,aH] at hb
    simp only[go_sem,h6,wrap_i64 (n:=(k:Int)+1) AOh AOh]
    exact ALy
  ·have g4:(c.l[k].ins != 0)=false:=by simp[bne,h4]
   rcases h6:decide ((c.l[k].l.length:Int)>0) with _ | _
   ·rw[KC,h3,h4,g4,h6] at hb
    simp only[aS,aj,aJ,aK,ai,aH] at hb
    simp only[go_sem,AA _ hk',hk',h3,h4,g4,h6,wrap_i64 (n:=(k:Int)+1) AOh AOh]
    exact ALy
   ·rw[KC,h3,h4,g4,h6] at hb
    simp only[aS,aj,aJ,aK,ai,aH] at hb
    simp only[go_sem,AA _ hk',hk',h3,h4,g4,h6,← hb,aH]
 ·have hk':k=c.l.length:=by simp at h; omega
  subst hk'
  rw[aV] at hb
  simp only[go_sem,← hb,KD,aS]
  refine AAT _ (AP c.l.length 1 4) fun _=>?_
  rcases h1:Aa c.l.length 1 4 with _ | _
  ·exact AMH
  simp only[go_sem,h1]
  refine AAT _ (AP c.next 0 c.l.length) fun _=>?_
  simp only[go_sem,aj]
def PT (c:DChunk):Bool:=(c.next==0)&&((c.l.length:Int)==0)
noncomputable def iQ (cs:List Int) (b:DBuf):Bool:=
 if(b.kind==0)=true then decide (b.gen≥0)&&(PT b.c0&&((b.g.length:Int)==0)) else
 if(b.kind==1)=true then decide (b.gen≥0)&&(QQ cs b.c0&&((b.g.length:Int)==0)) else
 (b.kind==2)&&(decide (b.gen≥0)&&(PT b.c0&&(DK cs b.g).isSome))
theorem AAL (c:DChunk) (hc:F_ c):Ctr prog 304 [.agg c.c,.agg FQ.c] [.val (.c (.v (.bool (PT c))))]:=by
 rw[EE] at hc
 have hl:=hc.1
 refine CM call304 func304 ntmps304 results304 fun hw=>?_
 rcases h1:c.next==0 with _ | _
 ·have g1:(c.next != 0)=true:=by simp[bne,h1]
  simp only[go_sem,g1,h1,FQ,PT,ai]
 have g1:(c.next != 0)=false:=AQC
 rcases h2:((c.l.length:Int)==0) with _ | _
 ·have g2:((c.l.length:Int) != 0)=true:=by simp only[bne,h2,aK]
  simp only[go_sem,g1,h1,g2,h2,FQ,PT,cu,y7,abI,aH]
 have g2:((c.l.length:Int) != 0)=false:=by simp only[bne,h2,aJ]
 have hn:c.l = []:=APP
 simp only[go_sem,g1,h1,g2,h2,FQ,PT,cu,y7,abI,aS,hn,aA]
 refine AB4 2 (A:=Unit) (fun _=>[]) (fun _=>[⟨140,2,[[.v (.int .i64 c.next),.sl []]],true,true⟩,⟨140,2,[[.v (.int .i64 0),.sl []]],true,true⟩]) (fun _=>True) (fun _=>0) () ⟨⟨rfl,rfl⟩,rfl,trivial⟩ ?_
 intro _ _
 simp only[go_sem,Int.lt_irrefl,abK,aB]
theorem iR (c:DChunk) (hc:F_ c):Ctr prog 292 [.agg c.c] [.val (.c (.v (.bool (PT c))))]:=by
 refine CM call292 func292 ntmps292 results292 fun hw=>?_
 rcases h1:c.next==0 with _ | _
 ·simp only[go_sem,h1,PT,ai]
 ·simp only[go_sem,h1,PT,aj]
theorem xI (cs:List Int) (b:DBuf) (hf:IE b) (hg:Ad b.g):Ctr prog 221 [.c (.sl (cs.map intC)),.agg b.c] [.val (.c (.v (.bool (iQ cs b))))]:=by
 rw[H9] at hf
 refine CM call221 func221 ntmps221 results221 fun hw=>?_
 unfold iQ
 simp only[go_sem]
 refine AAT _ (by have:=AAL b.c0 hf.1; simpa only[go_sem,FQ,cu] using this) fun _=>?_
 rcases k0:b.kind==0 with _ | _
 rotate_left
 ·simp only[aX]
  rcases h1:decide (b.gen≥0) with _ | _
  ·simp only[go_sem,k0,h1,ai]
  rcases h2:PT b.c0 with _ | _
  ·simp only[go_sem,k0,h1,h2,ai,aj]
  simp only[go_sem,k0,h1,h2,aj]
 simp only[aC,aW]
 rcases k1:b.kind==1 with _ | _
 rotate_left
 ·simp only[aX]
  rcases h1:decide (b.gen≥0) with _ | _
  ·simp only[go_sem,k0,k1,h1,ai]
  simp only[go_sem,k0,k1,h1]
  refine CW (jh cs b.c0 hf.1) fun _=>?_
  exact AN1
 simp only[aC,aW]
 rcases k2:b.kind==2 with _ | _
 ·simp only[go_sem,k0,k1,k2,ai]
 simp only[go_sem,k0,k1,k2]
 refine AAT _ (UY cs b.g hg hf.2) fun _=>?_
 rcases h1:decide (b.gen≥0) with _ | _
 ·simp only[go_sem,h1,ai,aH]
 rcases h2:PT b.c0 with _ | _
 ·simp only[go_sem,h1,h2,ai,aj,aH]
 simp only[go_sem,h1,h2,aj]
theorem Yn (cs:List Int) (b:DBuf) (hf:IE b) (hg:Ad b.g):Ctr prog 193 [.c (.sl (cs.map intC)),.agg b.c] [.val (.c (.v (.bool (iQ cs b))))]:=by
 rw[H9] at hf
 refine CM call193 func193 ntmps193 results193 fun hw=>?_
 unfold iQ
 rcases k0:b.kind==0 with _ | _
 rotate_left
 ·simp only[aX]
  rcases h1:decide (b.gen≥0) with _ | _
  ·simp only[go_sem,k0,h1,ai]
  simp only[go_sem,k0,h1]
  refine CW (iR b.c0 hf.1) fun _=>?_
  rcases h2:PT b.c0 with _ | _
  ·simp only[go_sem,h2,ai,aj]
  simp only[go_sem,h2,aj]
 simp only[aC,aW]
 rcases k1:b.kind==1 with _ | _
 rotate_left
 ·simp only[aX]
  rcases h1:decide (b.gen≥0) with _ | _
  ·simp only[go_sem,k0,k1,h1,ai]
  simp only[go_sem,k0,k1,h1]
  refine CW (ji cs b.c0 hf.1) fun _=>?_
  exact AN1
 simp only[aC,aW]
 simp only[go_sem,k0,k1]
 refine AAT _ (fO cs b.g hg hf.2) fun _=>?_
 rcases k2:b.kind==2 with _ | _
 ·simp only[go_sem,k2,ai]
 rcases h1:decide (b.gen≥0) with _ | _
 ·simp only[go_sem,k2,h1,ai,aH]
 simp only[go_sem,k2,h1]
 refine CW (iR b.c0 hf.1) fun _=>?_
 rcases h2:PT b.c0 with _ | _
 ·simp only[go_sem,h2,ai,aj,aH]
 simp only[go_sem,h2,aj]
def Az (r:DRef) (id:Int):Bool:=decide (r.first≥0)&&(decide (id≥r.first)&&decide (IntKind.i64.wrap (id-r.first)<r.many))
noncomputable def PU (w:DWorld) (b:DBuf):Bool:=iQ w.c0.cols b&&b.c0.l.all fun s=>!decide (s.ins>w.t)
def PV (t m:Int):Bool:=Oy m && !decide (m>t)
noncomputable def lg (w:DWorld) (r:DRef):List DRow:=if(r.kind==2&&there w r)=true then C_ w r else []
noncomputable def Rt (w:DWorld) (r:DRef):Bool:=there w r&&(!((r.kind==1)&&(r.many != w.c0.slots))&&(lg w r).all fun x=>Az r x.id)
def Lt (w:DWorld) (d:DDead):Bool:=match Qd w d.buf with
 | none=>false
 | some b=>(b.gen==d.gen)&&Aa d.at0 0 w.e
def qf (w:DWorld) (i:Nat):Nat:=w.x.countP (fun d=>d.buf==(i:Int))+w.tasks.countP (fun t=>t.own==(i:Int)+1)
def QR (n:Int) (b:DBuf):Bool:=!(((b.kind==0)&&decide (n>0))||((b.kind != 0)&&(n != 1)))
def QS (l:List DRef) (i:Nat):Nat:=l.countP (fun r=>r.buf==(i:Int))
def QT (w:DWorld) (i:Nat) (b:DBuf):Bool:=QR ((QS w.d.l i+qf w i:Nat):Int) b
def deed1 (w:DWorld) (d:DDeed):Bool:=Fg d&&(!decide (d.inv≥w.time)&&(!decide (d.lin≥w.time) && !decide (d.ret≥w.time)))
def looks (t:DTask):Bool:=(t.op != 0)&&decide (t.pc≥1)
def l0 (t:DTask):DRef:=t.l.headD ⟨0,0,0,0,0⟩
def AEp (w:DWorld) (t:DTask) (d:DDeed):Bool:=fits w.c0.cols t.r&&(NP t.r d.r&&((!Aa t.pc 2 4 && !Aa t.pc 6 7)||(((t.l.length:Int)==1)&&(((l0 t).kind==1)&&((t.pc==2)||decide (t.i<(l0 t).many))))))
def lh (w:DWorld) (t:DTask) (d:DDeed):Bool:=(t.id==d.id)&&(!Aa t.pc 2 7||(((t.l.length:Int)==1)&&(Az (l0 t) t.id&&(decide (t.id<(w.m.length:Int))&&(!Aa t.pc 3 4||((l0 t).kind==1))))))
noncomputable def qg (w:DWorld) (t:DTask) (r:DRef):Bool:=if(r.kind==1)=true then decide (t.j<r.many)&&(decide (t.pc<6)||decide (IntKind.i64.wrap (r.first+t.j)<(w.m.length:Int))) else
 decide (t.pc≥6)&&(match (C_ w r)[t.j.toNat]? with
  | none=>false
  | some x=>decide (x.id<(w.m.length:Int)))
noncomputable def xJ (w:DWorld) (t:DTask) (d:DDeed):Bool:=Bo w.c0.cols t.q&&(WP t.q d.q&&(!decide (t.ts>w.t)&&(!Aa t.pc 3 8||(!decide (t.i>(t.l.length:Int))&&((t.pc==3)||(match t.l[t.i.toNat]? with
 | none=>false
 | some r=>qg w t r))))))
def ABV (t:DTask):Bool:=!Aa t.pc 2 5||Aa (t.l.length:Int) 1 2
noncomputable def swB (w:DWorld) (t:DTask) (d:DDeed):Bool:=if(t.op==1)=true then AEp w t d else if(t.op==2)=true then lh w t d else if(t.op==3)=true then xJ w t d else ABV t
def WR (w:DWorld) (t:DTask) (kind:Int):Bool:=Aa t.own 1 w.b.length&&(match w.b[(t.own-1).toNat]? with
 | none=>false
 | some b=>b.kind==kind)
def iT (w:DWorld) (t:DTask):Int:=match w.b[(t.own-1).toNat]? with
 | none=>0
 | some b=>b.c0.l.length
def ownB (w:DWorld) (t:DTask):Bool:=if((t.op==1)&&(t.pc==8))=true then WR w t 1&&(iT w t==w.c0.slots) else if((t.op==4)&&Aa t.pc 4 5)=true then WR w t 2 else t.own==0
def Yo (k:Int) (t:DTask) (d:DDeed):Bool:=(d.task==k)&&((d.op==t.op)&&(d.ret == -1))
noncomputable def WS (w:DWorld) (k:Int) (t:DTask):Bool:=match w.deeds[t.h.toNat]? with
 | none=>false
 | some d=>Yo k t d&&(t.l.all (there w)&&(ownB w t&&swB w t d))
noncomputable def PW (w:DWorld) (k:Int) (t:DTask) (p:Int):Bool:=IJ t k&&(((p != -1)==looks t)&&((t.op==0)||WS w k t))
noncomputable def lq (w:DWorld):Bool:=((w.b.length:Int)==w.c0.bufs)&&w.b.all (PU w)
def Ru (w:DWorld):Bool:=w.m.all (PV w.t)&&((w.m.length:Int)==endOf w.d)
noncomputable def iU (w:DWorld):Bool:=w.d.l.all (Rt w)
def iV (w:DWorld):Bool:=w.x.all (Lt w)
noncomputable def Rw {α:Type} (l:List α) (p:Nat→α→Bool):Bool:=@decide (∀ k (h:k<l.length),p k l[k]=true) (Classical.propDecidable _)
theorem JL {α:Type} {l:List α} {p:Nat→α→Bool} {k:Nat} (h:k<l.length) (hp:p k l[k]=false):Rw l p=false:=by
 simp only[Rw,aaL]
 grind
def xK {α:Type} (l:List α) (p:Nat→α→Bool) (n:Nat):Prop:=n≤l.length∧∀ k (h:k<l.length),k<n→p k l[k]=true
theorem qh {α:Type} {l:List α} {p:Nat→α→Bool}:xK l p 0:=⟨az _,fun _ _ h=>AOh⟩
theorem Oa {α:Type} {l:List α} {p:Nat→α→Bool} {k:Nat} (hk:k<l.length) (h:xK l p k) (hc:p k l[k]=true):xK l p (k+1):=⟨hk,fun i h2 h3=>by
 by_cases e:i=k
 ·grind
 ·exact h.2 i h2 AOh⟩
theorem TP {α:Type} {l:List α} {p:Nat→α→Bool} (h:xK l p l.length):Rw l p=true:=by
 simp only[Rw,bf]
 exact fun k hk=>h.2 k hk hk
theorem TQ {α:Type} {l:List α} {p:Nat→α→Bool}:Rw l p=true↔∀ k (h:k<l.length),p k l[k]=true:=by
 simp only[Rw,bf]
noncomputable def qi (w:DWorld):Bool:=Rw w.tasks fun k t=>PW w k t (w.p[k]?.getD 0)
def Xl (w:DWorld):Bool:=w.deeds.all (deed1 w)
noncomputable def WT (w:DWorld):Bool:=Rw w.b (QT w)
def headB (w:DWorld):Bool:=Nw w.c0&&(Aa w.time 0 1000000&&(Aa w.t 1 1000000&&Aa w.e 0 1000000))
noncomputable def DY (w:DWorld):Bool:=headB w&&(MN w.d&&(!decide (w.d.ver>1000000)&&(lq w&&(Ru w&&(iU w&&(iV w&&(((w.tasks.length:Int)==5)&&(((w.p.length:Int)==5)&&(Oz w.p w.e&&(qi w&&(Xl w&&WT w)))))))))))
theorem iW (n:Nat):∀ (l:List DRef) (e:Int) (seen:List DRef),JY e seen l=true→(Ep seen n=true→QS l n=0)∧QS l n≤1
 | [],_,_,_=>⟨fun _=>rfl,az _⟩
 | r::l,e,seen,h=>by
  rw[JY] at h
  simp only[ay,aa4] at h
  obtain⟨_,_,h3,h4⟩:=h
  obtain⟨g1,g2⟩:=iW n l _ _ h4
  have ha:Ep (seen ++ [r]) n=(Ep seen n||(r.buf==(n:Int))):=by simp[Ep]
  rw[ha] at g1
  unfold QS at g1 g2 ⊢
  grind
theorem AGJ (l:List DRef) (n:Nat):(0<QS l n)↔Ep l n=true:=by
 unfold QS Ep
 simp_all
theorem ACp {d:DDir} (h:MN d=true) (n:Nat):QS d.l n=if Ep d.l n=true then 1 else 0:=by
 simp only[MN,ay] at h
 have h1:=(iW n _ _ _ h.2.2).2
 grind [AGJ]
theorem iY:∀ (l:List DRef) (e:Int) (seen:List DRef),JY e seen l=true→0≤e→e+l.length*1000000000≤9000000000000→∀ r∈l,Ed r=true∧0≤r.first∧r.first≤9000000000000
 | [],_,_,_,_,_=>AOi
 | r::l,e,seen,h,h0,hb=>by
  rw[JY] at h
  simp only[ay,ZE] at h
  obtain⟨h1,h2,h3,h4⟩:=h
  have hm:1≤r.many∧r.many≤1000000000:=by
   simp only[Ed,Aa,ay,bf] at h1
   exact h1.2.2.2
  have hl:((r::l).length:Int)=l.length+1:=AOi
  rw[hl] at hb
  have hw:IntKind.i64.wrap (e+r.many)=e+r.many:=wrap_i64 AOh AOh
  rw[hw] at h4
  intro x hx
  rcases dh.1 hx with rfl | hx
  ·grind
  ·exact iY l _ _ h4 AOh AOh x hx
theorem ACq {d:DDir} (h:MN d=true) {r:DRef} (hr:r∈d.l):Ed r=true∧0≤r.first∧r.first≤9000000000000:=by
 simp only[MN,ay,aa4,aaL] at h
 grind [iY]
def Uj (w:DWorld) (i:Nat) (b:DBuf):Bool:=QR (((if Ep w.d.l i=true then 1 else 0)+qf w i:Nat):Int) b
theorem xM {w:DWorld} (h:MN w.d=true) (i:Nat) (b:DBuf):Uj w i b=QT w i b:=by
 unfold Uj QT
 rw[ACp h]
theorem ACr {r:DRef} (h:Ed r=true) (h0:0≤r.first) (h1:r.first≤9000000000000) (id:Int) (hid : -9223372036854775808≤id∧id≤9223372036854775807):Az r id=Aa id r.first (IntKind.i64.wrap (IntKind.i64.wrap (r.first+r.many)-1)):=by
 have hm:1≤r.many∧r.many≤1000000000:=by
  simp only[Ed,Aa,ay,bf] at h
  exact h.2.2.2
 rw[wrap_i64 (n:=r.first+r.many) AOh AOh,wrap_i64 (n:=r.first+r.many-1) AOh AOh]
 unfold Az Aa
 grind [wrap_i64]
theorem AKI (n:Int):(!Aa n 2 4 && !Aa n 6 7)=(!Aa n 2 7||(n==5)):=by
 unfold Aa
 grind
theorem AII (n:Int) (h:Aa n 2 7=true) (b:Bool):(!Aa n 3 4||b)=(decide (n>4)||((n==2)||b)):=by
 simp only[Aa,ay,bf] at h
 have h:n=2∨n=3∨n=4∨n=5∨n=6∨n=7:=AOh
 rcases h with h | h | h | h | h | h<;>subst h<;>cases b<;>rfl
theorem D7 (r:DRef) (id:Int):Ctr prog 226 [.agg r.c,.c (.v (.int .i64 (id)))] [.val (.c (.v (.bool (Az r id))))]:=by
 refine CM call226 func226 ntmps226 results226 fun hw=>?_
 rcases h1:decide (r.first≥0) with _ | _
 ·simp only[go_sem,h1,Az,ai]
 rcases h2:decide (id≥r.first) with _ | _
 ·simp only[go_sem,h1,h2,Az,ai,aj]
 simp only[go_sem,h1,h2,Az,aj]
theorem PX {w:DWorld} (hf:AX w) {k:Nat} (hk:k<w.b.length):IE w.b[k]:=by
 rw[A8] at hf
 exact hf.2.2.1.2 _ (ax hk)
theorem NV {w:DWorld} (hf:AX w):w.tasks.length≤1048576:=by
 rw[A8] at hf
 exact hf.2.2.2.2.2.2.1.1
theorem xN {w:DWorld} (hf:AX w):w.b.length≤1048576:=by
 rw[A8] at hf
 exact hf.2.2.1.1
theorem AKJ {w:DWorld} (hf:AX w) {k:Nat} (hk:k<w.b.length):w.b[k].c0.l.length≤1048576:=by
 have:=PX hf hk
 rw[H9,EE] at this
 exact this.1.1
theorem AKK {w:DWorld} (hf:AX w):w.m.length≤1048576:=by
 rw[A8] at hf
 exact hf.2.2.2.1
theorem AIJ {w:DWorld} (hf:AX w):w.x.length≤1048576:=by
 rw[A8] at hf
 exact hf.2.2.2.2.1
theorem AGK {w:DWorld} (hf:AX w):w.p.length≤1048576:=by
 rw[A8] at hf
 exact hf.2.2.2.2.2.1
theorem lenD {w:DWorld} (hf:AX w):w.d.l.length≤1048576:=by
 rw[A8,H_] at hf
 exact hf.2.1
theorem ABW {w:DWorld} (hf:AX w):w.deeds.length≤1048576:=by
 rw[A8] at hf
 exact hf.2.2.2.2.2.2.2.1
theorem iZ (w:DWorld) (hf:AX w):Ctr prog 104 [.agg w.c] [.val (.c (.v (.bool (lq w))))]:=by
 refine CM call104 func104 ntmps104 results104 fun hw=>?_
 have hb:=xN hf
 unfold lq
 rcases h0:((w.b.length:Int)==w.c0.bufs) with _ | _
 ·exact ANZ
 have g0:((w.b.length:Int) != w.c0.bufs)=false:=by simp only[bne,h0,aJ]
 simp only[go_sem,g0,aj]
 refine AB4 1 (A:=Nat) (fun x=>[(17,.c (.v (.int .i64 (x))))]) (fun _=>[⟨44,14,[w.c],true,true⟩]) (Ea w.b (PU w)) (fun x=>w.b.length-x) 0 ⟨⟨rfl,rfl⟩,rfl,Ce⟩ ?_
 intro k hk
 refine AOb (fun h=>?_) fun h=>?_
 ·have hk':k<w.b.length:=by simpa using h
  simp only[go_sem,AA _ hk',hk']
  refine CW (xI w.c0.cols w.b[k] (PX hf hk') (Vu hw.1 hk')) fun _=>?_
  rcases h1:iQ w.c0.cols w.b[k] with _ | _
  ·simp only[go_sem,h1,BH (p:=PU w) hk' (by simp only[PU,h1,ai])]
  simp only[go_sem,h1]
  have hs:=AKJ hf hk'
  refine AB4 2 (A:=Nat) (fun x=>[(31,.c (.v (.int .i64 (x))))]) (fun _=>[⟨44,14,[w.c],true,true⟩,⟨142,5,[w.b[k].c],true,true⟩]) (Ea w.b[k].c0.l fun s=>!decide (s.ins>w.t)) (fun x=>w.b[k].c0.l.length-x) 0 ⟨⟨rfl,rfl⟩,rfl,Ce⟩ ?_
  intro j hj
  refine AOb (fun h=>?_) fun h=>?_
  ·have hj':j<w.b[k].c0.l.length:=by simpa using h
   rcases h2:decide (w.b[k].c0.l[j].ins>w.t) with _ | _
   ·simp only[go_sem,AA _ hj',hj',h2,wrap_i64 (n:=(j:Int)+1) AOh AOh]
    exact⟨j+1,⟨rfl,rfl⟩,rfl,Ah hj' hj (by simp only[h2,aK]),AOh⟩
   ·have hno:=BH (p:=fun s:DSlot=>!decide (s.ins>w.t)) hj' (by simp only[h2,aJ])
    simp only[go_sem,AA _ hj',hj',h2,BH (p:=PU w) hk' (by simp only[PU,hno,aH])]
  ·have hj':j=w.b[k].c0.l.length:=by have:=hj.1; simp at h; omega
   subst hj'
   have hyes:=CV hj
   simp only[go_sem,wrap_i64 (n:=(k:Int)+1) AOh AOh]
   exact⟨k+1,⟨rfl,rfl⟩,rfl,Ah hk' hk (by simp only[PU,h1,hyes,aS]),AOh⟩
 ·have hk':k=w.b.length:=by have:=hk.1; simp at h; omega
  subst hk'
  simp only[go_sem,CV hk]
theorem Yp (w:DWorld) (hf:AX w):Ctr prog 105 [.agg w.c] [.val (.c (.v (.bool (Ru w))))]:=by
 refine CM call105 func105 ntmps105 results105 fun hw=>?_
 have hb:=AKK hf
 unfold Ru
 simp only[go_sem]
 refine AB4 1 (A:=Nat) (fun x=>[(8,.c (.v (.int .i64 (x))))]) (fun _=>[⟨44,14,[w.c],true,true⟩]) (Ea w.m (PV w.t)) (fun x=>w.m.length-x) 0 ⟨⟨rfl,rfl⟩,rfl,Ce⟩ ?_
 intro k hk
 refine AOb (fun h=>?_) fun h=>?_
 ·have hk':k<w.m.length:=by simpa using h
  simp only[go_sem,AA _ hk',hk']
  refine AAT _ (WL w.m[k]) fun _=>?_
  rcases h1:Oy w.m[k] with _ | _
  ·simp only[go_sem,h1,BH (p:=PV w.t) hk' (by simp only[PV,h1,ai]),ai]
  rcases h2:decide (w.m[k]>w.t) with _ | _
  ·simp only[go_sem,h1,h2,wrap_i64 (n:=(k:Int)+1) AOh AOh]
   exact AOK
  ·simp only[go_sem,h1,h2,BH (p:=PV w.t) hk' (by simp only[PV,h1,h2]; rfl),ai]
 ·have hk':k=w.m.length:=by have:=hk.1; simp at h; omega
  subst hk'
  simp only[go_sem,CV hk,aj]
  try refine AAm ?_
  try simp only[go_sem]
  first | refine CY (Yg w.d (lenD hf)) ?_ | refine CW (Yg w.d (lenD hf)) fun _=>?_
  exact AIk
theorem Yq (w:DWorld) (hf:AX w):Ctr prog 88 [.agg w.c] [.val (.c (.v (.bool (Ru w))))]:=by
 refine CM call88 func88 ntmps88 results88 fun hw=>?_
 have hb:=AKK hf
 unfold Ru
 simp only[go_sem]
 refine AB4 1 (A:=Nat) (fun x=>[(3,.c (.v (.int .i64 (x))))]) (fun _=>[⟨44,14,[w.c],true,true⟩]) (Ea w.m (PV w.t)) (fun x=>w.m.length-x) 0 ⟨⟨rfl,rfl⟩,rfl,Ce⟩ ?_
 intro k hk
 refine AOb (fun h=>?_) fun h=>?_
 ·have hk':k<w.m.length:=by simpa using h
  simp only[go_sem,AA _ hk',hk']
  try refine AAm ?_
  try simp only[go_sem,AA _ hk',hk']
  first | refine AB5 _ (QO w.m[k]) ?_ | refine AAT _ (QO w.m[k]) fun _=>?_
  rcases h1:Oy w.m[k] with _ | _
  ·simp only[go_sem,h1,BH (p:=PV w.t) hk' (by simp only[PV,h1,ai]),ai]
  rcases h2:decide (w.m[k]>w.t) with _ | _
  ·simp only[go_sem,AA _ hk',hk',h1,h2,wrap_i64 (n:=(k:Int)+1) AOh AOh]
   exact AOK
  ·simp only[go_sem,AA _ hk',hk',h1,h2,BH (p:=PV w.t) hk' (by simp only[PV,h1,h2]; rfl),ai]
 ·have hk':k=w.m.length:=by have:=hk.1; simp at h; omega
  subst hk'
  simp only[go_sem,CV hk,aj]
  try refine AAm ?_
  try simp only[go_sem]
  first | refine CY (Yh w.d (lenD hf)) ?_ | refine CW (Yh w.d (lenD hf)) fun _=>?_
  exact AIk
theorem xO {w:DWorld} {n:Int} {k:Nat} (h:n=k) (hk:k<w.b.length):Qd w n=some w.b[k]:=by
 subst h
 simp[Qd,hk]
theorem ig (w:DWorld) (hf:AX w):Ctr prog 107 [.agg w.c] [.val (.c (.v (.bool (iV w))))]:=by
 refine CM call107 func107 ntmps107 results107 fun hw=>?_
 have hb:=AIJ hf
 have hlb:=xN hf
 unfold iV
 simp only[go_sem]
 refine AB4 1 (A:=Nat) (fun x=>[(8,.c (.v (.int .i64 (x))))]) (fun _=>[⟨44,14,[w.c],true,true⟩]) (Ea w.x (Lt w)) (fun x=>w.x.length-x) 0 ⟨⟨rfl,rfl⟩,rfl,Ce⟩ ?_
 intro k hk
 refine AOb (fun h=>?_) fun h=>?_
 ·have hk':k<w.x.length:=by simpa using h
  simp only[go_sem,AA _ hk',hk']
  refine AAm ?_
  rcases DR w w.x[k].buf with ⟨m,hm,hbm,hat⟩ | ⟨hbm,hat⟩
  ·have e1:decide ((m:Int)<0)=false:=by simp
   have e2:decide ((m:Int)≥w.b.length)=false:=AOj
   rcases h1:w.b[m].gen==w.x[k].gen with _ | _
   ·have g1:(w.b[m].gen != w.x[k].gen)=true:=by simp[bne,h1]
    simp only[go_sem,AA _ hk',hk',hbm,e1,e2,AA _ hm,hm,g1,BH (p:=Lt w) hk' (by simp only[Lt,hat,h1,ai])]
   have g1:(w.b[m].gen != w.x[k].gen)=false:=AQC
   simp only[go_sem,AA _ hk',hk',hbm,e1,e2,AA _ hm,hm,g1]
   refine AB5 _ (AL w.x[k].at0 0 w.e) ?_
   rcases h2:Aa w.x[k].at0 0 w.e with _ | _
   ·simp only[go_sem,h2,BH (p:=Lt w) hk' (by simp only[Lt,hat,h1,h2,aH])]
   ·simp only[go_sem,h2,wrap_i64 (n:=(k:Int)+1) AOh AOh]
    exact⟨k+1,⟨rfl,rfl⟩,rfl,Ah hk' hk (by simp only[Lt,hat,h1,h2,aS]),AOh⟩
  ·have hno:=BH (p:=Lt w) hk' (by simp only[Lt,hat])
   rcases h0:decide (w.x[k].buf<0) with _ | _
   ·have e2:decide (w.x[k].buf≥(w.b.length:Int))=true:=by simp at h0 ⊢; omega
    simp only[go_sem,AA _ hk',hk',h0,e2,hno]
   ·simp only[go_sem,AA _ hk',hk',h0,hno]
 ·have hk':k=w.x.length:=by have:=hk.1; simp at h; omega
  subst hk'
  simp only[go_sem,CV hk]
end Go.Proofs.YtnoldekcdlaahaaGreat
