/- A part. -/
import Derived.Test.YtgkmefoghbjfnaaGreatAf
import Derived.Test.YtgkmefoghbjfnaaGreatAb
import Derived.Test.YtgkmefoghbjfnaaGreatIa
import Derived.Test.YtgkmefoghbjfnaaGreatSz
set_option linter.unusedSimpArgs false
set_option linter.unusedVariables false
set_option maxHeartbeats 2000000
set_option maxRecDepth 10000
open Go.Proofs.Tryz
namespace Go.Proofs.YtgkmefoghbjfnaaGreat
open Go.Vm
def Hm (cs:List Int) (p:DPred):Bool:=H7 cs&&(Es cs 4 p&&decide ((BG 4 p:Int)≤8))
theorem UH (cs:List Int) (p:DPred) (hc:cs.length≤1048576) (hp:BF p):Ctr prog 160 [.c (.sl (cs.map intC)),.agg p.c] [.val (.c (.v (.bool (Hm cs p))))]:=by
 refine CM call160 func160 ntmps160 results160 fun hw=>?_
 simp only[go_sem,ae]
 refine CallK.mk _ (RG cs) fun _=>?_
 rcases h1:H7 cs with _ | _
 ·simp only[go_sem,Hm,h1,aC]
 simp only[go_sem,h1]
 refine CW (L6 cs hc 4 1 p (by decide) (by decide) hp) fun _=>?_
 rcases h2:Es cs 4 p with _ | _
 ·simp only[go_sem,Hm,h1,h2,aC,bF]
 simp only[go_sem,h1,h2]
 refine CW (Jm cs 4 p (by decide) hp h2) fun _=>?_
 simp only[go_sem,Hm,h1,h2,aU]
theorem UI (cs:List Int) (p:DPred) (hc:cs.length≤1048576) (hp:BF p):Ctr prog 148 [.c (.sl (cs.map intC)),.agg p.c] [.val (.c (.v (.bool (Hm cs p))))]:=by
 refine CM call148 func148 ntmps148 results148 fun hw=>?_
 simp only[go_sem,ae]
 refine CallK.mk _ (RH cs) fun _=>?_
 rcases h1:H7 cs with _ | _
 ·simp only[go_sem,Hm,h1,aC]
 simp only[go_sem,h1]
 refine CallK.mk _ (by have:=PP cs hc 4 p (by decide) hp; rw[show ((4:Nat):Int)=4 from rfl] at this; simpa only[go_sem] using this) fun _=>?_
 simp only[go_sem,h1]
 refine CallK.mk _ (Aj _ _ _) fun _=>?_
 have:Ce (Be cs 4 p) 1 8=Hm cs p:=by
  unfold Hm Be
  rw[h1]
  rcases h2:Es cs 4 p with _ | _
  ·rfl
  ·have:1≤BG 4 p:=gq 3 p
   simp[Ce]
   omega
 simp only[go_sem,this]
def lK (q:DQuery):List Cl:=[.v (.int .i64 q.kind),.v (.int .i64 q.p.kind),.v (.int .i64 q.p.col),.v (.int .i64 q.p.op),.v (.int .i64 q.p.v.ty),.v (.int .i64 q.p.v.n),.v (.string q.p.v.s),.sl (q.p.l.map DPred.c),.v (.int .i64 q.col),.sl (q.out.map intC)]
@[go_sem] theorem wo (q:DQuery):lK q = [.v (.int .i64 q.kind),.v (.int .i64 q.p.kind),.v (.int .i64 q.p.col),.v (.int .i64 q.p.op),.v (.int .i64 q.p.v.ty),.v (.int .i64 q.p.v.n),.v (.string q.p.v.s),.sl (q.p.l.map DPred.c),.v (.int .i64 q.col),.sl (q.out.map intC)]:=rfl
def G5 (cs:List Int) (l:List Int):Bool:=l.all fun k=>Ce k 0 ((cs.length:Int)-1)
def Aa (cs:List Int) (q:DQuery):Bool:=
 Hm cs q.p&&(if(q.kind==1)=true then G5 cs q.out&&((q.col==0)&&Ce q.out.length 1 3) else
  if(q.kind==2)=true then(q.col==0)&&((q.out.length:Int)==0) else
  if(q.kind==3)=true then Ce q.col 0 ((cs.length:Int)-1)&&(((cs[q.col.toNat]?).getD 0==1)&&((q.out.length:Int)==0)) else
  if(q.kind==4)=true then Ce q.col 0 ((cs.length:Int)-1)&&((q.out.length:Int)==0) else
  if(q.kind==5)=true then Ce q.col 0 ((cs.length:Int)-1)&&((q.out.length:Int)==0) else false)
theorem L8 (cs:List Int) (l:List Int) {k:Nat} (h:k<l.length):G5 cs (l.drop k)=(Ce l[k] 0 ((cs.length:Int)-1)&&G5 cs (l.drop (k+1))):=by
 unfold G5
 rw[aF h]; rfl
theorem SS (cs:List Int) (q:DQuery) (hc:cs.length≤1048576) (hq:DW q):Ctr prog 132 [.c (.sl (cs.map intC)),.agg q.c] [.val (.c (.v (.bool (Aa cs q))))]:=by
 rw[DX] at hq
 have hol:=hq.2
 have hwl:IntKind.i64.wrap ((cs.length:Int)-1)=(cs.length:Int)-1:=wrap_i64 (by omega) (by omega)
 have hin:Ce q.col 0 ((cs.length:Int)-1)=true→∃ m:Nat,q.col=m∧m<cs.length:=by
  intro hh
  simp[Ce] at hh
  exact⟨q.col.toNat,by omega,by omega⟩
 refine CM call132 func132 ntmps132 results132 fun hw=>?_
 simp only[go_sem,ae]
 refine CW (UH cs q.p hc hq.1) fun _=>?_
 rcases h1:Hm cs q.p with _ | _
 ·simp only[go_sem,Aa,h1,aC]
 rcases k1:(q.kind==1) with _ | _
 rotate_left
 ·have hr:Aa cs q=(G5 cs q.out&&((q.col==0)&&Ce q.out.length 1 3)):=by simp[Aa,h1,k1]
  rw[hr]
  simp only[go_sem,ae,h1,k1]
  refine LoopU.mk 1 (A:=Nat) (fun k=>[(5,.c (.v (.int .i64 (k))))]) (fun _=>[⟨80,10,[lK q],true,true⟩]) (fun k=>k≤q.out.length∧G5 cs (q.out.drop k)=G5 cs q.out) (fun k=>q.out.length-k) 0 ⟨⟨rfl,rfl⟩,rfl,aJ _,rfl⟩ ?_
  rintro k ⟨hk,hb⟩
  simp only[go_sem,ae]
  refine cndC.mk (fun h=>?_) (fun h=>?_)
  ·have hk':k<q.out.length:=by simpa using h
   rw[L8 cs q.out hk'] at hb
   simp only[go_sem,ae,AA _ hk',hk',hwl]
   refine CallK.mk _ (BB q.out[k] 0 _) fun _=>?_
   rcases hv:Ce q.out[k] 0 ((cs.length:Int)-1) with _ | _
   ·rw[hv,aC] at hb
    simp only[go_sem,ae,hv,← hb,aC]
   ·rw[hv,aU] at hb
    simp only[go_sem,ae,hv,wrap_i64 (n:=(k:Int)+1) (by omega) (by omega)]
    exact⟨k+1,⟨rfl,rfl⟩,rfl,⟨by omega,hb⟩,by omega⟩
  ·have hk':k=q.out.length:=by simp at h; omega
   rw[hk',aP] at hb
   have hb':G5 cs q.out=true:=by rw[← hb]; rfl
   rw[hb',aU]
   rcases hA:(q.col==0) with _ | _
   ·simp only[go_sem,ae,hA,aC]
   ·simp only[go_sem,ae,hA,aU]
    refine CallK.mk _ (BB q.out.length 1 3) fun _=>?_
    simp only[go_sem,ae,hA,aU]
 rcases k2:(q.kind==2) with _ | _
 rotate_left
 ·have hr:Aa cs q=((q.col==0)&&((q.out.length:Int)==0)):=by simp[Aa,h1,k1,k2]
  rw[hr]
  rcases hA:(q.col==0) with _ | _
  ·simp only[go_sem,ae,h1,k1,k2,hA,aC]
  ·simp only[go_sem,ae,h1,k1,k2,hA,aU]
 rcases k3:(q.kind==3) with _ | _
 rotate_left
 ·have hr:Aa cs q=(Ce q.col 0 ((cs.length:Int)-1)&&(((cs[q.col.toNat]?).getD 0==1)&&((q.out.length:Int)==0))):=by simp[Aa,h1,k1,k2,k3]
  rw[hr]
  simp only[go_sem,ae,h1,k1,k2,k3,hwl]
  refine CallK.mk _ (BB q.col 0 _) fun _=>?_
  rcases c1:Ce q.col 0 ((cs.length:Int)-1) with _ | _
  ·simp only[go_sem,ae,c1,aC]
  obtain⟨m,hm,hml⟩:=hin c1
  have hgm:(cs[q.col.toNat]?).getD 0=cs[m]:=by rw[hm]; simp[hml]
  rw[hgm]
  rcases c2:(cs[m]==1) with _ | _
  ·simp only[go_sem,ae,c1,c2,hm,AA _ hml,hml,aU,aC]
  ·simp only[go_sem,ae,c1,c2,hm,AA _ hml,hml,aU]
 rcases k4:(q.kind==4) with _ | _
 rotate_left
 ·have hr:Aa cs q=(Ce q.col 0 ((cs.length:Int)-1)&&((q.out.length:Int)==0)):=by simp[Aa,h1,k1,k2,k3,k4]
  rw[hr]
  simp only[go_sem,ae,h1,k1,k2,k3,k4,hwl]
  refine CallK.mk _ (BB q.col 0 _) fun _=>?_
  rcases c1:Ce q.col 0 ((cs.length:Int)-1) with _ | _
  all_goals simp only[go_sem,ae,c1,aC,aU]
 rcases k5:(q.kind==5) with _ | _
 rotate_left
 ·have hr:Aa cs q=(Ce q.col 0 ((cs.length:Int)-1)&&((q.out.length:Int)==0)):=by simp[Aa,h1,k1,k2,k3,k4,k5]
  rw[hr]
  simp only[go_sem,ae,h1,k1,k2,k3,k4,k5,hwl]
  refine CallK.mk _ (BB q.col 0 _) fun _=>?_
  rcases c1:Ce q.col 0 ((cs.length:Int)-1) with _ | _
  all_goals simp only[go_sem,ae,c1,aC,aU]
 have hr:Aa cs q=false:=by simp[Aa,h1,k1,k2,k3,k4,k5]
 rw[hr]
 simp only[go_sem,ae,h1,k1,k2,k3,k4,k5]
theorem LZ (cs:List Int) (q:DQuery) (hc:cs.length≤1048576) (hq:DW q):Ctr prog 111 [.c (.sl (cs.map intC)),.agg q.c] [.val (.c (.v (.bool (Aa cs q))))]:=by
 rw[DX] at hq
 have hol:=hq.2
 have hwl:IntKind.i64.wrap ((cs.length:Int)-1)=(cs.length:Int)-1:=wrap_i64 (by omega) (by omega)
 have hin:Ce q.col 0 ((cs.length:Int)-1)=true→∃ m:Nat,q.col=m∧m<cs.length:=by
  intro hh
  simp[Ce] at hh
  exact⟨q.col.toNat,by omega,by omega⟩
 refine CM call111 func111 ntmps111 results111 fun hw=>?_
 simp only[go_sem,ae]
 refine CW (UI cs q.p hc hq.1) fun _=>?_
 rcases h1:Hm cs q.p with _ | _
 ·simp only[go_sem,Aa,h1,aC]
 simp only[go_sem,ae,h1,hwl]
 refine CallK.mk _ (Aj q.col 0 _) fun _=>?_
 rcases c1:Ce q.col 0 ((cs.length:Int)-1) with _ | _
 ·rcases k1:(q.kind==1) with _ | _
  rotate_left
  ·have hr:Aa cs q=(G5 cs q.out&&((q.col==0)&&Ce q.out.length 1 3)):=by simp[Aa,h1,k1]
   rw[hr]
   simp only[go_sem,ae,h1,c1,k1]
   refine LoopU.mk 1 (A:=Nat) (fun k=>[(32,.c (.v (.int .i64 (k))))]) (fun _=>[⟨80,10,[lK q],true,true⟩]) (fun k=>k≤q.out.length∧G5 cs (q.out.drop k)=G5 cs q.out) (fun k=>q.out.length-k) 0 ⟨⟨rfl,rfl⟩,rfl,aJ _,rfl⟩ ?_
   rintro k ⟨hk,hb⟩
   simp only[go_sem,ae]
   refine cndC.mk (fun h=>?_) (fun h=>?_)
   ·have hk':k<q.out.length:=by simpa using h
    rw[L8 cs q.out hk'] at hb
    simp only[go_sem,ae,AA _ hk',hk',hwl]
    refine CallK.mk _ (Aj q.out[k] 0 _) fun _=>?_
    rcases hv:Ce q.out[k] 0 ((cs.length:Int)-1) with _ | _
    ·rw[hv,aC] at hb
     simp only[go_sem,ae,hv,← hb,aC]
    ·rw[hv,aU] at hb
     simp only[go_sem,ae,hv,wrap_i64 (n:=(k:Int)+1) (by omega) (by omega)]
     exact⟨k+1,⟨rfl,rfl⟩,rfl,⟨by omega,hb⟩,by omega⟩
   ·have hk':k=q.out.length:=by simp at h; omega
    rw[hk',aP] at hb
    have hb':G5 cs q.out=true:=by rw[← hb]; rfl
    rw[hb',aU]
    simp only[go_sem,ae]
    refine CallK.mk _ (Aj q.out.length 1 3) fun _=>?_
    rcases hA:Ce q.out.length 1 3 with _ | _
    ·simp only[go_sem,ae,hA,bF]
    ·simp only[go_sem,ae,hA,aH]
  rcases k2:(q.kind==2) with _ | _
  rotate_left
  ·have hr:Aa cs q=((q.col==0)&&((q.out.length:Int)==0)):=by simp[Aa,h1,k1,k2]
   rw[hr]
   rcases hA:(q.col==0) with _ | _
   ·simp only[go_sem,ae,h1,c1,k1,k2,hA,aC]
   ·simp only[go_sem,ae,h1,c1,k1,k2,hA,aU]
  have hr:Aa cs q=false:=by simp[Aa,h1,k1,k2,c1]
  rw[hr]
  rcases k3:(q.kind==3) with _ | _
  rotate_left
  ·simp only[go_sem,ae,h1,c1,k1,k2,k3]
  rcases k4:(q.kind==4) with _ | _
  rotate_left
  ·simp only[go_sem,ae,h1,c1,k1,k2,k3,k4]
  rcases k5:(q.kind==5) with _ | _
  rotate_left
  ·simp only[go_sem,ae,h1,c1,k1,k2,k3,k4,k5]
  simp only[go_sem,ae,h1,c1,k1,k2,k3,k4,k5]
 ·rcases k1:(q.kind==1) with _ | _
  rotate_left
  ·have hr:Aa cs q=(G5 cs q.out&&((q.col==0)&&Ce q.out.length 1 3)):=by simp[Aa,h1,k1]
   rw[hr]
   simp only[go_sem,ae,h1,c1,k1]
   refine LoopU.mk 1 (A:=Nat) (fun k=>[(32,.c (.v (.int .i64 (k))))]) (fun _=>[⟨80,10,[lK q],true,true⟩]) (fun k=>k≤q.out.length∧G5 cs (q.out.drop k)=G5 cs q.out) (fun k=>q.out.length-k) 0 ⟨⟨rfl,rfl⟩,rfl,aJ _,rfl⟩ ?_
   rintro k ⟨hk,hb⟩
   simp only[go_sem,ae]
   refine cndC.mk (fun h=>?_) (fun h=>?_)
   ·have hk':k<q.out.length:=by simpa using h
    rw[L8 cs q.out hk'] at hb
    simp only[go_sem,ae,AA _ hk',hk',hwl]
    refine CallK.mk _ (Aj q.out[k] 0 _) fun _=>?_
    rcases hv:Ce q.out[k] 0 ((cs.length:Int)-1) with _ | _
    ·rw[hv,aC] at hb
     simp only[go_sem,ae,hv,← hb,aC]
    ·rw[hv,aU] at hb
     simp only[go_sem,ae,hv,wrap_i64 (n:=(k:Int)+1) (by omega) (by omega)]
     exact⟨k+1,⟨rfl,rfl⟩,rfl,⟨by omega,hb⟩,by omega⟩
   ·have hk':k=q.out.length:=by simp at h; omega
    rw[hk',aP] at hb
    have hb':G5 cs q.out=true:=by rw[← hb]; rfl
    rw[hb',aU]
    simp only[go_sem,ae]
    refine CallK.mk _ (Aj q.out.length 1 3) fun _=>?_
    rcases hA:Ce q.out.length 1 3 with _ | _
    ·simp only[go_sem,ae,hA,bF]
    ·simp only[go_sem,ae,hA,aH]
  rcases k2:(q.kind==2) with _ | _
  rotate_left
  ·have hr:Aa cs q=((q.col==0)&&((q.out.length:Int)==0)):=by simp[Aa,h1,k1,k2]
   rw[hr]
   rcases hA:(q.col==0) with _ | _
   ·simp only[go_sem,ae,h1,c1,k1,k2,hA,aC]
   ·simp only[go_sem,ae,h1,c1,k1,k2,hA,aU]
  rcases k3:(q.kind==3) with _ | _
  rotate_left
  ·obtain⟨m,hm,hml⟩:=hin c1
   have hgm:(cs[q.col.toNat]?).getD 0=cs[m]:=by rw[hm]; simp[hml]
   have hr:Aa cs q=((cs[m]==1)&&((q.out.length:Int)==0)):=by simp only[Aa,h1,k1,k2,k3,c1,hgm]; rfl
   rw[hr]
   rcases c2:((q.out.length:Int)==0) with _ | _
   ·simp only[go_sem,ae,h1,c1,c2,k1,k2,k3,bF]
   ·simp only[go_sem,ae,h1,c1,c2,k1,k2,k3,hm,AA _ hml,hml,aH]
  have hr2:(q.kind==4)=true∨(q.kind==5)=true→Aa cs q=((q.out.length:Int)==0):=by
   intro h45
   rcases h45 with h45 | h45
   ·simp[Aa,h1,k1,k2,k3,h45,c1]
   ·simp[Aa,h1,k1,k2,k3,h45,c1]
  rcases k4:(q.kind==4) with _ | _
  rotate_left
  ·rw[hr2 (.inl k4)]
   simp only[go_sem,ae,h1,c1,k1,k2,k3,k4]
  rcases k5:(q.kind==5) with _ | _
  rotate_left
  ·rw[hr2 (.inr k5)]
   simp only[go_sem,ae,h1,c1,k1,k2,k3,k4,k5]
  have hr:Aa cs q=false:=by simp[Aa,h1,k1,k2,k3,k4,k5]
  rw[hr]
  simp only[go_sem,ae,h1,c1,k1,k2,k3,k4,k5]
def Cj (d:DDeed):Bool:=
 if(!(Ce d.op 1 4&&(Ce d.task 0 4&&Ce d.code 0 5)))=true then false else
 if(decide (d.stamp<0)||(decide (d.inv<0)||(decide (d.id < -1)||((d.lin != -1)&&decide (d.lin<d.inv)))))=true then false else
 (d.ret == -1)||((d.lin != -1)&&decide (d.ret≥d.lin))
theorem UJ (d:DDeed):Ctr prog 88 [.agg d.c] [.val (.c (.v (.bool (Cj d))))]:=by
 refine CM call88 func88 ntmps88 results88 fun hw=>?_
 simp only[go_sem]
 refine CallK.mk _ (BB d.op 1 4) fun _=>?_
 rcases h1:Ce d.op 1 4 with _ | _
 ·simp only[go_sem,Cj,h1,aC,bD]
 simp only[go_sem,h1]
 refine CallK.mk _ (BB d.task 0 4) fun _=>?_
 rcases h2:Ce d.task 0 4 with _ | _
 ·simp only[go_sem,Cj,h1,h2,aC,bF,bD]
 simp only[go_sem,h1,h2]
 refine CallK.mk _ (BB d.code 0 5) fun _=>?_
 rcases h3:Ce d.code 0 5 with _ | _
 ·simp only[go_sem,Cj,h1,h2,h3,bF,bD]
 rcases h4:decide (d.stamp<0) with _ | _
 rotate_left
 ·simp only[go_sem,Cj,h1,h2,h3,h4,aH,bJ,TZ]
 rcases h5:decide (d.inv<0) with _ | _
 rotate_left
 ·simp only[go_sem,Cj,h1,h2,h3,h4,h5,aH,bJ,TZ,XQ]
 rcases h6:decide (d.id < -1) with _ | _
 rotate_left
 ·simp only[go_sem,Cj,h1,h2,h3,h4,h5,h6,aH,bJ,TZ,XQ]
 rcases h7:d.lin == -1 with _ | _
 ·have h7':(d.lin != -1)=true:=by simp[bne,h7]
  rcases h8:decide (d.lin<d.inv) with _ | _
  rotate_left
  ·simp only[go_sem,Cj,h1,h2,h3,h4,h5,h6,h7,h7',h8,aH,bJ,bD,TZ,XQ]
  rcases h9:d.ret == -1 with _ | _
  all_goals simp only[go_sem,Cj,h1,h2,h3,h4,h5,h6,h7,h7',h8,h9,aH,bF,aU,bJ,bD,TZ,XQ,tC]
 ·have h7':(d.lin != -1)=false:=by simp[bne,h7]
  rcases h9:d.ret == -1 with _ | _
  all_goals simp only[go_sem,Cj,h1,h2,h3,h4,h5,h6,h7,h7',h9,aH,bF,aC,bJ,bD,TZ,XQ,tC]
theorem UK (d:DDeed):Ctr prog 106 [.agg d.c] [.val (.c (.v (.bool (Cj d))))]:=by
 refine CM call106 func106 ntmps106 results106 fun hw=>?_
 simp only[go_sem]
 refine CallK.mk _ (Aj d.op 1 4) fun _=>?_
 rcases h1:Ce d.op 1 4 with _ | _
 ·simp only[go_sem,Cj,h1,aC,bD]
 simp only[go_sem,h1]
 refine CallK.mk _ (Aj d.task 0 4) fun _=>?_
 rcases h2:Ce d.task 0 4 with _ | _
 ·simp only[go_sem,Cj,h1,h2,aC,bF,bD]
 simp only[go_sem,h1,h2]
 refine CallK.mk _ (Aj d.code 0 5) fun _=>?_
 rcases h3:Ce d.code 0 5 with _ | _
 ·simp only[go_sem,Cj,h1,h2,h3,bF,bD]
 rcases h4:decide (d.stamp<0) with _ | _
 rotate_left
 ·simp only[go_sem,Cj,h1,h2,h3,h4,aH,bJ,TZ]
 rcases h5:decide (d.inv<0) with _ | _
 rotate_left
 ·simp only[go_sem,Cj,h1,h2,h3,h4,h5,aH,bJ,TZ,XQ]
 rcases h6:decide (d.id < -1) with _ | _
 rotate_left
 ·simp only[go_sem,Cj,h1,h2,h3,h4,h5,h6,aH,bJ,TZ,XQ]
 rcases h7:d.lin == -1 with _ | _
 ·have h7':(d.lin != -1)=true:=by simp[bne,h7]
  rcases h8:decide (d.lin<d.inv) with _ | _
  rotate_left
  ·simp only[go_sem,Cj,h1,h2,h3,h4,h5,h6,h7,h7',h8,aH,bJ,bD,TZ,XQ]
  rcases h9:d.ret == -1 with _ | _
  all_goals simp only[go_sem,Cj,h1,h2,h3,h4,h5,h6,h7,h7',h8,h9,aH,bF,aU,bJ,bD,TZ,XQ,tC]
 ·have h7':(d.lin != -1)=false:=by simp[bne,h7]
  rcases h9:d.ret == -1 with _ | _
  all_goals simp only[go_sem,Cj,h1,h2,h3,h4,h5,h6,h7,h7',h9,aH,bF,aC,bJ,bD,TZ,XQ,tC]
theorem X5 (l:List DRow) (ids:List Int) (hl:fitS Ah l) (hi:ids.length≤1048576):Ctr prog 110 [.c (.sl (l.map DRow.c)),.c (.sl (ids.map intC))] [.own 147 2 ((l.filter fun r=>!II ids r.id).map DRow.o) true]:=by
 refine CM call110 func110 ntmps110 results110 fun hw=>?_
 have hlen:=hl.1
 simp only[go_sem,ae]
 refine LoopH.mk [8] (A:=Nat×List DRow) (fun x=>[(11,.c (.v (.int .i64 (x.1)))),(5,.c (.ref 0))]) (fun x=>[⟨147,2,x.2.map DRow.o,true,true⟩]) (fun x=>x.1≤l.length∧x.2.length≤x.1∧x.2++(l.drop x.1).filter (fun r=>!II ids r.id)=(l.filter fun r=>!II ids r.id)) (fun x=>l.length-x.1) (0,[]) (Head.sel [(0,false)] ⟨rfl,rfl,rfl,trivial⟩ rfl) ⟨aJ _,aQ _,rfl⟩ ?_
 rintro⟨k,out⟩ ⟨hk,hol,hb⟩
 dsimp only at hk hol hb
 simp only[go_sem,ae]
 refine cndC.mk (fun h=>?_) (fun h=>?_)
 ·have hk':k<l.length:=by simpa using h
  rw[aF hk',List.filter_cons] at hb
  have hr:=hl.2 _ (au hk')
  rw[Bc] at hr
  have hrl:=hr.1
  have hol2:out.length+1≤2147483648:=by omega
  simp only[go_sem,ae,AA _ hk',hk',ay]
  refine CW (Zv ids l[k].id hi) fun _=>?_
  rcases hc:II ids l[k].id with _ | _
  rotate_left
  ·rw[Eh (by simp[hc])] at hb
   simp only[go_sem,ae,AA _ hk',hk',hc,ay,wrap_i64 (n:=(k:Int)+1) (by omega) (by omega)]
   exact⟨(k+1,out),Head.sel [(0,true)] ⟨rfl,rfl,Fb (AL _),trivial⟩ (by
    show (⟨27,_,[⟨147,2,(out.map DRow.o).map (fun x=>x.map (P9 [(0,true)])),true,true⟩]⟩:MS)=_
    rw[Fa (AL out)]; rfl),⟨hk',by simp only; omega,hb⟩,by simp only; omega⟩
  rw[ED (by simp[hc])] at hb
  simp only[go_sem,ae,AA _ hk',hk',hc,ay]
  refine CW (Dh l[k] hrl) fun _=>?_
  simp only[go_sem,aS,aZ,ae,AA _ hk',hk',hol2,Em,aN,ay,wrap_i64 (n:=(k:Int)+1) (by omega) (by omega)]
  refine⟨(k+1,out ++ [l[k]]),Head.selAbs [(4,true),(2,false)] 1 0 ⟨rfl,rfl,IE DRow.o_nr _ out rfl,AP DVal.pure,trivial⟩ ⟨out.length,out.map DRow.o ++ [DRow.o l[k]],_,DRow.o l[k],_,⟨gW 0,rfl,IC DRow.o_nr _ out _ _,by simp,rfl⟩,
   ⟨rfl,rfl,rfl,rfl,rfl,rfl,BP _,by simp[EL],fun l hl=>by simp[EL] at hl; omega⟩,⟨rfl, ?tr⟩, ?eq⟩,⟨hk',by simp; omega,(aY _ _ _).trans hb⟩,by simp only; omega⟩
  case tr=>unfold Am; rw[Bg]; exact allA (CB (AL _))
  case eq=>unfold Am; rw[Bg,Yk]; rfl
 ·have hk':k=l.length:=by simp at h; omega
  subst hk'
  rw[aP] at hb
  have:out=(l.filter fun r=>!II ids r.id):=by simpa using hb
  rw[← this]
  simp only[go_sem,AL]
  try simp
theorem X6 (l:List DRow) (ids:List Int) (hl:fitS Ah l) (hi:ids.length≤1048576):Ctr prog 131 [.c (.sl (l.map DRow.c)),.c (.sl (ids.map intC))] [.own 147 2 ((l.filter fun r=>!II ids r.id).map DRow.o) true]:=by
 refine CM call131 func131 ntmps131 results131 fun hw=>?_
 have hlen:=hl.1
 simp only[go_sem,ae]
 refine LoopH.mk [8] (A:=Nat×List DRow) (fun x=>[(6,.c (.v (.int .i64 (x.1)))),(5,.c (.ref 0))]) (fun x=>[⟨147,2,x.2.map DRow.o,true,true⟩]) (fun x=>x.1≤l.length∧x.2.length≤x.1∧x.2++(l.drop x.1).filter (fun r=>!II ids r.id)=(l.filter fun r=>!II ids r.id)) (fun x=>l.length-x.1) (0,[]) (Head.sel [(0,false)] ⟨rfl,rfl,rfl,trivial⟩ rfl) ⟨aJ _,aQ _,rfl⟩ ?_
 rintro⟨k,out⟩ ⟨hk,hol,hb⟩
 dsimp only at hk hol hb
 simp only[go_sem,ae]
 refine cndC.mk (fun h=>?_) (fun h=>?_)
 ·have hk':k<l.length:=by simpa using h
  rw[aF hk',List.filter_cons] at hb
  have hr:=hl.2 _ (au hk')
  rw[Bc] at hr
  have hrl:=hr.1
  have hol2:out.length+1≤2147483648:=by omega
  simp only[go_sem,ae,AA _ hk',hk',ay]
  refine CW (Zw ids l[k].id hi) fun _=>?_
  rcases hc:II ids l[k].id with _ | _
  rotate_left
  ·rw[Eh (by simp[hc])] at hb
   simp only[go_sem,ae,AA _ hk',hk',hc,ay,wrap_i64 (n:=(k:Int)+1) (by omega) (by omega)]
   exact⟨(k+1,out),Head.sel [(0,true)] ⟨rfl,rfl,Fb (AL _),trivial⟩ (by
    show (⟨33,_,[⟨147,2,(out.map DRow.o).map (fun x=>x.map (P9 [(0,true)])),true,true⟩]⟩:MS)=_
    rw[Fa (AL out)]; rfl),⟨hk',by simp only; omega,hb⟩,by simp only; omega⟩
  rw[ED (by simp[hc])] at hb
  simp only[go_sem,ae,AA _ hk',hk',hc,ay]
  refine CW (EQ l[k] hrl) fun _=>?_
  simp only[go_sem,aS,aZ,ae,AA _ hk',hk',hol2,Em,aN,ay,wrap_i64 (n:=(k:Int)+1) (by omega) (by omega)]
  refine⟨(k+1,out ++ [l[k]]),Head.selAbs [(4,true),(1,false)] 1 0 ⟨rfl,rfl,IE DRow.o_nr _ out rfl,AP DVal.pure,trivial⟩ ⟨out.length,out.map DRow.o ++ [DRow.o l[k]],_,DRow.o l[k],_,⟨gW 0,rfl,IC DRow.o_nr _ out _ _,by simp,rfl⟩,
   ⟨rfl,rfl,rfl,rfl,rfl,rfl,BP _,by simp[EL],fun l hl=>by simp[EL] at hl; omega⟩,⟨rfl, ?tr⟩, ?eq⟩,⟨hk',by simp; omega,(aY _ _ _).trans hb⟩,by simp only; omega⟩
  case tr=>unfold Am; rw[Bg]; exact allA (CB (AL _))
  case eq=>unfold Am; rw[Bg,Yk]; rfl
 ·have hk':k=l.length:=by simp at h; omega
  subst hk'
  rw[aP] at hb
  have:out=(l.filter fun r=>!II ids r.id):=by simpa using hb
  rw[← this]
  simp only[go_sem,AL]
  try simp
def LK (l:List DRow) (r:DRow):List DRow:=l.takeWhile (fun x=>decide (x.id<r.id)) ++ [r]++l.dropWhile (fun x=>decide (x.id<r.id))
theorem QA {l:List DRow} {r:DRow} {k:Nat} (hk:k≤l.length) (h1:∀ j (h:j<l.length),j<k→l[j].id<r.id) (h2:∀ h:k<l.length,¬ l[k].id<r.id):LK l r=l.take k ++ [r]++l.drop k:=by
 have key:∀ (l:List DRow) (k:Nat),k≤l.length→(∀ j (h:j<l.length),j<k→l[j].id<r.id)→(∀ h:k<l.length,¬ l[k].id<r.id)→l.takeWhile (fun x=>decide (x.id<r.id))=l.take k∧l.dropWhile (fun x=>decide (x.id<r.id))=l.drop k:=by
  intro l
  induction l with
  | nil=>intro k hk _ _; simp at hk; subst hk; simp
  | cons x l ih =>
   intro k hk h1 h2
   cases k with
   | zero =>
    have:=h2 (by simp)
    simp only[List.getElem_cons_zero] at this
    simp[List.takeWhile_cons,List.dropWhile_cons,this]
   | succ k =>
    have h0:x.id<r.id:=h1 0 (by simp) (by omega)
    obtain⟨g1,g2⟩:=ih k (by simpa using hk) (fun j hj hjk=>by have:=h1 (j+1) (by simpa using hj) (by omega); simpa using this) (fun h=>by have:=h2 (by simpa using h); simpa using this)
    simp[List.takeWhile_cons,List.dropWhile_cons,h0,g1,g2]
 obtain⟨g1,g2⟩:=key l k hk h1 h2
 rw[LK,g1,g2]
theorem NH {l:List DRow} (h:fitS Ah l) (k:Nat):fitS Ah (l.take k):=⟨by have:=h.1; simp; omega,fun x hx=>h.2 x (qi hx)⟩
theorem fit_drop {l:List DRow} (h:fitS Ah l) (k:Nat):fitS Ah (l.drop k):=⟨by have:=h.1; simp; omega,fun x hx=>h.2 x (List.mem_of_mem_drop hx)⟩
theorem GX (l:List DRow):((l.map DRow.c).all fun r=>r.length==2)=true:=aA.2 fun r hr=>by
 obtain⟨x,_,rfl⟩:=cO.1 hr
 rfl
theorem KT (l:List DRow) (k:Nat):((l.map DRow.c).drop k).take (l.length-k)=(l.drop k).map DRow.c:=by
 rw[vG (by simp),List.map_drop]
theorem JD (l:List DRow) (k:Nat):(l.map DRow.c).take k=(l.take k).map DRow.c:=by rw[List.map_take]
theorem UL {α:Type} {f:α→List Cl} (hf:∀ x,(f x).all IJ=true) (sel:List (Nat×Bool)) (A B:List α) (r row':List Cl) :
  (A.map f ++ [r]++B.map f).map (fun x=>x.map (P9 sel))=(A.map f ++ [row']++B.map f).set A.length (r.map (P9 sel)):=by
 rw[Yk,IC hf sel A r row',Fa (Ie hf)]
 exact(List.set_append_left _ _ (by simp)).symm
theorem set_mid {α:Type} {f:α→List Cl} (A B:List α) (x:α):(A.map f ++ [f x]++B.map f).set A.length (f x)=(A ++ [x]++B).map f:=by
 rw[List.set_append_left _ _ (by simp),Bg,← Yk]
theorem UM {α:Type} {f:α→List Cl} (hf:∀ x,(f x).all IJ=true) (sel:List (Nat×Bool)) (A B:List α) {r:List Cl} (hr:r.all (Zk sel)=true):((A.map f ++ [r]++B.map f).all fun x=>x.all (Zk sel))=true:=by
 rw[bV,IE hf sel A hr,Fb (Ie hf)]; rfl
theorem Z4 (l:List DRow) (r:DRow) (hl:fitS Ah l) (hr:r.l.length≤1048576):Ctr prog 109 [.c (.sl (l.map DRow.c)),.agg r.c] [.own 147 2 ((LK l r).map DRow.o) true]:=by
 refine Ctr.mkH call109 func109 rfl mixed ntmps109 results109 (by kernel_rfl) rfl fun hw=>?_
 have hlen:=hl.1
 simp only[go_sem,ae]
 refine LoopU.mk 1 (A:=Nat) (fun k=>[(5,.c (.v (.int .i64 (k))))]) (fun _=>[⟨147,2,[[.v (.int .i64 r.id),.sl (r.l.map DVal.c)]],true,true⟩]) (fun k=>k≤l.length∧∀ j (h:j<l.length),j<k→l[j].id<r.id) (fun k=>l.length-k) 0 ⟨⟨rfl,rfl⟩,rfl,aJ _,fun j _ h=>by omega⟩ ?_
 rintro k ⟨hk,hlt⟩
 by_cases hk':k<l.length
 ·have e1:decide ((k:Int)<(l.length:Int))=true:=by simp; exact hk'
  rcases e2:decide (l[k].id<r.id) with _ | _
  ·have hno:¬ l[k].id<r.id:=by simpa using e2
   simp only[go_sem,ae,e1]
   refine DrawK.mk ?_
   simp only[go_sem,ae,AA _ hk',hk',e1,e2]
   have hput:=QA hk hlt fun _=>hno
   refine DrawK.mkE ?_
   simp only[go_sem,ae,GX,hk,ou,mi,JD,aQ,aJ,gY]
   refine CZ (Ea (l.take k) (NH hl k)) ?_
   simp only[go_sem]
   refine CZ (Dh r hr) ?_
   have hol2:(l.take k).length+1≤2147483648:=by simp; omega
   simp only[go_sem,aS,aZ,ae,hol2,Em,aN,ay]
   simp only[go_sem,ae,GX,hk,KT,aQ,gY]
   refine CW (Ea (l.drop k) (fit_drop hl k)) fun _=>?_
   have hol3:(l.take k).length+1+(l.drop k).length≤2147483648:=by simp; omega
   simp only[go_sem,aO,bQ,Vf,Yl,ae,hol3,AL,ay]
   refine EndH.mk (t:=⟨37,[(4,.c (.ref 0))],[⟨147,2,(LK l r).map DRow.o,true,true⟩]⟩) (Head.selAbs [(6,true),(2,false)] 1 0 ⟨rfl,rfl,UM DRow.o_nr _ (l.take k) (l.drop k) rfl,AP DVal.pure,trivial⟩ ⟨(l.take k).length,(l.take k).map DRow.o ++ [DRow.o r]++(l.drop k).map DRow.o,_,DRow.o r,_,⟨gW 0,rfl,UL DRow.o_nr _ (l.take k) (l.drop k) _ _,by simp,rfl⟩,
    ⟨rfl,rfl,rfl,rfl,rfl,rfl,BP _,by simp[EL],fun l hl=>by simp[EL] at hl; omega⟩,⟨rfl, ?tr⟩, ?eq⟩) ?post
   case tr=>unfold Am; rw[set_mid]; exact allA (CB (AL _))
   case eq=>unfold Am; rw[set_mid,hput]; rfl
   case post =>
    simp only[go_sem,AL]
    try simp
  ·have hyes:l[k].id<r.id:=by simpa using e2
   simp only[go_sem,ae,e1]
   refine DrawK.mk ?_
   simp only[go_sem,ae,AA _ hk',hk',e1,e2,wrap_i64 (n:=(k:Int)+1) (by omega) (by omega)]
   exact⟨k+1,⟨rfl,rfl⟩,rfl,⟨by omega,fun j hj hjk=>by
    rcases aX j k with h' | h'
    ·exact hlt j hj h'
    ·have:j=k:=by omega
     subst this; exact hyes⟩,by omega⟩
 ·have e1:decide ((k:Int)<(l.length:Int))=false:=by simp; omega
  simp only[go_sem,ae,e1]
  refine DrawK.mk ?_
  simp only[go_sem,ae,e1]
  have hput:=QA hk hlt fun _=>by omega
  refine DrawK.mkE ?_
  simp only[go_sem,ae,GX,hk,ou,mi,JD,aQ,aJ,gY]
  refine CZ (Ea (l.take k) (NH hl k)) ?_
  simp only[go_sem]
  refine CZ (Dh r hr) ?_
  have hol2:(l.take k).length+1≤2147483648:=by simp; omega
  simp only[go_sem,aS,aZ,ae,hol2,Em,aN,ay]
  simp only[go_sem,ae,GX,hk,KT,aQ,gY]
  refine CW (Ea (l.drop k) (fit_drop hl k)) fun _=>?_
  have hol3:(l.take k).length+1+(l.drop k).length≤2147483648:=by simp; omega
  simp only[go_sem,aO,bQ,Vf,Yl,ae,hol3,AL,ay]
  refine EndH.mk (t:=⟨37,[(4,.c (.ref 0))],[⟨147,2,(LK l r).map DRow.o,true,true⟩]⟩) (Head.selAbs [(6,true),(2,false)] 1 0 ⟨rfl,rfl,UM DRow.o_nr _ (l.take k) (l.drop k) rfl,AP DVal.pure,trivial⟩ ⟨(l.take k).length,(l.take k).map DRow.o ++ [DRow.o r]++(l.drop k).map DRow.o,_,DRow.o r,_,⟨gW 0,rfl,UL DRow.o_nr _ (l.take k) (l.drop k) _ _,by simp,rfl⟩,
   ⟨rfl,rfl,rfl,rfl,rfl,rfl,BP _,by simp[EL],fun l hl=>by simp[EL] at hl; omega⟩,⟨rfl, ?tr⟩, ?eq⟩) ?post
  case tr=>unfold Am; rw[set_mid]; exact allA (CB (AL _))
  case eq=>unfold Am; rw[set_mid,hput]; rfl
  case post =>
   simp only[go_sem,AL]
   try simp
theorem Z5 (l:List DRow) (r:DRow) (hl:fitS Ah l) (hr:r.l.length≤1048576):Ctr prog 130 [.c (.sl (l.map DRow.c)),.agg r.c] [.own 147 2 ((LK l r).map DRow.o) true]:=by
 refine Ctr.mkH call130 func130 rfl mixed ntmps130 results130 (by kernel_rfl) rfl fun hw=>?_
 have hlen:=hl.1
 simp only[go_sem,ae]
 refine LoopU.mk 1 (A:=Nat) (fun k=>[(5,.c (.v (.int .i64 (k))))]) (fun _=>[⟨147,2,[[.v (.int .i64 r.id),.sl (r.l.map DVal.c)]],true,true⟩]) (fun k=>k≤l.length∧∀ j (h:j<l.length),j<k→l[j].id<r.id) (fun k=>l.length-k) 0 ⟨⟨rfl,rfl⟩,rfl,aJ _,fun j _ h=>by omega⟩ ?_
 rintro k ⟨hk,hlt⟩
 by_cases hk':k<l.length
 ·have e1:decide ((k:Int)<(l.length:Int))=true:=by simp; exact hk'
  rcases e2:decide (l[k].id<r.id) with _ | _
  ·have hno:¬ l[k].id<r.id:=by simpa using e2
   simp only[go_sem,ae,e1]
   refine DrawK.mk ?_
   simp only[go_sem,ae,AA _ hk',hk',e1,e2]
   have hput:=QA hk hlt fun _=>hno
   refine DrawK.mkE ?_
   simp only[go_sem,ae,GX,hk,ou,mi,JD,aQ,aJ,gY]
   refine CZ (F6 (l.take k) (NH hl k)) ?_
   simp only[go_sem]
   refine CZ (EQ r hr) ?_
   have hol2:(l.take k).length+1≤2147483648:=by simp; omega
   simp only[go_sem,aS,aZ,ae,hol2,Em,aN,ay]
   simp only[go_sem,ae,GX,hk,KT,aQ,gY]
   refine CZ (F6 (l.drop k) (fit_drop hl k)) ?_
   have hol3:(l.take k).length+1+(l.drop k).length≤2147483648:=by simp; omega
   simp only[go_sem,aO,bQ,Vf,Yl,ae,hol3,AL,ay]
   refine EndH.mk (t:=⟨35,[(4,.c (.ref 0))],[⟨147,2,(LK l r).map DRow.o,true,true⟩]⟩) (Head.selAbs [(6,true),(2,false)] 1 0 ⟨rfl,rfl,UM DRow.o_nr _ (l.take k) (l.drop k) rfl,AP DVal.pure,trivial⟩ ⟨(l.take k).length,(l.take k).map DRow.o ++ [DRow.o r]++(l.drop k).map DRow.o,_,DRow.o r,_,⟨gW 0,rfl,UL DRow.o_nr _ (l.take k) (l.drop k) _ _,by simp,rfl⟩,
    ⟨rfl,rfl,rfl,rfl,rfl,rfl,BP _,by simp[EL],fun l hl=>by simp[EL] at hl; omega⟩,⟨rfl, ?tr⟩, ?eq⟩) ?post
   case tr=>unfold Am; rw[set_mid]; exact allA (CB (AL _))
   case eq=>unfold Am; rw[set_mid,hput]; rfl
   case post =>
    simp only[go_sem,AL]
    try simp
  ·have hyes:l[k].id<r.id:=by simpa using e2
   simp only[go_sem,ae,e1]
   refine DrawK.mk ?_
   simp only[go_sem,ae,AA _ hk',hk',e1,e2,wrap_i64 (n:=(k:Int)+1) (by omega) (by omega)]
   exact⟨k+1,⟨rfl,rfl⟩,rfl,⟨by omega,fun j hj hjk=>by
    rcases aX j k with h' | h'
    ·exact hlt j hj h'
    ·have:j=k:=by omega
     subst this; exact hyes⟩,by omega⟩
 ·have e1:decide ((k:Int)<(l.length:Int))=false:=by simp; omega
  simp only[go_sem,ae,e1]
  refine DrawK.mk ?_
  simp only[go_sem,ae,e1]
  have hput:=QA hk hlt fun _=>by omega
  refine DrawK.mkE ?_
  simp only[go_sem,ae,GX,hk,ou,mi,JD,aQ,aJ,gY]
  refine CZ (F6 (l.take k) (NH hl k)) ?_
  simp only[go_sem]
  refine CZ (EQ r hr) ?_
  have hol2:(l.take k).length+1≤2147483648:=by simp; omega
  simp only[go_sem,aS,aZ,ae,hol2,Em,aN,ay]
  simp only[go_sem,ae,GX,hk,KT,aQ,gY]
  refine CZ (F6 (l.drop k) (fit_drop hl k)) ?_
  have hol3:(l.take k).length+1+(l.drop k).length≤2147483648:=by simp; omega
  simp only[go_sem,aO,bQ,Vf,Yl,ae,hol3,AL,ay]
  refine EndH.mk (t:=⟨35,[(4,.c (.ref 0))],[⟨147,2,(LK l r).map DRow.o,true,true⟩]⟩) (Head.selAbs [(6,true),(2,false)] 1 0 ⟨rfl,rfl,UM DRow.o_nr _ (l.take k) (l.drop k) rfl,AP DVal.pure,trivial⟩ ⟨(l.take k).length,(l.take k).map DRow.o ++ [DRow.o r]++(l.drop k).map DRow.o,_,DRow.o r,_,⟨gW 0,rfl,UL DRow.o_nr _ (l.take k) (l.drop k) _ _,by simp,rfl⟩,
   ⟨rfl,rfl,rfl,rfl,rfl,rfl,BP _,by simp[EL],fun l hl=>by simp[EL] at hl; omega⟩,⟨rfl, ?tr⟩, ?eq⟩) ?post
  case tr=>unfold Am; rw[set_mid]; exact allA (CB (AL _))
  case eq=>unfold Am; rw[set_mid,hput]; rfl
  case post =>
   simp only[go_sem,AL]
   try simp
end Go.Proofs.YtgkmefoghbjfnaaGreat
