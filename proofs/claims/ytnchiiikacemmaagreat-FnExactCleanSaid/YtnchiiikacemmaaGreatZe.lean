/- A part. -/
import Derived.Test.YtnchiiikacemmaaGreatZm
import Derived.Test.YtnchiiikacemmaaGreatZd
set_option linter.unusedSimpArgs false
set_option linter.unusedVariables false
set_option maxHeartbeats 4000000
set_option maxRecDepth 10000
open Go.Proofs.Tryz
namespace Go.Proofs.YtnchiiikacemmaaGreat
open Go.Vm
def qo:DPred:=.mk 0 0 0 ⟨0,0,ByteArray.empty⟩ []
def qp:DQuery:=⟨0,qo,0,[]⟩
def ku (v:DVal):Bool:=(v.ty==0)&&((v.n==0)&&(v.s.toList==ByteArray.empty.toList))
def yI (q:DQuery):Bool:=(q.kind==0)&&((q.col==0)&&(((q.out.length:Int)==0)&&((q.p.kind==0)&&((q.p.col==0)&&((q.p.op==0)&&(ku q.p.v&&((q.p.l.length:Int)==0)))))))
theorem AAH (l:List Int):LV l []=((l.length:Int)==0):=by
 cases l with
 | nil=>rfl
 | cons a l=>symm; simp only[LV,bY,beq_eq_false_iff_ne]; omega
theorem vU (l:List DPred):Gg l []=((l.length:Int)==0):=by
 cases l with
 | nil=>rw[Gg]; rfl
 | cons a l =>
  rw[Gg]<;>simp
  omega
theorem AFP (q:DQuery):Ue q qp=yI q:=by
 have e:KX q.p.v ⟨0,0,ByteArray.empty⟩=ku q.p.v:=rfl
 simp only[Ue,ZV,yI,qp,AAH,qo,DPred.kind,DPred.col,DPred.op,DPred.v,DPred.l,vU]
 simp only[DPred.v] at e
 rw[e]
 simp only[Bool.and_assoc]
 rcases q.kind==0<;>rcases q.col==0<;>rcases((q.out.length:Int)==0)<;>simp only[ag,ai,aJ,aU]
theorem AAI (q:DQuery):Ctr prog 233 [.agg q.c] [.val (.c (.v (.bool (yI q))))]:=by
 refine CM call233 func233 ntmps233 results233 fun hw=>?_
 have e1:(q.p.v.ty==0&&(q.p.v.n==0&&q.p.v.s.toList==ByteArray.empty.toList))=ku q.p.v:=rfl
 rcases h1:q.kind==0 with _ | _
 ·simp only[go_sem,bH,bi,h1,yI,ag]
 rcases h2:q.col==0 with _ | _
 ·simp only[go_sem,bH,bi,h1,h2,yI,ag,ai]
 rcases h3:((q.out.length:Int)==0) with _ | _
 ·simp only[go_sem,bH,bi,h1,h2,h3,yI,ag,ai]
 rcases h4:q.p.kind==0 with _ | _
 ·simp only[go_sem,bH,bi,h1,h2,h3,h4,yI,ag,ai]
 rcases h5:q.p.col==0 with _ | _
 ·simp only[go_sem,bH,bi,h1,h2,h3,h4,h5,yI,ag,ai]
 rcases h6:q.p.op==0 with _ | _
 ·simp only[go_sem,bH,bi,h1,h2,h3,h4,h5,h6,yI,ag,ai]
 rcases h7:ku q.p.v with _ | _
 ·simp only[go_sem,bH,bi,h1,h2,h3,h4,h5,h6,h7,e1,FB,Iu,aU,yI,ag,ai]
 simp only[go_sem,h1,h2,h3,h4,h5,h6,h7,e1,FB,Iu,aU,yI,ai]
theorem AAJ:Dl qp:=by
 rw[Ea]
 refine⟨?_,ak _⟩
 show Ak qo
 rw[BG]
 exact⟨by simp[Fz,qo,DPred.v],ak _,fun x hx=>by cases hx⟩
def Bv (t:DTask):Bool:=((t.pc==0)&&((t.h==0)&&((((t.r.length:Int)==0))&&((t.id==0)&&((yI t.q)&&((t.ts==0)&&((t.ver==0)&&((((t.l.length:Int)==0))&&((t.i==0)&&((t.j==0)&&((t.s==0)&&((t.at0==0)&&((t.own==0)&&((!t.won)&&(((t.got.length:Int)==0))))))))))))))))
theorem qw (t:DTask) (hq:Dl t.q):Ctr prog 214 [.agg t.c] [.val (.c (.v (.bool (Bv t))))]:=by
 refine CM call214 func214 ntmps214 results214 fun hw=>?_
 rcases kpc:t.pc==0 with _ | _
 ·simp only[go_sem,aa3,bH,bi,kpc,Bv,ag]
 rcases kh:t.h==0 with _ | _
 ·simp only[go_sem,aa3,bH,bi,kpc,kh,Bv,ag,ai]
 rcases kr:((t.r.length:Int)==0) with _ | _
 ·simp only[go_sem,aa3,bH,bi,kpc,kh,kr,Bv,ag,ai]
 rcases kid:t.id==0 with _ | _
 ·simp only[go_sem,aa3,bH,bi,kpc,kh,kr,kid,Bv,ag,ai]
 simp only[go_sem,aa3,bH,bi,kpc,kh,kr,kid]
 refine CallK.mk _ (by have:=P8 t.q qp hq AAJ; rw[AFP] at this; simpa only[go_sem,qp,qo,DPred.kind,DPred.col,DPred.op,DPred.v,DPred.l,cZ] using this) fun _=>?_
 rcases kq:yI t.q with _ | _
 ·simp only[go_sem,kpc,kh,kr,kid,kq,Bv,ag,ai]
 rcases kts:t.ts==0 with _ | _
 ·simp only[go_sem,kpc,kh,kr,kid,kq,kts,Bv,ag,ai]
 rcases kver:t.ver==0 with _ | _
 ·simp only[go_sem,kpc,kh,kr,kid,kq,kts,kver,Bv,ag,ai]
 rcases kl:((t.l.length:Int)==0) with _ | _
 ·simp only[go_sem,kpc,kh,kr,kid,kq,kts,kver,kl,Bv,ag,ai]
 rcases ki:t.i==0 with _ | _
 ·simp only[go_sem,kpc,kh,kr,kid,kq,kts,kver,kl,ki,Bv,ag,ai]
 rcases kj:t.j==0 with _ | _
 ·simp only[go_sem,kpc,kh,kr,kid,kq,kts,kver,kl,ki,kj,Bv,ag,ai]
 rcases ks:t.s==0 with _ | _
 ·simp only[go_sem,kpc,kh,kr,kid,kq,kts,kver,kl,ki,kj,ks,Bv,ag,ai]
 rcases kat:t.at0==0 with _ | _
 ·simp only[go_sem,kpc,kh,kr,kid,kq,kts,kver,kl,ki,kj,ks,kat,Bv,ag,ai]
 rcases kown:t.own==0 with _ | _
 ·simp only[go_sem,kpc,kh,kr,kid,kq,kts,kver,kl,ki,kj,ks,kat,kown,Bv,ag,ai]
 rcases kwon:t.won with _ | _
 rotate_left
 ·simp only[go_sem,kpc,kh,kr,kid,kq,kts,kver,kl,ki,kj,ks,kat,kown,kwon,Bv,ag,ai,aQ]
 simp only[go_sem,kpc,kh,kr,kid,kq,kts,kver,kl,ki,kj,ks,kat,kown,kwon,Bv,ai,aN]
theorem qx (t:DTask) (hq:Dl t.q):Ctr prog 204 [.agg t.c] [.val (.c (.v (.bool (Bv t))))]:=by
 refine CM call204 func204 ntmps204 results204 fun hw=>?_
 rcases kpc:t.pc==0 with _ | _
 ·simp only[go_sem,aa3,bH,bi,kpc,Bv,ag]
 rcases kh:t.h==0 with _ | _
 ·simp only[go_sem,aa3,bH,bi,kpc,kh,Bv,ag,ai]
 rcases kr:((t.r.length:Int)==0) with _ | _
 ·simp only[go_sem,aa3,bH,bi,kpc,kh,kr,Bv,ag,ai]
 rcases kid:t.id==0 with _ | _
 ·simp only[go_sem,aa3,bH,bi,kpc,kh,kr,kid,Bv,ag,ai]
 simp only[go_sem,aa3,bH,bi,kpc,kh,kr,kid]
 refine CW (AAI t.q) fun _=>?_
 rcases kq:yI t.q with _ | _
 ·simp only[go_sem,kpc,kh,kr,kid,kq,Bv,ag,ai]
 rcases kts:t.ts==0 with _ | _
 ·simp only[go_sem,kpc,kh,kr,kid,kq,kts,Bv,ag,ai]
 rcases kver:t.ver==0 with _ | _
 ·simp only[go_sem,kpc,kh,kr,kid,kq,kts,kver,Bv,ag,ai]
 rcases kl:((t.l.length:Int)==0) with _ | _
 ·simp only[go_sem,kpc,kh,kr,kid,kq,kts,kver,kl,Bv,ag,ai]
 rcases ki:t.i==0 with _ | _
 ·simp only[go_sem,kpc,kh,kr,kid,kq,kts,kver,kl,ki,Bv,ag,ai]
 rcases kj:t.j==0 with _ | _
 ·simp only[go_sem,kpc,kh,kr,kid,kq,kts,kver,kl,ki,kj,Bv,ag,ai]
 rcases ks:t.s==0 with _ | _
 ·simp only[go_sem,kpc,kh,kr,kid,kq,kts,kver,kl,ki,kj,ks,Bv,ag,ai]
 rcases kat:t.at0==0 with _ | _
 ·simp only[go_sem,kpc,kh,kr,kid,kq,kts,kver,kl,ki,kj,ks,kat,Bv,ag,ai]
 rcases kown:t.own==0 with _ | _
 ·simp only[go_sem,kpc,kh,kr,kid,kq,kts,kver,kl,ki,kj,ks,kat,kown,Bv,ag,ai]
 rcases kwon:t.won with _ | _
 rotate_left
 ·simp only[go_sem,kpc,kh,kr,kid,kq,kts,kver,kl,ki,kj,ks,kat,kown,kwon,Bv,ag,ai,aQ]
 simp only[go_sem,kpc,kh,kr,kid,kq,kts,kver,kl,ki,kj,ks,kat,kown,kwon,Bv,ai,aN]
def Xe (t:DTask):List Cl:=[.v (.int .i64 t.op),.v (.int .i64 t.pc),.v (.int .i64 t.h),.sl (t.r.map DVal.c),.v (.int .i64 t.id),.v (.int .i64 t.q.kind),.v (.int .i64 t.q.p.kind),.v (.int .i64 t.q.p.col),.v (.int .i64 t.q.p.op),.v (.int .i64 t.q.p.v.ty),.v (.int .i64 t.q.p.v.n),.v (.string t.q.p.v.s),.sl (t.q.p.l.map DPred.c),.v (.int .i64 t.q.col),.sl (t.q.out.map intC),.v (.int .i64 t.ts),.v (.int .i64 t.ver),.sl (t.l.map DRef.c),.v (.int .i64 t.i),.v (.int .i64 t.j),.v (.int .i64 t.s),.v (.int .i64 t.at0),.v (.int .i64 t.own),.v (.bool t.won),.sl (t.got.map DRow.c)]
@[go_sem] theorem AFQ (t:DTask):Xe t = [.v (.int .i64 t.op),.v (.int .i64 t.pc),.v (.int .i64 t.h),.sl (t.r.map DVal.c),.v (.int .i64 t.id),.v (.int .i64 t.q.kind),.v (.int .i64 t.q.p.kind),.v (.int .i64 t.q.p.col),.v (.int .i64 t.q.p.op),.v (.int .i64 t.q.p.v.ty),.v (.int .i64 t.q.p.v.n),.v (.string t.q.p.v.s),.sl (t.q.p.l.map DPred.c),.v (.int .i64 t.q.col),.sl (t.q.out.map intC),.v (.int .i64 t.ts),.v (.int .i64 t.ver),.sl (t.l.map DRef.c),.v (.int .i64 t.i),.v (.int .i64 t.j),.v (.int .i64 t.s),.v (.int .i64 t.at0),.v (.int .i64 t.own),.v (.bool t.won),.sl (t.got.map DRow.c)]:=rfl
def JD (k op:Int):Bool:=if(op==0)=true then true else if(decide (k<3))=true then Ac op 1 3 else op==4
theorem dG (k op:Int):Ctr prog 213 [.c (.v (.int .i64 (k))),.c (.v (.int .i64 (op)))] [.val (.c (.v (.bool (JD k op))))]:=by
 refine CM call213 func213 ntmps213 results213 fun hw=>?_
 rcases h1:op==0 with _ | _
 ·rcases h2:decide (k<3) with _ | _
  ·simp only[go_sem,h1,h2,JD,az,aI]
  ·simp only[go_sem,h1,h2,JD,az,aI,aW]
   refine CallK.mk _ (AC op 1 3) fun _=>?_
   simp only[go_sem]
 ·simp only[go_sem,h1,JD,aW]
def numsL (t:DTask):List Int:=[t.h,t.id,t.ts,t.ver,t.i,t.j,t.s,t.at0,t.own]
def Bz (n:Int):Bool:=!decide (n<0)
def FP (r:DRef):Bool:=Dv r && !decide (r.first<0)
def qy (t:DTask):Bool:=!((t.id != 0)&&((t.op != 1)&&(t.op != 2)))
def Ib (t:DTask) (k:Int):Bool:=Ac k 0 4&&(JD k t.op&&(Ac t.pc 0 9&&(!decide ((t.l.length:Int)>8)&&((numsL t).all Bz&&(t.l.all FP&&(qy t&&((t.op != 0)||Bv t)))))))
def yJ (t:DTask) (k:Int):Bool:=if(t.op==0)=true then Bv t else if(t.op==1)=true then decide (k<3) else if(t.op==2)=true then decide (k<3) else if(t.op==3)=true then decide (k<3)&&(t.id==0) else(t.op==4)&&(decide (k≥3)&&(t.id==0))
theorem AB_ (t:DTask) (k:Int):yJ t k=(JD k t.op&&(qy t&&((t.op != 0)||Bv t))):=by
 have hb:Bv t=true→(t.id==0)=true:=by
  intro h
  simp only[Bv,ax] at h
  exact h.2.2.2.1
 unfold yJ JD qy
 rcases h0:t.op==0 with _ | _
 ·rcases h1:t.op==1 with _ | _
  ·rcases h2:t.op==2 with _ | _
   ·rcases h3:t.op==3 with _ | _
    ·have hr:Ac t.op 1 3=false:=by
      simp at h0 h1 h2 h3
      simp[Ac]; omega
     by_cases hk:k<3
     ·have hk2:decide (k≥3)=false:=by simp; omega
      simp[h0,h1,h2,hk,hk2,hr,bne]
     ·have hk2:decide (k≥3)=true:=by simp; omega
      simp[h0,h1,h2,hk,hk2,bne]
    ·have e3:t.op=3:=by simpa using h3
     by_cases hk:k<3<;>simp[e3,hk,Ac,bne]
   ·have e2:t.op=2:=by simpa using h2
    by_cases hk:k<3<;>simp[e2,hk,Ac,bne]
  ·have e1:t.op=1:=by simpa using h1
   by_cases hk:k<3<;>simp[e1,hk,Ac,bne]
 ·have e0:t.op=0:=by simpa using h0
  rcases hbl:Bv t with _ | _
  ·simp[e0,bne]
  ·have:=hb hbl
   simp[e0,bne,this]
theorem UZ (t:DTask) (k:Int) (hf:FW t):Ctr prog 170 [.agg t.c,.c (.v (.int .i64 (k)))] [.val (.c (.v (.bool (Ib t k))))]:=by
 rw[D6] at hf
 refine CM call170 func170 ntmps170 results170 fun hw=>?_
 have hl:=hf.2.2.1
 simp only[go_sem]
 refine CallK.mk _ (AC k 0 4) fun _=>?_
 rcases h1:Ac k 0 4 with _ | _
 ·simp only[go_sem,h1,Ib,ag]
 simp only[go_sem]
 refine CallK.mk _ (dG k t.op) fun _=>?_
 rcases h2:JD k t.op with _ | _
 ·simp only[go_sem,h1,h2,Ib,ag,ai]
 simp only[go_sem]
 refine CallK.mk _ (AC t.pc 0 9) fun _=>?_
 rcases h3:Ac t.pc 0 9 with _ | _
 ·simp only[go_sem,h1,h2,h3,Ib,ag,ai]
 rcases h4:decide ((t.l.length:Int)>8) with _ | _
 rotate_left
 ·simp only[go_sem,h1,h2,h3,h4,Ib,aQ,ag,ai]
 have ht:Ib t k=((numsL t).all Bz&&(t.l.all FP&&(qy t&&((t.op != 0)||Bv t)))):=by
  simp only[Ib,h1,h2,h3,h4,aN,ai]
 simp only[go_sem,h4,aS]
 refine LoopU.mk 2 (A:=Nat) (fun x=>[(51,.c (.v (.int .i64 (x))))]) (fun _=>[⟨127,25,[Xe t],true,true⟩,⟨3,1,(numsL t).map intC,true,true⟩]) (Eh (numsL t) Bz) (fun x=>(numsL t).length-x) 0 ⟨⟨rfl,rfl⟩,rfl,DJ⟩ ?_
 intro m hm
 simp only[go_sem]
 refine cndC.mk (fun h=>?_) (fun h=>?_)
 ·have hk':m<(numsL t).length:=by simp[numsL] at h ⊢; omega
  have hwm:IntKind.i64.wrap ((m:Int)+1)=((m+1:Nat):Int):=by have:m<9:=hk'; rw[wrap_i64 (by omega) (by omega)]; rfl
  simp only[go_sem,AA _ hk',hk']
  refine cndC.mk (fun hn=>?_) (fun hn=>?_)
  ·have hn2:Bz (numsL t)[m]=false:=by unfold Bz; rw[hn]; rfl
   simp only[go_sem,ht,A_ (p:=Bz) hk' hn2,ag]
  ·have hn2:Bz (numsL t)[m]=true:=by unfold Bz; rw[hn]; rfl
   simp only[go_sem,hwm]
   exact⟨m+1,⟨rfl,rfl⟩,rfl,BI hk' hm hn2,by have:m<(numsL t).length:=hk'; omega⟩
 have hk':m=(numsL t).length:=by have:=hm.1; simp[numsL] at h this ⊢; omega
 subst hk'
 rw[ht,Bo hm,ai]
 simp only[go_sem]
 refine LoopU.mk 2 (A:=Nat) (fun x=>[(61,.c (.v (.int .i64 (x))))]) (fun _=>[⟨127,25,[Xe t],true,true⟩,⟨3,1,(numsL t).map intC,true,true⟩]) (Eh t.l FP) (fun x=>t.l.length-x) 0 ⟨⟨rfl,rfl⟩,rfl,DJ⟩ ?_
 intro j hj
 simp only[go_sem]
 refine cndC.mk (fun h=>?_) (fun h=>?_)
 ·have hk':j<t.l.length:=by simpa using h
  simp only[go_sem,AA _ hk']
  try refine DrawK.mk ?_
  try simp only[go_sem,AA _ hk',hk']
  first | refine CY (PW t.l[j]) ?_ | refine CW (PW t.l[j]) fun _=>?_
  rcases h5:Dv t.l[j] with _ | _
  ·simp only[go_sem,A_ (p:=FP) hk' (by simp only[FP,h5,ag]),ag]
  rcases h6:decide (t.l[j].first<0) with _ | _
  ·simp only[go_sem,h6,wrap_i64 (n:=(j:Int)+1) (by omega) (by omega)]
   exact⟨j+1,⟨rfl,rfl⟩,rfl,BI hk' hj (by simp only[FP,h5,h6]; rfl),by omega⟩
  ·simp only[go_sem,h6,A_ (p:=FP) hk' (by simp only[FP,h5,h6]; rfl),ag]
 have hk':j=t.l.length:=by have:=hj.1; simp at h; omega
 subst hk'
 rw[Bo hj,ai]
 unfold qy
 have fin:∀ b,b=true→b=true:=fun _ h=>h
 rcases k0:t.op != 0 with _ | _
 ·have e0:t.op=0:=by simpa using k0
  have e1:(t.op != 1)=true:=by simp[e0]
  have e2:(t.op != 2)=true:=by simp[e0]
  rcases k3:t.id != 0 with _ | _
  ·simp only[go_sem,k0,k3,e1,e2,ag,aN,ai,bT]
   refine CW (qw t hf.2.1) fun _=>?_
   simp only[go_sem]
  ·simp only[go_sem,k3,e1,e2,ai,aQ,ag]
 ·rcases k1:t.op != 1 with _ | _<;>rcases k2:t.op != 2 with _ | _<;>rcases k3:t.id != 0 with _ | _ <;>
   simp only[go_sem,k0,k1,k2,k3,ag,aJ,aN,aQ,ai,Om]
theorem ADd (t:DTask) (k:Int):Ib t k=(Ac k 0 4&&(Ac t.pc 0 9&&((numsL t).all Bz&&(!decide ((t.l.length:Int)>8)&&(t.l.all FP&&yJ t k))))):=by
 rw[AB_]
 unfold Ib
 rcases Ac k 0 4<;>rcases JD k t.op<;>rcases Ac t.pc 0 9<;>rcases decide ((t.l.length:Int)>8)<;>rcases(numsL t).all Bz<;>rcases t.l.all FP<;>simp only[ag,ai,aJ,aQ,aN]
theorem Ua (t:DTask) (k:Int) (hf:FW t):Ctr prog 154 [.agg t.c,.c (.v (.int .i64 (k)))] [.val (.c (.v (.bool (Ib t k))))]:=by
 rw[D6] at hf
 rw[ADd]
 refine CM call154 func154 ntmps154 results154 fun hw=>?_
 have hl:=hf.2.2.1
 simp only[go_sem,bH,bi]
 refine CallK.mk _ (AL k 0 4) fun _=>?_
 rcases h1:Ac k 0 4 with _ | _
 ·simp only[go_sem,ag]
 simp only[go_sem]
 refine CallK.mk _ (AL t.pc 0 9) fun _=>?_
 rcases h3:Ac t.pc 0 9 with _ | _
 ·simp only[go_sem,ag]
 rcases n0:decide (t.h<0) with _ | _
 rotate_left
 ·have e:(numsL t).all Bz=false:=A_ (k:=0) (show 0<9 by decide) (show Bz (t.h)=false by unfold Bz; rw[n0]; rfl)
  simp only[go_sem,n0,e,ag,ai]
 rcases n1:decide (t.id<0) with _ | _
 rotate_left
 ·have e:(numsL t).all Bz=false:=A_ (k:=1) (show 1<9 by decide) (show Bz (t.id)=false by unfold Bz; rw[n1]; rfl)
  simp only[go_sem,n0,n1,e,ag,ai]
 rcases n2:decide (t.ts<0) with _ | _
 rotate_left
 ·have e:(numsL t).all Bz=false:=A_ (k:=2) (show 2<9 by decide) (show Bz (t.ts)=false by unfold Bz; rw[n2]; rfl)
  simp only[go_sem,n0,n1,n2,e,ag,ai]
 rcases n3:decide (t.ver<0) with _ | _
 rotate_left
 ·have e:(numsL t).all Bz=false:=A_ (k:=3) (show 3<9 by decide) (show Bz (t.ver)=false by unfold Bz; rw[n3]; rfl)
  simp only[go_sem,n0,n1,n2,n3,e,ag,ai]
 rcases n4:decide (t.i<0) with _ | _
 rotate_left
 ·have e:(numsL t).all Bz=false:=A_ (k:=4) (show 4<9 by decide) (show Bz (t.i)=false by unfold Bz; rw[n4]; rfl)
  simp only[go_sem,n0,n1,n2,n3,n4,e,ag,ai]
 rcases n5:decide (t.j<0) with _ | _
 rotate_left
 ·have e:(numsL t).all Bz=false:=A_ (k:=5) (show 5<9 by decide) (show Bz (t.j)=false by unfold Bz; rw[n5]; rfl)
  simp only[go_sem,n0,n1,n2,n3,n4,n5,e,ag,ai]
 rcases n6:decide (t.s<0) with _ | _
 rotate_left
 ·have e:(numsL t).all Bz=false:=A_ (k:=6) (show 6<9 by decide) (show Bz (t.s)=false by unfold Bz; rw[n6]; rfl)
  simp only[go_sem,n0,n1,n2,n3,n4,n5,n6,e,ag,ai]
 rcases n7:decide (t.at0<0) with _ | _
 rotate_left
 ·have e:(numsL t).all Bz=false:=A_ (k:=7) (show 7<9 by decide) (show Bz (t.at0)=false by unfold Bz; rw[n7]; rfl)
  simp only[go_sem,n0,n1,n2,n3,n4,n5,n6,n7,e,ag,ai]
 rcases n8:decide (t.own<0) with _ | _
 rotate_left
 ·have e:(numsL t).all Bz=false:=A_ (k:=8) (show 8<9 by decide) (show Bz (t.own)=false by unfold Bz; rw[n8]; rfl)
  simp only[go_sem,n0,n1,n2,n3,n4,n5,n6,n7,n8,e,ag,ai]
 have e9:(numsL t).all Bz=true:=by simp only[numsL,bK,Oo,Bz,n0,n1,n2,n3,n4,n5,n6,n7,n8,aN,aU]
 rcases h4:decide ((t.l.length:Int)>8) with _ | _
 rotate_left
 ·simp only[go_sem,n0,n1,n2,n3,n4,n5,n6,n7,n8,h4,aQ,ag,aJ]
 simp only[go_sem,n0,n1,n2,n3,n4,n5,n6,n7,n8,h4,e9,aN,ai]
 refine LoopU.mk 1 (A:=Nat) (fun x=>[(5,.c (.v (.int .i64 (x))))]) (fun _=>[⟨127,25,[Xe t],true,true⟩]) (Eh t.l FP) (fun x=>t.l.length-x) 0 ⟨⟨rfl,rfl⟩,rfl,DJ⟩ ?_
 intro j hj
 simp only[go_sem]
 refine cndC.mk (fun h=>?_) (fun h=>?_)
 ·have hk':j<t.l.length:=by simpa using h
  simp only[go_sem,AA _ hk']
  try refine DrawK.mk ?_
  try simp only[go_sem,AA _ hk',hk']
  first | refine CY (PX t.l[j]) ?_ | refine CW (PX t.l[j]) fun _=>?_
  rcases h5:Dv t.l[j] with _ | _
  ·simp only[go_sem,A_ (p:=FP) hk' (by simp only[FP,h5,ag]),ag]
  rcases h6:decide (t.l[j].first<0) with _ | _
  ·simp only[go_sem,AA _ hk',h6,wrap_i64 (n:=(j:Int)+1) (by omega) (by omega)]
   exact⟨j+1,⟨rfl,rfl⟩,rfl,BI hk' hj (by simp only[FP,h5,h6]; rfl),by omega⟩
  ·simp only[go_sem,AA _ hk',h6,A_ (p:=FP) hk' (by simp only[FP,h5,h6]; rfl),ag]
 have hk':j=t.l.length:=by have:=hj.1; simp at h; omega
 subst hk'
 rw[Bo hj,ai]
 unfold yJ
 rcases k0:t.op==0 with _ | _
 rotate_left
 ·simp only[go_sem,k0,aW]
  refine CW (qx t hf.2.1) fun _=>?_
  simp only[go_sem]
 rcases k1:t.op==1 with _ | _
 rotate_left
 ·simp only[go_sem,k0,k1,az,aI,aW]
 rcases k2:t.op==2 with _ | _
 rotate_left
 ·simp only[go_sem,k0,k1,k2,az,aI,aW]
 rcases k3:t.op==3 with _ | _
 rotate_left
 ·rcases k4:decide (k<3) with _ | _<;>simp only[go_sem,k0,k1,k2,k3,k4,az,aI,aW,ag,ai]
 rcases k5:t.op==4 with _ | _
 ·simp only[go_sem,k0,k1,k2,k3,k5,az,aI,ag]
 rcases k6:decide (k≥3) with _ | _<;>simp only[go_sem,k0,k1,k2,k3,k5,k6,az,aI,ag,ai]
def CP (r:DRef) (id:Int):Bool:=decide (r.first≥0)&&(decide (id≥r.first)&&decide (IntKind.i64.wrap (id-r.first)<r.many))
noncomputable def NS (w:DWorld) (b:DBuf):Bool:=ZE w.c0.cols b&&b.c0.l.all fun s=>!decide (s.ins>w.t)
def NT (t m:Int):Bool:=MM m && !decide (m>t)
noncomputable def fV (w:DWorld) (r:DRef):List DRow:=if(r.kind==2&&there w r)=true then Eo w r else []
noncomputable def Pn (w:DWorld) (r:DRef):Bool:=there w r&&(!((r.kind==1)&&(r.many != w.c0.slots))&&(fV w r).all fun x=>CP r x.id)
def Jz (w:DWorld) (d:DDead):Bool:=match Qm w d.buf with
 | none=>false
 | some b=>(b.gen==d.gen)&&Ac d.at0 0 w.e
def kw (w:DWorld) (i:Nat):Nat:=w.x.countP (fun d=>d.buf==(i:Int))+w.tasks.countP (fun t=>t.own==(i:Int)+1)
def OW (n:Int) (b:DBuf):Bool:=!(((b.kind==0)&&decide (n>0))||((b.kind != 0)&&(n != 1)))
def NU (l:List DRef) (i:Nat):Nat:=l.countP (fun r=>r.buf==(i:Int))
def OX (w:DWorld) (i:Nat) (b:DBuf):Bool:=OW ((NU w.d.l i+kw w i:Nat):Int) b
def deed1 (w:DWorld) (d:DDeed):Bool:=Eg d&&(!decide (d.inv≥w.time)&&(!decide (d.lin≥w.time) && !decide (d.ret≥w.time)))
def looks (t:DTask):Bool:=(t.op != 0)&&decide (t.pc≥1)
def l0 (t:DTask):DRef:=t.l.headD ⟨0,0,0,0,0⟩
def ACA (w:DWorld) (t:DTask) (d:DDeed):Bool:=fits w.c0.cols t.r&&(Kt t.r d.r&&((!Ac t.pc 2 4 && !Ac t.pc 6 7)||(((t.l.length:Int)==1)&&(((l0 t).kind==1)&&((t.pc==2)||decide (t.i<(l0 t).many))))))
def rC (w:DWorld) (t:DTask) (d:DDeed):Bool:=(t.id==d.id)&&(!Ac t.pc 2 7||(((t.l.length:Int)==1)&&(CP (l0 t) t.id&&(decide (t.id<(w.m.length:Int))&&(!Ac t.pc 3 4||((l0 t).kind==1))))))
noncomputable def kz (w:DWorld) (t:DTask) (r:DRef):Bool:=if(r.kind==1)=true then decide (t.j<r.many)&&(decide (t.pc<6)||decide (IntKind.i64.wrap (r.first+t.j)<(w.m.length:Int))) else
 decide (t.pc≥6)&&(match (Eo w r)[t.j.toNat]? with
  | none=>false
  | some x=>decide (x.id<(w.m.length:Int)))
noncomputable def rD (w:DWorld) (t:DTask) (d:DDeed):Bool:=BR w.c0.cols t.q&&(Ue t.q d.q&&(!decide (t.ts>w.t)&&(!Ac t.pc 3 8||(!decide (t.i>(t.l.length:Int))&&((t.pc==3)||(match t.l[t.i.toNat]? with
 | none=>false
 | some r=>kz w t r))))))
def yK (t:DTask):Bool:=!Ac t.pc 2 5||Ac (t.l.length:Int) 1 2
noncomputable def swB (w:DWorld) (t:DTask) (d:DDeed):Bool:=if(t.op==1)=true then ACA w t d else if(t.op==2)=true then rC w t d else if(t.op==3)=true then rD w t d else yK t
def Ub (w:DWorld) (t:DTask) (kind:Int):Bool:=Ac t.own 1 w.b.length&&(match w.b[(t.own-1).toNat]? with
 | none=>false
 | some b=>b.kind==kind)
def ZG (w:DWorld) (t:DTask):Int:=match w.b[(t.own-1).toNat]? with
 | none=>0
 | some b=>b.c0.l.length
def ownB (w:DWorld) (t:DTask):Bool:=if((t.op==1)&&(t.pc==8))=true then Ub w t 1&&(ZG w t==w.c0.slots) else if((t.op==4)&&Ac t.pc 4 5)=true then Ub w t 2 else t.own==0
def ZH (k:Int) (t:DTask) (d:DDeed):Bool:=(d.task==k)&&((d.op==t.op)&&(d.ret == -1))
noncomputable def rE (w:DWorld) (k:Int) (t:DTask):Bool:=match w.deeds[t.h.toNat]? with
 | none=>false
 | some d=>ZH k t d&&(t.l.all (there w)&&(ownB w t&&swB w t d))
noncomputable def Po (w:DWorld) (k:Int) (t:DTask) (p:Int):Bool:=Ib t k&&(((p != -1)==looks t)&&((t.op==0)||rE w k t))
noncomputable def fZ (w:DWorld):Bool:=((w.b.length:Int)==w.c0.bufs)&&w.b.all (NS w)
def Pq (w:DWorld):Bool:=w.m.all (NT w.t)&&((w.m.length:Int)==endOf w.d)
noncomputable def ZI (w:DWorld):Bool:=w.d.l.all (Pn w)
def ZJ (w:DWorld):Bool:=w.x.all (Jz w)
noncomputable def Pv {α:Type} (l:List α) (p:Nat→α→Bool):Bool:=@decide (∀ k (h:k<l.length),p k l[k]=true) (Classical.propDecidable _)
theorem IL {α:Type} {l:List α} {p:Nat→α→Bool} {k:Nat} (h:k<l.length) (hp:p k l[k]=false):Pv l p=false:=by
 simp only[Pv,aaN]
 intro h2
 rw[h2 k h] at hp
 cases hp
def rF {α:Type} (l:List α) (p:Nat→α→Bool) (n:Nat):Prop:=n≤l.length∧∀ k (h:k<l.length),k<n→p k l[k]=true
theorem lC {α:Type} {l:List α} {p:Nat→α→Bool}:rF l p 0:=⟨ak _,fun _ _ h=>by omega⟩
theorem MG {α:Type} {l:List α} {p:Nat→α→Bool} {k:Nat} (hk:k<l.length) (h:rF l p k) (hc:p k l[k]=true):rF l p (k+1):=⟨hk,fun i h2 h3=>by
 by_cases e:i=k
 ·subst e; exact hc
 ·exact h.2 i h2 (by omega)⟩
theorem Qe {α:Type} {l:List α} {p:Nat→α→Bool} (h:rF l p l.length):Pv l p=true:=by
 simp only[Pv,aY]
 exact fun k hk=>h.2 k hk hk
theorem f_ {α:Type} {l:List α} {p:Nat→α→Bool}:Pv l p=true↔∀ k (h:k<l.length),p k l[k]=true:=by
 simp only[Pv,aY]
noncomputable def lD (w:DWorld):Bool:=Pv w.tasks fun k t=>Po w k t (w.p[k]?.getD 0)
def VQ (w:DWorld):Bool:=w.deeds.all (deed1 w)
noncomputable def Uc (w:DWorld):Bool:=Pv w.b (OX w)
def headB (w:DWorld):Bool:=LD w.c0&&(Ac w.time 0 1000000&&(Ac w.t 1 1000000&&Ac w.e 0 1000000))
noncomputable def JE (w:DWorld):Bool:=headB w&&(KE w.d&&(!decide (w.d.ver>1000000)&&(fZ w&&(Pq w&&(ZI w&&(ZJ w&&(((w.tasks.length:Int)==5)&&(((w.p.length:Int)==5)&&(MN w.p w.e&&(lD w&&(VQ w&&Uc w)))))))))))
theorem ZK (n:Nat):∀ (l:List DRef) (e:Int) (seen:List DRef),Ia e seen l=true→(D9 seen n=true→NU l n=0)∧NU l n≤1
 | [],_,_,_=>⟨fun _=>rfl,ak _⟩
 | r::l,e,seen,h=>by
  rw[Ia] at h
  simp only[ax,abt] at h
  obtain⟨_,_,h3,h4⟩:=h
  obtain⟨g1,g2⟩:=ZK n l _ _ h4
  have ha:D9 (seen ++ [r]) n=(D9 seen n||(r.buf==(n:Int))):=by simp[D9]
  rw[ha] at g1
  unfold NU at g1 g2 ⊢
  rw[List.countP_cons]
  rcases e1:r.buf==(n:Int) with _ | _
  ·rw[e1,abw] at g1
   simp only[az,aI,abE]
   exact⟨g1,g2⟩
  ·rw[e1,Bool.or_true] at g1
   have e2:r.buf=(n:Int):=by simpa using e1
   rw[e2] at h3
   rw[g1 rfl]
   simp[h3]
theorem ADe (l:List DRef) (n:Nat):(0<NU l n)↔D9 l n=true:=by
 unfold NU D9
 rw[List.countP_pos_iff,List.any_eq_true]
theorem AAK {d:DDir} (h:KE d=true) (n:Nat):NU d.l n=if D9 d.l n=true then 1 else 0:=by
 simp only[KE,ax] at h
 have h1:=(ZK n _ _ _ h.2.2).2
 have h2:=ADe d.l n
 split
 ·rename_i h3
  have:=h2.2 h3
  omega
 ·rename_i h3
  by_cases h4:0<NU d.l n
  ·exact absurd (h2.1 h4) h3
  ·omega
theorem ZL:∀ (l:List DRef) (e:Int) (seen:List DRef),Ia e seen l=true→0≤e→e+l.length*1000000000≤9000000000000→∀ r∈l,Dv r=true∧0≤r.first∧r.first≤9000000000000
 | [],_,_,_,_,_=>by simp
 | r::l,e,seen,h,h0,hb=>by
  rw[Ia] at h
  simp only[ax,Zi] at h
  obtain⟨h1,h2,h3,h4⟩:=h
  have hm:1≤r.many∧r.many≤1000000000:=by
   simp only[Dv,Ac,ax,aY] at h1
   exact h1.2.2.2
  have hl:((r::l).length:Int)=l.length+1:=by simp
  rw[hl] at hb
  have hw:IntKind.i64.wrap (e+r.many)=e+r.many:=wrap_i64 (by omega) (by omega)
  rw[hw] at h4
  intro x hx
  rcases bW.1 hx with rfl | hx
  ·exact⟨h1,by omega,by omega⟩
  ·exact ZL l _ _ h4 (by omega) (by omega) x hx
theorem AAL {d:DDir} (h:KE d=true) {r:DRef} (hr:r∈d.l):Dv r=true∧0≤r.first∧r.first≤9000000000000:=by
 simp only[KE,ax,abt,aaN] at h
 exact ZL _ _ _ h.2.2 (by omega) (by omega) r hr
def SB (w:DWorld) (i:Nat) (b:DBuf):Bool:=OW (((if D9 w.d.l i=true then 1 else 0)+kw w i:Nat):Int) b
theorem rG {w:DWorld} (h:KE w.d=true) (i:Nat) (b:DBuf):SB w i b=OX w i b:=by
 unfold SB OX
 rw[AAK h]
theorem AAM {r:DRef} (h:Dv r=true) (h0:0≤r.first) (h1:r.first≤9000000000000) (id:Int) (hid : -9223372036854775808≤id∧id≤9223372036854775807):CP r id=Ac id r.first (IntKind.i64.wrap (IntKind.i64.wrap (r.first+r.many)-1)):=by
 have hm:1≤r.many∧r.many≤1000000000:=by
  simp only[Dv,Ac,ax,aY] at h
  exact h.2.2.2
 rw[wrap_i64 (n:=r.first+r.many) (by omega) (by omega),wrap_i64 (n:=r.first+r.many-1) (by omega) (by omega)]
 unfold CP Ac
 have e0:decide (r.first≥0)=true:=by simpa using h0
 rw[e0,ai]
 by_cases hi:r.first≤id
 ·rw[wrap_i64 (n:=id-r.first) (by omega) (by omega)]
  have e1:decide (id≥r.first)=true:=by simpa using hi
  rw[e1,ai,ai]
  exact decide_eq_decide.2 (by omega)
 ·have e1:decide (id≥r.first)=false:=by simpa using hi
  rw[e1]
  rfl
theorem AHK (n:Int):(!Ac n 2 4 && !Ac n 6 7)=(!Ac n 2 7||(n==5)):=by
 unfold Ac
 by_cases h1:n<2
 ·have:¬ (2≤n):=by omega
  have:¬ (6≤n):=by omega
  simp[*]
 ·by_cases h2:7<n
  ·have:¬ (n≤4):=by omega
   have:¬ (n≤7):=by omega
   simp[*]
  ·have h:n=2∨n=3∨n=4∨n=5∨n=6∨n=7:=by omega
   rcases h with h | h | h | h | h | h<;>subst h<;>rfl
theorem AFR (n:Int) (h:Ac n 2 7=true) (b:Bool):(!Ac n 3 4||b)=(decide (n>4)||((n==2)||b)):=by
 simp only[Ac,ax,aY] at h
 have h:n=2∨n=3∨n=4∨n=5∨n=6∨n=7:=by omega
 rcases h with h | h | h | h | h | h<;>subst h<;>cases b<;>rfl
end Go.Proofs.YtnchiiikacemmaaGreat
