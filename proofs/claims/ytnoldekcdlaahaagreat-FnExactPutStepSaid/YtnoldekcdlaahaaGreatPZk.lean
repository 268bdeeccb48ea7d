/- A part. -/
import Derived.Test.YtnoldekcdlaahaaGreatPZc
set_option linter.unusedSimpArgs false
set_option linter.unusedVariables false
set_option maxHeartbeats 4000000
set_option maxRecDepth 10000
open Go.Proofs.Tryz
namespace Go.Proofs.YtnoldekcdlaahaaGreat
open Go.Vm
def Y3 (t:DTask):List Cl:=[.v (.int .i64 t.op),.v (.int .i64 t.pc),.v (.int .i64 t.h),.sl (t.r.map DVal.c),.v (.int .i64 t.id),.v (.int .i64 t.q.kind),.v (.int .i64 t.q.p.kind),.v (.int .i64 t.q.p.col),.v (.int .i64 t.q.p.op),.v (.int .i64 t.q.p.v.ty),.v (.int .i64 t.q.p.v.n),.v (.string t.q.p.v.s),.sl (t.q.p.l.map DPred.c),.v (.int .i64 t.q.col),.sl (t.q.out.map intC),.v (.int .i64 t.ts),.v (.int .i64 t.ver),.sl (t.l.map DRef.c),.v (.int .i64 t.i),.v (.int .i64 t.j),.v (.int .i64 t.s),.v (.int .i64 t.at0),.v (.int .i64 t.own),.v (.bool t.won),.sl (t.got.map DRow.c)]
@[go_sem] theorem AHt (t:DTask):Y3 t = [.v (.int .i64 t.op),.v (.int .i64 t.pc),.v (.int .i64 t.h),.sl (t.r.map DVal.c),.v (.int .i64 t.id),.v (.int .i64 t.q.kind),.v (.int .i64 t.q.p.kind),.v (.int .i64 t.q.p.col),.v (.int .i64 t.q.p.op),.v (.int .i64 t.q.p.v.ty),.v (.int .i64 t.q.p.v.n),.v (.string t.q.p.v.s),.sl (t.q.p.l.map DPred.c),.v (.int .i64 t.q.col),.sl (t.q.out.map intC),.v (.int .i64 t.ts),.v (.int .i64 t.ver),.sl (t.l.map DRef.c),.v (.int .i64 t.i),.v (.int .i64 t.j),.v (.int .i64 t.s),.v (.int .i64 t.at0),.v (.int .i64 t.own),.v (.bool t.won),.sl (t.got.map DRow.c)]:=rfl
def J6 (k op:Int):Bool:=if(op==0)=true then true else if(decide (k<3))=true then Ad op 1 3 else op==4
theorem jH (k op:Int):Ctr prog 307 [.c (.v (.int .i64 (k))),.c (.v (.int .i64 (op)))] [.val (.c (.v (.bool (J6 k op))))]:=by
 refine CM call307 func307 ntmps307 results307 fun hw=>?_
 rcases h1:op==0 with _ | _
 ·rcases h2:decide (k<3) with _ | _
  ·simp only[go_sem,h1,h2,J6,aB,aX]
  ·simp only[go_sem,h1,h2,J6,aB,aX,bf]
   refine AAM _ (AL op 1 3) fun _=>?_
   exact AI5
 ·simp only[go_sem,h1,J6,bf]
def numsL (t:DTask):List Int:=[t.h,t.id,t.ts,t.ver,t.i,t.j,t.s,t.at0,t.own]
def CP (n:Int):Bool:=!decide (n<0)
def Gi (r:DRef):Bool:=Ef r && !decide (r.first<0)
def vZ (t:DTask):Bool:=!((t.id != 0)&&((t.op != 1)&&(t.op != 2)))
def G8 (t:DTask) (k:Int):Bool:=Ad k 0 4&&(J6 k t.op&&(Ad t.pc 0 9&&(!decide ((t.l.length:Int)>8)&&((numsL t).all CP&&(t.l.all Gi&&(vZ t&&((t.op != 0)||C9 t)))))))
def AAn (t:DTask) (k:Int):Bool:=if(t.op==0)=true then C9 t else if(t.op==1)=true then decide (k<3) else if(t.op==2)=true then decide (k<3) else if(t.op==3)=true then decide (k<3)&&(t.id==0) else(t.op==4)&&(decide (k≥3)&&(t.id==0))
theorem AEI (t:DTask) (k:Int):AAn t k=(J6 k t.op&&(vZ t&&((t.op != 0)||C9 t))):=by
 have hb:C9 t=true→(t.id==0)=true:=by
  intro h
  simp only[C9,ay] at h
  exact h.2.2.2.1
 unfold AAn J6 vZ
 rcases h0:t.op==0 with _ | _
 ·rcases h1:t.op==1 with _ | _
  ·rcases h2:t.op==2 with _ | _
   ·rcases h3:t.op==3 with _ | _
    ·have hr:Ad t.op 1 3=false:=by
      simp at h0 h1 h2 h3
      simp[Ad]; omega
     by_cases hk:k<3
     ·have hk2:decide (k≥3)=false:=by simp; omega
      simp[h0,h1,h2,hk,hk2,hr,bne]
     ·have hk2:decide (k≥3)=true:=by simp; omega
      simp[h0,h1,h2,hk,hk2,bne]
    ·have e3:t.op=3:=by simpa using h3
     by_cases hk:k<3<;>simp[e3,hk,Ad,bne]
   ·have e2:t.op=2:=by simpa using h2
    by_cases hk:k<3<;>simp[e2,hk,Ad,bne]
  ·have e1:t.op=1:=by simpa using h1
   by_cases hk:k<3<;>simp[e1,hk,Ad,bne]
 ·have e0:t.op=0:=by simpa using h0
  rcases hbl:C9 t with _ | _
  ·simp[e0,bne]
  ·have:=hb hbl
   simp[e0,bne,this]
theorem V6 (t:DTask) (k:Int) (hf:Gu t):Ctr prog 227 [.agg t.c,.c (.v (.int .i64 (k)))] [.val (.c (.v (.bool (G8 t k))))]:=by
 rw[DR] at hf
 refine CM call227 func227 ntmps227 results227 fun hw=>?_
 have hl:=hf.2.2.1
 simp only[go_sem]
 refine AAM _ (AL k 0 4) fun _=>?_
 rcases h1:Ad k 0 4 with _ | _
 ·simp only[go_sem,h1,G8,ag]
 simp only[go_sem,h1]
 refine AAM _ (jH k t.op) fun _=>?_
 rcases h2:J6 k t.op with _ | _
 ·simp only[go_sem,h1,h2,G8,ag,aj]
 simp only[go_sem,h1,h2]
 refine AAM _ (AL t.pc 0 9) fun _=>?_
 rcases h3:Ad t.pc 0 9 with _ | _
 ·simp only[go_sem,h1,h2,h3,G8,ag,aj]
 rcases h4:decide ((t.l.length:Int)>8) with _ | _
 rotate_left
 ·simp only[go_sem,h1,h2,h3,h4,G8,aP,ag,aj]
 have ht:G8 t k=((numsL t).all CP&&(t.l.all Gi&&(vZ t&&((t.op != 0)||C9 t)))):=by
  simp only[G8,h1,h2,h3,h4,aS,aj]
 simp only[go_sem,h1,h2,h3,h4,aH]
 refine ABK 2 (A:=Nat) (fun x=>[(51,.c (.v (.int .i64 (x))))]) (fun _=>[⟨72,25,[Y3 t],true,true⟩,⟨3,1,(numsL t).map intC,true,true⟩]) (FC (numsL t) CP) (fun x=>(numsL t).length-x) 0 ⟨⟨rfl,rfl⟩,rfl,DZ⟩ ?_
 intro m hm
 refine AOJ (fun h=>?_) fun h=>?_
 ·have hk':m<(numsL t).length:=by simp[numsL] at h ⊢; omega
  have hwm:IntKind.i64.wrap ((m:Int)+1)=((m+1:Nat):Int):=by have:m<9:=hk'; rw[wrap_i64 AOQ AOQ]; rfl
  simp only[go_sem,AA _ hk',hk']
  refine ABG (fun hn=>?_) (fun hn=>?_)
  ·have hn2:CP (numsL t)[m]=false:=by unfold CP; rw[hn]; rfl
   simp only[go_sem,ht,BU (p:=CP) hk' hn2,ag]
  ·have hn2:CP (numsL t)[m]=true:=by unfold CP; rw[hn]; rfl
   simp only[go_sem,hwm]
   exact⟨m+1,⟨rfl,rfl⟩,rfl,BH hk' hm hn2,by have:m<(numsL t).length:=hk'; omega⟩
 have hk':m=(numsL t).length:=by have:=hm.1; simp[numsL] at h this ⊢; omega
 subst hk'
 rw[ht,DN hm,aj]
 simp only[go_sem]
 refine ABK 2 (A:=Nat) (fun x=>[(61,.c (.v (.int .i64 (x))))]) (fun _=>[⟨72,25,[Y3 t],true,true⟩,⟨3,1,(numsL t).map intC,true,true⟩]) (FC t.l Gi) (fun x=>t.l.length-x) 0 ⟨⟨rfl,rfl⟩,rfl,DZ⟩ ?_
 intro j hj
 refine AOJ (fun h=>?_) fun h=>?_
 ·have hk':j<t.l.length:=by simpa using h
  simp only[go_sem,AA _ hk',hk']
  try refine AAm ?_
  try simp only[go_sem,AA _ hk',hk']
  first | refine CY (RP t.l[j]) ?_ | refine CW (RP t.l[j]) fun _=>?_
  rcases h5:Ef t.l[j] with _ | _
  ·simp only[go_sem,h5,BU (p:=Gi) hk' (by simp only[Gi,h5,ag]),ag]
  rcases h6:decide (t.l[j].first<0) with _ | _
  ·simp only[go_sem,h5,h6,wrap_i64 (n:=(j:Int)+1) AOQ AOQ]
   exact AN4
  ·simp only[go_sem,h5,h6,BU (p:=Gi) hk' (by simp only[Gi,h5,h6]; rfl),ag]
 have hk':j=t.l.length:=AOw
 subst hk'
 rw[DN hj,aj]
 unfold vZ
 have fin:∀ b,b=true→b=true:=fun _ h=>h
 rcases k0:t.op != 0 with _ | _
 ·have e0:t.op=0:=by simpa using k0
  have e1:(t.op != 1)=true:=by simp[e0]
  have e2:(t.op != 2)=true:=by simp[e0]
  rcases k3:t.id != 0 with _ | _
  ·simp only[go_sem,k0,k3,e1,e2,ag,aS,aj,bZ]
   refine CW (vW t hf.2.1) fun _=>?_
   exact AI5
  ·simp only[go_sem,k0,k3,e1,e2,aj,aP,ag]
 ·rcases k1:t.op != 1 with _ | _<;>rcases k2:t.op != 2 with _ | _<;>rcases k3:t.id != 0 with _ | _ <;>
   simp only[go_sem,k0,k1,k2,k3,ag,aK,aS,aP,aj,dh]
theorem AF1 (t:DTask) (k:Int):G8 t k=(Ad k 0 4&&(Ad t.pc 0 9&&((numsL t).all CP&&(!decide ((t.l.length:Int)>8)&&(t.l.all Gi&&AAn t k))))):=by
 rw[AEI]
 unfold G8
 rcases Ad k 0 4<;>rcases J6 k t.op<;>rcases Ad t.pc 0 9<;>rcases decide ((t.l.length:Int)>8)<;>rcases(numsL t).all CP<;>rcases t.l.all Gi<;>simp only[ag,aj,aK,aP,aS]
theorem V7 (t:DTask) (k:Int) (hf:Gu t):Ctr prog 199 [.agg t.c,.c (.v (.int .i64 (k)))] [.val (.c (.v (.bool (G8 t k))))]:=by
 rw[DR] at hf
 rw[AF1]
 refine CM call199 func199 ntmps199 results199 fun hw=>?_
 have hl:=hf.2.2.1
 simp only[go_sem,bD,aU,aO]
 refine AAM _ (AO k 0 4) fun _=>?_
 rcases h1:Ad k 0 4 with _ | _
 ·simp only[go_sem,bD,aU,aO,h1,ag]
 simp only[go_sem,bD,aU,aO,h1]
 refine AAM _ (AO t.pc 0 9) fun _=>?_
 rcases h3:Ad t.pc 0 9 with _ | _
 ·simp only[go_sem,bD,aU,aO,h1,h3,ag,aj]
 rcases n0:decide (t.h<0) with _ | _
 rotate_left
 ·have e:(numsL t).all CP=false:=BU (k:=0) (show 0<9 from AOU) (show CP (t.h)=false by unfold CP; rw[n0]; rfl)
  simp only[go_sem,bD,aU,aO,h1,h3,n0,e,ag,aj]
 rcases n1:decide (t.id<0) with _ | _
 rotate_left
 ·have e:(numsL t).all CP=false:=BU (k:=1) (show 1<9 from AOU) (show CP (t.id)=false by unfold CP; rw[n1]; rfl)
  simp only[go_sem,bD,aU,aO,h1,h3,n0,n1,e,ag,aj]
 rcases n2:decide (t.ts<0) with _ | _
 rotate_left
 ·have e:(numsL t).all CP=false:=BU (k:=2) (show 2<9 from AOU) (show CP (t.ts)=false by unfold CP; rw[n2]; rfl)
  simp only[go_sem,bD,aU,aO,h1,h3,n0,n1,n2,e,ag,aj]
 rcases n3:decide (t.ver<0) with _ | _
 rotate_left
 ·have e:(numsL t).all CP=false:=BU (k:=3) (show 3<9 from AOU) (show CP (t.ver)=false by unfold CP; rw[n3]; rfl)
  simp only[go_sem,bD,aU,aO,h1,h3,n0,n1,n2,n3,e,ag,aj]
 rcases n4:decide (t.i<0) with _ | _
 rotate_left
 ·have e:(numsL t).all CP=false:=BU (k:=4) (show 4<9 from AOU) (show CP (t.i)=false by unfold CP; rw[n4]; rfl)
  simp only[go_sem,bD,aU,aO,h1,h3,n0,n1,n2,n3,n4,e,ag,aj]
 rcases n5:decide (t.j<0) with _ | _
 rotate_left
 ·have e:(numsL t).all CP=false:=BU (k:=5) (show 5<9 from AOU) (show CP (t.j)=false by unfold CP; rw[n5]; rfl)
  simp only[go_sem,bD,aU,aO,h1,h3,n0,n1,n2,n3,n4,n5,e,ag,aj]
 rcases n6:decide (t.s<0) with _ | _
 rotate_left
 ·have e:(numsL t).all CP=false:=BU (k:=6) (show 6<9 from AOU) (show CP (t.s)=false by unfold CP; rw[n6]; rfl)
  simp only[go_sem,bD,aU,aO,h1,h3,n0,n1,n2,n3,n4,n5,n6,e,ag,aj]
 rcases n7:decide (t.at0<0) with _ | _
 rotate_left
 ·have e:(numsL t).all CP=false:=BU (k:=7) (show 7<9 from AOU) (show CP (t.at0)=false by unfold CP; rw[n7]; rfl)
  simp only[go_sem,bD,aU,aO,h1,h3,n0,n1,n2,n3,n4,n5,n6,n7,e,ag,aj]
 rcases n8:decide (t.own<0) with _ | _
 rotate_left
 ·have e:(numsL t).all CP=false:=BU (k:=8) (show 8<9 from AOU) (show CP (t.own)=false by unfold CP; rw[n8]; rfl)
  simp only[go_sem,bD,aU,aO,h1,h3,n0,n1,n2,n3,n4,n5,n6,n7,n8,e,ag,aj]
 have e9:(numsL t).all CP=true:=by simp only[numsL,bi,bJ,CP,n0,n1,n2,n3,n4,n5,n6,n7,n8,aS,aN]
 rcases h4:decide ((t.l.length:Int)>8) with _ | _
 rotate_left
 ·simp only[go_sem,bD,aU,aO,h1,h3,n0,n1,n2,n3,n4,n5,n6,n7,n8,h4,aP,ag,aK]
 simp only[go_sem,bD,aU,aO,h1,h3,n0,n1,n2,n3,n4,n5,n6,n7,n8,h4,e9,aS,aj]
 refine ABK 1 (A:=Nat) (fun x=>[(5,.c (.v (.int .i64 (x))))]) (fun _=>[⟨72,25,[Y3 t],true,true⟩]) (FC t.l Gi) (fun x=>t.l.length-x) 0 ⟨⟨rfl,rfl⟩,rfl,DZ⟩ ?_
 intro j hj
 refine AOJ (fun h=>?_) fun h=>?_
 ·have hk':j<t.l.length:=by simpa using h
  simp only[go_sem,AA _ hk',hk']
  try refine AAm ?_
  try simp only[go_sem,AA _ hk',hk']
  first | refine CY (RQ t.l[j]) ?_ | refine CW (RQ t.l[j]) fun _=>?_
  rcases h5:Ef t.l[j] with _ | _
  ·simp only[go_sem,AA _ hk',hk',h5,BU (p:=Gi) hk' (by simp only[Gi,h5,ag]),ag]
  rcases h6:decide (t.l[j].first<0) with _ | _
  ·simp only[go_sem,AA _ hk',hk',h5,h6,wrap_i64 (n:=(j:Int)+1) AOQ AOQ]
   exact AN4
  ·simp only[go_sem,AA _ hk',hk',h5,h6,BU (p:=Gi) hk' (by simp only[Gi,h5,h6]; rfl),ag]
 have hk':j=t.l.length:=AOw
 subst hk'
 rw[DN hj,aj]
 unfold AAn
 rcases k0:t.op==0 with _ | _
 rotate_left
 ·simp only[go_sem,k0,bf]
  refine CW (vX t hf.2.1) fun _=>?_
  exact AI5
 rcases k1:t.op==1 with _ | _
 rotate_left
 ·simp only[go_sem,k0,k1,aB,aX,bf]
 rcases k2:t.op==2 with _ | _
 rotate_left
 ·simp only[go_sem,k0,k1,k2,aB,aX,bf]
 rcases k3:t.op==3 with _ | _
 rotate_left
 ·rcases k4:decide (k<3) with _ | _<;>simp only[go_sem,k0,k1,k2,k3,k4,aB,aX,bf,ag,aj]
 rcases k5:t.op==4 with _ | _
 ·simp only[go_sem,k0,k1,k2,k3,k5,aB,aX,ag]
 rcases k6:decide (k≥3) with _ | _<;>simp only[go_sem,k0,k1,k2,k3,k5,k6,aB,aX,ag,aj]
end Go.Proofs.YtnoldekcdlaahaaGreat
