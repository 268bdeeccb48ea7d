/- A part. -/
import Derived.Test.YtnoldekcdlaahaaGreatPVi
set_option linter.unusedSimpArgs false
set_option linter.unusedVariables false
set_option maxHeartbeats 4000000
set_option maxRecDepth 10000
open Go.Proofs.Tryz
namespace Go.Proofs.YtnoldekcdlaahaaGreat
open Go.Vm
def iO (c:DChunk) (i:Int):Bool:=BX c i&&(decide (i<c.next)&&((c.l[i.toNat]?.map DSlot.ins).getD 1==0))
def iE (c:DChunk) (i:Int) (l:List DVal):DChunk:=if iO c i=true then⟨c.next,c.l.set i.toNat ⟨-1,l⟩⟩ else c
theorem zZ {c:DChunk} {n:Nat} (h:n<c.l.length):iO c (n:Int)=(decide ((n:Int)<c.next)&&(c.l[n].ins==0)):=by
 simp[iO,BX,h]
theorem rf (c:DChunk) (i:Int) (l:List DVal) (hc:EI c) (hl:l.length≤1048576):Ctr prog 148 [.agg c.c,.c (.v (.int .i64 (i))),.c (.sl (l.map DVal.c))] [.agg (iE c i l).o,.val (.c (.v (.bool (iO c i))))]:=by
 have hlen:=hc
 rw[CE] at hlen
 have hlen:=hlen.1
 have hl2:l.length≤2147483648:=AOQ
 refine AC2 call148 func148 rfl mixed ntmps148 results148 (by kernel_rfl) rfl fun hw=>?_
 simp only[go_sem]
 refine CW (ML c hc) fun _=>?_
 have no:iO c i=false→iE c i l=c:=fun h=>by simp[iE,h]
 rcases h1:decide (i<0) with _ | _
 rotate_left
 ·have e:iO c i=false:=by simp[iO,BX]; intro h; simp at h1; omega
  simp only[go_sem,h1,e,no e]
  try (refine ABH ?_; simp only[go_sem])
  exact AG4
 obtain⟨n,rfl⟩:=aQ (show 0≤i from APS)
 rcases h2:decide ((n:Int)≥c.next) with _ | _
 rotate_left
 ·have e:iO c (n:Int)=false:=by simp[iO]; intro _ h; simp at h2; omega
  simp only[go_sem,h1,h2,e,no e]
  try (refine ABH ?_; simp only[go_sem])
  exact AG4
 rcases h3:decide ((n:Int)≥(c.l.length:Int)) with _ | _
 rotate_left
 ·have e:iO c (n:Int)=false:=by simp[iO,BX]; intro h; simp at h3; omega
  simp only[go_sem,ae,h1,h2,h3,e,no e]
  try (refine ABH ?_; simp only[go_sem])
  exact AG4
 have hn:n<c.l.length:=APC
 rcases h4:c.l[n].ins != 0 with _ | _
 rotate_left
 ·have e:iO c (n:Int)=false:=by rw[zZ hn]; simp at h4; simp[h4]
  simp only[go_sem,ae,h1,h2,h3,h4,hn,AA _ hn,e,no e]
  try (refine ABH ?_; simp only[go_sem])
  exact AG4
 have e:iO c (n:Int)=true:=by rw[zZ hn]; simp at h4 h2; simp[h4,h2]
 have eC:iE c (n:Int) l=⟨c.next,c.l.set n ⟨-1,l⟩⟩:=by simp[iE,e]
 have hs:(c.l.map DSlot.o).set n (DSlot.o ⟨-1,l⟩)=(c.l.set n ⟨-1,l⟩).map DSlot.o:=Qh.symm
 simp only[go_sem] at hs
 simp only[go_sem,ae,h1,h2,h3,h4,hn,AA _ hn,e,eC]
 have hg:∀ row:List Cl,((c.l.map DSlot.o).set n row)[n]?=some row:=fun row=>bG (by simpa using hn)
 repeat (refine ABH ?_; simp only[go_sem,ae,hn,AA _ hn,hl2,G_,hg])
 try (simp only[go_sem,ae,hn,AA _ hn,hl2,G_,hg])
 refine EndH.close 2 n [5] (row':=DSlot.o ⟨-1,l⟩) rfl (hg _) rfl AOU ?_ ?_
 ·simp only[go_sem,DSlot.o_eq]
  simp[AB,BJ,D6]
 simp only[AQ,Ap,go_sem,ai,hs]
 exact AG4
theorem rq (c:DChunk) (i:Int) (l:List DVal) (hc:EI c) (hl:l.length≤1048576):Ctr prog 155 [.agg c.c,.c (.v (.int .i64 (i))),.c (.sl (l.map DVal.c))] [.agg (iE c i l).o,.val (.c (.v (.bool (iO c i))))]:=by
 have hlen:=hc
 rw[CE] at hlen
 have hlen:=hlen.1
 refine AC2 call155 func155 rfl mixed ntmps155 results155 (by kernel_rfl) rfl fun hw=>?_
 simp only[go_sem]
 refine CW (JL c hc) fun _=>?_
 have no:iO c i=false→iE c i l=c:=fun h=>by simp[iE,h]
 simp only[go_sem]
 try refine AAm ?_
 try simp only[go_sem]
 first | refine CY (EC c i) ?_ | refine CW (EC c i) fun _=>?_
 rcases h1:BX c i with _ | _
 ·have e:iO c i=false:=by simp[iO,h1]
  simp only[go_sem,h1,e,no e]
  try (refine ABH ?_; simp only[go_sem])
  exact AG4
 obtain⟨n,rfl⟩:=aQ (show 0≤i by simp only[BX,ay,aZ] at h1; omega)
 have hn:n<c.l.length:=by simp only[BX,ay,aZ] at h1; omega
 rcases h2:decide ((n:Int)≥c.next) with _ | _
 rotate_left
 ·have e:iO c (n:Int)=false:=by simp[iO]; intro _ h; simp at h2; omega
  simp only[go_sem,h1,h2,e,no e]
  try (refine ABH ?_; simp only[go_sem])
  exact AG4
 rcases h4:c.l[n].ins != 0 with _ | _
 rotate_left
 ·have e:iO c (n:Int)=false:=by rw[zZ hn]; simp at h4; simp[h4]
  simp only[go_sem,ae,h1,h2,h4,hn,AA _ hn,e,no e]
  try (refine ABH ?_; simp only[go_sem])
  exact AG4
 have e:iO c (n:Int)=true:=by rw[zZ hn]; simp at h4 h2; simp[h4,h2]
 have eC:iE c (n:Int) l=⟨c.next,c.l.set n ⟨-1,l⟩⟩:=by simp[iE,e]
 have hs:(c.l.map DSlot.o).set n (DSlot.o ⟨-1,l⟩)=(c.l.set n ⟨-1,l⟩).map DSlot.o:=Qh.symm
 simp only[go_sem] at hs
 have hg:∀ row:List Cl,((c.l.map DSlot.o).set n row)[n]?=some row:=fun row=>bG (by simpa using hn)
 simp only[go_sem,ae,h1,h2,h4,hn,AA _ hn,e,eC]
 first | refine AAM _ (FD l hl) fun _=>?_ | (refine ABH ?_; simp only[go_sem,ae,hn,AA _ hn,hg]; refine ACI _ (FD l hl) ?_)
 simp only[go_sem,ae,hn,AA _ hn,hg]
 repeat (refine ABH ?_; simp only[go_sem,ae,hn,AA _ hn,hg])
 refine EndH.close 2 n [4] (row':=DSlot.o ⟨-1,l⟩) rfl (hg _) rfl AOU ?_ ?_
 ·simp only[go_sem,DSlot.o_eq]
  simp[AB,BJ,D6]
 simp only[AQ,Ap,go_sem,ai,hs]
 exact AG4
end Go.Proofs.YtnoldekcdlaahaaGreat
