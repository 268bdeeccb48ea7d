/- A part. -/
import Derived.Test.YtnoldekcdlaahaaGreatZp
import Derived.Test.YtnoldekcdlaahaaGreatBg
import Derived.Test.YtnoldekcdlaahaaGreatDa
import Derived.Test.YtnoldekcdlaahaaGreatTy
import Derived.Test.YtnoldekcdlaahaaGreatVm
import Derived.Test.YtnoldekcdlaahaaGreatVa
import Derived.Test.YtnoldekcdlaahaaGreatZi
import Derived.Test.YtnoldekcdlaahaaGreatVe
import Derived.Test.YtnoldekcdlaahaaGreatRd
set_option linter.unusedSimpArgs false
set_option linter.unusedVariables false
set_option maxHeartbeats 4000000
set_option maxRecDepth 10000
open Go.Proofs.Tryz
namespace Go.Proofs.YtnoldekcdlaahaaGreat
open Go.Vm
section
variable {p q r:Prop}
theorem AQM(h:p:=by kernel_rfl):p:=h
end
def Jb (l:List DTask):Int:=(l.countP fun t=>!(t.op==0):Nat)
theorem jy {l:List DTask} {k:Nat} (h:k<l.length):Jb (l.take (k+1))=if(l[k].op==0)=true then Jb (l.take k) else Jb (l.take k)+1:=by
 rw[aag h,Jb,List.countP_append]
 rcases e:l[k].op==0 with _ | _<;>simp[Jb,e]
theorem AAb (l:List DTask) (k:Nat):0≤Jb (l.take k)∧Jb (l.take k)≤k:=by
 have:=List.countP_le_length (p:=fun t:DTask=>!(t.op==0)) (l:=l.take k)
 rw[bz] at this
 unfold Jb
 omega
theorem j_ {l:List DTask} (h:decide (Jb l>0)=false) {n:Nat} (hn:n<l.length):(l[n].op==0)=true:=by
 have h0:(l.countP fun t=>!(t.op==0))=0:=by
  have:¬ Jb l>0:=AO7
  unfold Jb at this
  omega
 have:=List.countP_eq_zero.1 h0 l[n] (ax hn)
 simpa using this
theorem yQ (w:DWorld) (hf:AX w):Ctr prog 71 [.agg w.c] [.val (.c (.v (.int .i64 (Jb w.tasks))))]:=by
 refine CM call71 func71 ntmps71 results71 fun hw=>?_
 have hl:=NV hf
 simp only[go_sem]
 refine AB4 1 (A:=Nat) (fun x=>[(9,.c (.v (.int .i64 (x)))),(3,.c (.v (.int .i64 (Jb (w.tasks.take x)))))]) (fun _=>[⟨44,14,[w.c],true,true⟩]) (fun x=>x≤w.tasks.length) (fun x=>w.tasks.length-x) 0 ⟨⟨rfl,rfl⟩,rfl,az _⟩ ?_
 intro k hk
 refine AOb (fun h=>?_) fun h=>?_
 ·have hk':k<w.tasks.length:=by simpa using h
  have hfo:=jy hk'
  have hbl:=AAb w.tasks k
  simp only[go_sem,AA _ hk',hk']
  try refine AAm ?_
  try simp only[go_sem,AA _ hk',hk']
  first | refine CY (QU w.tasks[k]) ?_ | refine CW (QU w.tasks[k]) fun _=>?_
  rcases hc:w.tasks[k].op==0 with _ | _
  ·simp only[go_sem,hc,aK,wrap_i64 (n:=(k:Int)+1) AOh AOh,wrap_i64 (n:=Jb (w.tasks.take k)+1) AOh AOh]
   exact AME
  ·simp only[go_sem,hc,aJ,wrap_i64 (n:=(k:Int)+1) AOh AOh]
   exact AME
 ·exact ANw
theorem yR (w:DWorld) (hf:AX w):Ctr prog 68 [.agg w.c] [.val (.c (.v (.int .i64 (Jb w.tasks))))]:=by
 refine CM call68 func68 ntmps68 results68 fun hw=>?_
 have hl:=NV hf
 simp only[go_sem]
 refine AB4 1 (A:=Nat) (fun x=>[(4,.c (.v (.int .i64 (x)))),(3,.c (.v (.int .i64 (Jb (w.tasks.take x)))))]) (fun _=>[⟨44,14,[w.c],true,true⟩]) (fun x=>x≤w.tasks.length) (fun x=>w.tasks.length-x) 0 ⟨⟨rfl,rfl⟩,rfl,az _⟩ ?_
 intro k hk
 refine AOb (fun h=>?_) fun h=>?_
 ·have hk':k<w.tasks.length:=by simpa using h
  have hfo:=jy hk'
  have hbl:=AAb w.tasks k
  rcases hc:w.tasks[k].op==0 with _ | _
  ·have hc2:(w.tasks[k].op != 0)=true:=by simp only[bne,hc,aK]
   simp only[go_sem,AA _ hk',hk',hc2,wrap_i64 (n:=(k:Int)+1) AOh AOh,wrap_i64 (n:=Jb (w.tasks.take k)+1) AOh AOh]
   exact AME
  ·have hc2:(w.tasks[k].op != 0)=false:=by simp only[bne,hc,aJ]
   simp only[go_sem,AA _ hk',hk',hc2,wrap_i64 (n:=(k:Int)+1) AOh AOh]
   exact AME
 ·exact ANw
theorem kC {α:Type} (g:Int→α→Int) (n0:Int) (l:List α) {k:Nat} (h:k<l.length):(l.take (k+1)).foldl g n0=g ((l.take k).foldl g n0) l[k]:=by
 rw[aag h,abD]; rfl
def Py (l:List DBuf):Int:=l.foldl (fun n t=>if(t.kind==0)=true then IntKind.i64.wrap (n+1) else n) 0
theorem nO (l:List DBuf):Ctr prog 159 [.c (.sl (l.map DBuf.c))] [.val (.c (.v (.int .i64 (Py l))))]:=by
 refine CM call159 func159 ntmps159 results159 fun hw=>?_
 have hlen:l.length≤9223372036854775807:=by
  have:=hw.1.1; simpa [Go.maxLen] using this
 simp only[go_sem,ae]
 refine AB7 0 [0,3,4] (A:=Nat) (fun k=>⟨20,[(0,.c (.sl (l.map DBuf.c))),(3,.c (.v (.int .i64 ((l.take k).foldl (fun n t=>if(t.kind==0)=true then IntKind.i64.wrap (n+1) else n) (0))))),(4,.c (.v (.int .i64 k)))],[]⟩) (fun k=>k≤l.length) (fun k=>l.length-k) 0 ⟨⟨rfl,rfl⟩,rfl,az _⟩ ?_
 exact AJX
theorem nP (l:List DBuf):Ctr prog 168 [.c (.sl (l.map DBuf.c))] [.val (.c (.v (.int .i64 (Py l))))]:=by
 refine CM call168 func168 ntmps168 results168 fun hw=>?_
 have hlen:l.length≤9223372036854775807:=by
  have:=hw.1.1; simpa [Go.maxLen] using this
 simp only[go_sem,ae]
 refine AB7 0 [0,3,6,7,8] (A:=Nat) (fun k=>⟨19,[(0,.c (.sl (l.map DBuf.c))),(3,.c (.v (.int .i64 ((l.take k).foldl (fun n t=>if(t.kind==0)=true then IntKind.i64.wrap (n+1) else n) (0))))),(6,.c (.sl (l.map DBuf.c))),(7,.c (.v (.int .i64 l.length))),(8,.c (.v (.int .i64 k)))],[]⟩) (fun k=>k≤l.length) (fun k=>l.length-k) 0 ⟨⟨rfl,rfl⟩,rfl,az _⟩ ?_
 exact AJX
def Qs:DTask:=⟨4,0,0,[],0,IU,0,0,[],0,0,0,0,0,false,[]⟩
def U3:DDeed:=⟨4,0,[],-1,IU,ABX,0,0,0,0,0⟩
noncomputable def GI (w:DWorld):Bool:=TV w&&(((Ei w).2 != 0)&&(Py w.b != 0))
noncomputable def KG (w:DWorld) (n:Nat):Bool:=decide ((n:Int)≥3)&&GI w
theorem nR (w:DWorld):GG (AGN w Qs):=by
 rw[EC]
 exact⟨Qv,⟨kF,by simp[AGN,Qs,IU]⟩,by simp[AGN,Qs],Qv⟩
theorem nS (w:DWorld) (k:Int) (t:DTask):Fj (AGO w k t U3):=by
 rw[Hg]
 exact⟨Qv,⟨kF,by simp[AGO,U3,IU]⟩,Qv,by simp[AGO,U3,ABX,Gh]⟩
theorem yS (w:DWorld) (n:Nat) (hf:AX w) (h1:DY w=true) (hlt:n<w.tasks.length) (h0:(w.tasks[n].op==0)=true):Ctr prog 70 [.agg w.c,.c (.v (.int .i64 ((n:Int))))] [.val (.c (.v (.bool (KG w n))))]:=by
 have e0:w.tasks[n].op=0:=APU
 have hl:=Hm h1
 have hi:Aa (n:Int) 0 4=true:=AQB
 have hld:w.deeds.length+1≤2147483648:=by rw[A8] at hf; have:=hf.2.2.2.2.2.2.2.1; omega
 refine ADq call70 func70 rfl mixed ntmps70 results70 AQM rfl fun hw=>?_
 simp only[go_sem]
 refine ACK (fn:=f176) call176 func176 rfl mixed ntmps176 results176 AQM rfl ?_
 simp only[go_sem]
 refine CW (ET w hf) fun _=>?_
 simp only[go_sem]
 refine CW (LP w hf) fun _=>?_
 simp only[go_sem,h1]
 refine CW (AP (n:Int) 0 4) fun _=>?_
 simp only[go_sem,hi]
 refine ACK (fn:=f282) call282 func282 rfl mixed ntmps282 results282 AQM rfl ?_
 simp only[go_sem]
 refine ACy _ _ (ng w rfl) ?_
 rcases h3:TV w with _ | _
 ·simp only[go_sem,h3,KG,GI,ai,aH]
  refine CW (ET w hf) fun _=>?_
  simp only[go_sem]
  exact AJb
 have o1:((0:Int)==1)=false:=rfl
 have o2:((0:Int)==2)=false:=rfl
 have o3:((0:Int)==3)=false:=rfl
 simp only[go_sem,h3,hlt,AA _ hlt,e0,o1,o2,o3]
 rcases h4:decide ((n:Int)≥3) with _ | _
 ·have h5:decide ((n:Int)<3)=true:=by simp at h4 ⊢; omega
  simp only[go_sem,h5,KG,h4,ai]
  refine CW (ET w hf) fun _=>?_
  simp only[go_sem]
  exact AJb
 have h5:decide ((n:Int)<3)=false:=by simp at h4 ⊢; omega
 simp only[go_sem,h5]
 have o0:((0:Int)==0)=true:=rfl
 refine ACK (fn:=f66) call66 func66 rfl mixed ntmps66 results66 AQM rfl ?_
 simp only[go_sem,hlt,AA _ hlt,e0,o0]
 refine ACw (args:=[.agg w.c]) _ (by simp only[DX,Ai,GH,BZ,Ci,Ac,go_sem]) rfl (by simpa only[go_sem] using jA w hf) fun _=>?_
 rcases h6:(Ei w).2==0 with _ | _
 rotate_left
 ·have h7:((Ei w).2 != 0)=false:=by simp only[bne,h6,aJ]
  simp only[go_sem,h6,KG,GI,h7,ai,aH]
  refine CW (ET w hf) fun _=>?_
  simp only[go_sem]
  exact AJb
 have h7:((Ei w).2 != 0)=true:=by simp only[bne,h6,aK]
 simp only[go_sem,h6]
 refine ACw (args:=[.c (.sl (w.b.map DBuf.c))]) _ (by simp only[DX,go_sem]) rfl (by simpa only[go_sem] using nO w.b) fun _=>?_
 rcases h8:Py w.b==0 with _ | _
 rotate_left
 ·have h9:(Py w.b != 0)=false:=by simp only[bne,h8,aJ]
  simp only[go_sem,h8,KG,GI,h9,aH]
  refine CW (ET w hf) fun _=>?_
  simp only[go_sem]
  exact AJb
 have h9:(Py w.b != 0)=true:=by simp only[bne,h8,aK]
 simp only[go_sem,h8,KG,GI,h9,h7,h4,h3,aS]
 refine ACK (fn:=f160) call160 func160 rfl mixed ntmps160 results160 AQM rfl ?_
 simp only[go_sem,ae]
 refine ABU ?_
 simp only[go_sem]
 refine ACJ _ (U_ (AGN w Qs) (nR w)) ?_
 simp only[go_sem,ae,hlt,AA _ hlt,DTask.o_eq w.tasks[n]]
 refine ABU ?_
 simp only[go_sem,ae,hlt]
 refine ACJ _ (VA (AGO w n Qs U3) (nS _ _ _)) ?_
 simp only[go_sem,ae,hlt,hld,nrD,aC]
 exact AJb
theorem yT (w:DWorld) (n:Nat) (hf:AX w) (h1:DY w=true) (hlt:n<w.tasks.length) (h0:(w.tasks[n].op==0)=true):Ctr prog 73 [.agg w.c,.c (.v (.int .i64 ((n:Int))))] [.val (.c (.v (.bool (KG w n))))]:=by
 have e0:w.tasks[n].op=0:=APU
 have hl:=Hm h1
 have hi:Aa (n:Int) 0 4=true:=AQB
 have hld:w.deeds.length+1≤2147483648:=by rw[A8] at hf; have:=hf.2.2.2.2.2.2.2.1; omega
 have hlp:n<w.p.length:=AOh
 have hg:decide ((n:Int)≥(w.tasks.length:Int))=false:=AOj
 refine ADq call73 func73 rfl mixed ntmps73 results73 AQM rfl fun hw=>?_
 simp only[go_sem]
 refine ACK (fn:=f179) call179 func179 rfl mixed ntmps179 results179 AQM rfl ?_
 simp only[go_sem]
 refine CW (LM w hf) fun _=>?_
 simp only[go_sem,h1,aJ]
 refine ACK (fn:=f284) call284 func284 rfl mixed ntmps284 results284 AQM rfl ?_
 simp only[go_sem]
 refine CW (AL (n:Int) 0 4) fun _=>?_
 simp only[go_sem,hi,aJ,ae,hg]
 rcases h4:decide ((n:Int)≥3) with _ | _
 ·have o1:((0:Int)==1)=false:=rfl
  have o2:((0:Int)==2)=false:=rfl
  have o3:((0:Int)==3)=false:=rfl
  simp only[go_sem,h4,hlt,AA _ hlt,e0,o1,o2,o3,KG,ai]
  refine CW (Di w hf) fun _=>?_
  simp only[go_sem]
  exact AJb
 simp only[go_sem,h4]
 have hi3:Aa (n:Int) 3 4=true:=by simp[Aa] at h4 ⊢; omega
 refine ACK (fn:=f67) call67 func67 rfl mixed ntmps67 results67 AQM rfl ?_
 simp only[go_sem]
 refine CW (AL (n:Int) 3 4) fun _=>?_
 simp only[go_sem,hi3,aJ]
 refine CW (Ol w (n:Int) 0 h1) fun _=>?_
 have eo:opAt w (n:Int)=0:=by simp[opAt,hlt,e0]
 have ec:uT w (n:Int) 0=TV w:=by simp[uT,hi,eo]
 have ec4:uT w (n:Int) 4=false:=by simp[uT,eo]
 rcases h3:TV w with _ | _
 ·simp only[go_sem,ec,h3]
  refine CW (Di w hf) fun _=>?_
  simp only[go_sem]
  refine CW (Ol w (n:Int) 4 h1) fun _=>?_
  simp only[go_sem,ec4,aK,KG,GI,h3,ai,aH]
  exact AJb
 simp only[go_sem,ec,h3]
 refine CW (iy w hf) fun _=>?_
 rcases h6:(Ei w).2==0 with _ | _
 rotate_left
 ·have h7:((Ei w).2 != 0)=false:=by simp only[bne,h6,aJ]
  simp only[go_sem,h6,KG,GI,h7,ai,aH]
  refine CW (Di w hf) fun _=>?_
  simp only[go_sem]
  exact AJb
 have h7:((Ei w).2 != 0)=true:=by simp only[bne,h6,aK]
 simp only[go_sem,h6]
 refine CW (nP w.b) fun _=>?_
 rcases h8:Py w.b==0 with _ | _
 rotate_left
 ·have h9:(Py w.b != 0)=false:=by simp only[bne,h8,aJ]
  simp only[go_sem,h8,KG,GI,h9,aH]
  refine CW (Di w hf) fun _=>?_
  simp only[go_sem]
  exact AJb
 have h9:(Py w.b != 0)=true:=by simp only[bne,h8,aK]
 simp only[go_sem,h8,KG,GI,h9,h7,h4,h3,aS]
 refine ACK (fn:=f169) call169 func169 rfl mixed ntmps169 results169 AQM rfl ?_
 simp only[go_sem]
 refine CW (Di w hf) fun _=>?_
 simp only[go_sem,ae,ag,bn,df,y7,uX,aA,hlt,hlp,hld,nrZ,kL,AA _ hlt,AA _ hlp,DTask.o_eq w.tasks[n]]
 repeat (refine ABU ?_; simp only[go_sem,ae,ag,bn,df,y7,uX,aA,hlt,hlp,hld,nrZ,kL,AA _ hlt,AA _ hlp,DTask.o_eq w.tasks[n]])
 exact AJb
def gone (g:Int):DBuf:=⟨g,0,⟨0,[]⟩,[]⟩
def O9 (l:List DBuf) (i:Int):List DBuf:=if h:0≤i∧i.toNat<l.length then(if(l[i.toNat]'h.2).kind != 0 then l.set i.toNat (gone (IntKind.i64.wrap ((l[i.toNat]'h.2).gen+1))) else l) else l
theorem Ws {l:List DBuf} {i:Int} (h:¬ (0≤i∧i<l.length)):O9 l i=l:=by unfold O9; rw[dif_neg AOh]
theorem U4 {l:List DBuf} {m:Nat} (h:m<l.length):O9 l (m:Int)=if l[m].kind != 0 then l.set m (gone (IntKind.i64.wrap (l[m].gen+1))) else l:=by
 unfold O9
 rw[dif_pos ⟨AOh,AO7⟩]
 rfl
theorem Head.same (s:MS):Head s s:=⟨rfl,fun _ _ _ _ _ _ h=>⟨_,_,h⟩⟩
theorem yU (l:List DBuf) (i:Int) (hl:fitS IE l):Ctr prog 321 [.c (.sl (l.map DBuf.c)),.c (.v (.int .i64 (i)))] [.own 142 5 ((O9 l i).map DBuf.o) true]:=by
 refine ADq call321 func321 rfl mixed ntmps321 results321 AQM rfl fun hw=>?_
 simp only[go_sem]
 refine AAT _ (R_ l hl) fun _=>?_
 simp only[go_sem,ae]
 rcases h1:decide (i≥0) with _ | _
 ·have hw:=Ws (l:=l) (i:=i) (fun h=>APg)
  simp only[go_sem,ae,h1,hw,BG]
  exact AL3
 rcases h2:decide (i<(l.length:Int)) with _ | _
 ·have hw:=Ws (l:=l) (i:=i) (fun h=>AOw)
  simp only[go_sem,ae,h1,h2,hw,BG]
  exact AL3
 obtain⟨m,rfl⟩:∃ m:Nat,i=m:=⟨i.toNat,APg⟩
 have hm:m<l.length:=APP
 rcases h3:(l[m].kind != 0) with _ | _
 ·have hw:O9 l (m:Int)=l:=by rw[U4 hm,h3]; rfl
  simp only[go_sem,ae,h1,h2,h3,AA _ hm,hm,hw]
  exact AL3
 have hw:O9 l (m:Int)=l.set m (gone (IntKind.i64.wrap (l[m].gen+1))):=by rw[U4 hm,h3]; rfl
 simp only[go_sem,ae,h1,h2,h3,AA _ hm,hm,hw]
 refine AC6 (t:=⟨35,[(4,.c (.ref 0))],[⟨142,5,(l.set m (gone (IntKind.i64.wrap (l[m].gen+1)))).map DBuf.o,true,true⟩]⟩) ?h ?post
 case h =>
  exact ALS
 case post =>
  exact AMF
theorem yV (l:List DBuf) (i:Int) (hl:fitS IE l):Ctr prog 320 [.c (.sl (l.map DBuf.c)),.c (.v (.int .i64 (i)))] [.own 142 5 ((O9 l i).map DBuf.o) true]:=by
 refine ADq call320 func320 rfl mixed ntmps320 results320 AQM rfl fun hw=>?_
 have hlen:=hl.1
 simp only[go_sem]
 refine AAT _ (X8 l hl) fun _=>?_
 simp only[go_sem,ae,wrap_i64 (n:=(l.length:Int)-1) AOh AOh]
 refine AAT _ (AP i 0 _) fun _=>?_
 rcases h1:Aa i 0 ((l.length:Int)-1) with _ | _
 ·have hw:=Ws (l:=l) (i:=i) (fun h=>APH)
  simp only[go_sem,ae,h1,hw,BG]
  exact AL3
 have h1':0≤i∧i≤(l.length:Int)-1:=by simpa [Aa] using h1
 obtain⟨m,rfl⟩:∃ m:Nat,i=m:=⟨i.toNat,AOh⟩
 have hm:m<l.length:=AOh
 rcases h3:(l[m].kind != 0) with _ | _
 ·have hw:O9 l (m:Int)=l:=by rw[U4 hm,h3]; rfl
  simp only[go_sem,ae,h1,h3,AA _ hm,hm,hw]
  exact AL3
 have hw:O9 l (m:Int)=l.set m (gone (IntKind.i64.wrap (l[m].gen+1))):=by rw[U4 hm,h3]; rfl
 simp only[go_sem,ae,h1,h3,AA _ hm,hm,hw]
 refine AC6 (t:=⟨32,[(4,.c (.ref 0))],[⟨142,5,(l.set m (gone (IntKind.i64.wrap (l[m].gen+1)))).map DBuf.o,true,true⟩]⟩) ?h ?post
 case h =>
  exact ALS
 case post =>
  exact AMF
def sQ (d:DDead) (e:Int):Bool:=decide (e≥2)&&decide (d.at0≤IntKind.i64.wrap (e-2))
theorem X5 (d:DDead) (e:Int):Ctr prog 375 [.agg d.c,.c (.v (.int .i64 (e)))] [.val (.c (.v (.bool (sQ d e))))]:=by
 refine CM call375 func375 ntmps375 results375 fun hw=>?_
 exact AN5
theorem X6 (d:DDead) (e:Int):Ctr prog 379 [.agg d.c,.c (.v (.int .i64 (e)))] [.val (.c (.v (.bool (sQ d e))))]:=by
 refine CM call379 func379 ntmps379 results379 fun hw=>?_
 exact AN5
def QX (e:Int):Nat→List DDead→Int
 | _,[]=>-1
 | k,x::l=>if sQ x e=true then(k:Int) else QX e (k+1) l
def JU (l:List DDead) (e:Int):Int:=QX e 0 l
theorem Zu (e:Int) (l:List DDead) {k:Nat} (h:k<l.length):QX e k (l.drop k)=if sQ l[k] e=true then(k:Int) else QX e (k+1) (l.drop (k+1)):=by
 rw[aG h,QX]
theorem X7 (e:Int):∀ (l:List DDead) (k:Nat),QX e k l = -1∨∃ j:Nat,k≤j∧j<k+l.length∧QX e k l=(j:Int)
 | [],k=>.inl rfl
 | x::l,k=>by
  unfold QX
  split
  ·exact .inr ⟨k,aT _,AOi,rfl⟩
  ·rcases X7 e l (k+1) with h | ⟨j,h1,h2,h3⟩
   ·exact .inl h
   ·exact .inr ⟨j,AOh,AOj,h3⟩
theorem U5 (l:List DDead) (e:Int):JU l e = -1∨∃ j:Nat,j<l.length∧JU l e=(j:Int):=by
 rcases X7 e l 0 with h | ⟨j,h1,h2,h3⟩
 ·exact .inl h
 ·exact .inr ⟨j,AOh,h3⟩
theorem Zv (l:List DDead) (e:Int) (hl:l.length≤1048576):Ctr prog 340 [.c (.sl (l.map DDead.c)),.c (.v (.int .i64 (e)))] [.val (.c (.v (.int .i64 (JU l e))))]:=by
 refine CM call340 func340 ntmps340 results340 fun hw=>?_
 simp only[go_sem,ae]
 refine AB4 0 (A:=Nat) (fun x=>[(9,.c (.v (.int .i64 (x))))]) (fun _=>[]) (fun k=>k≤l.length∧JU l e=QX e k (l.drop k)) (fun x=>l.length-x) 0 ⟨⟨rfl,rfl⟩,rfl,az _,rfl⟩ ?_
 rintro k ⟨hk,hb⟩
 refine AOc (fun h=>?_) fun h=>?_
 ·have hk':k<l.length:=by simpa using h
  rw[Zu e l hk'] at hb
  try refine AAm ?_
  try simp only[go_sem,ae,AA _ hk',hk']
  first | refine CY (X6 l[k] e) ?_ | refine CW (X6 l[k] e) fun _=>?_
  exact ALh
 ·exact ANO
theorem Zw (l:List DDead) (e:Int) (hl:l.length≤1048576):Ctr prog 336 [.c (.sl (l.map DDead.c)),.c (.v (.int .i64 (e)))] [.val (.c (.v (.int .i64 (JU l e))))]:=by
 refine CM call336 func336 ntmps336 results336 fun hw=>?_
 simp only[go_sem,ae]
 refine AB4 0 (A:=Nat) (fun x=>[(5,.c (.v (.int .i64 (x))))]) (fun _=>[]) (fun k=>k≤l.length∧JU l e=QX e k (l.drop k)) (fun x=>l.length-x) 0 ⟨⟨rfl,rfl⟩,rfl,az _,rfl⟩ ?_
 rintro k ⟨hk,hb⟩
 refine AOc (fun h=>?_) fun h=>?_
 ·have hk':k<l.length:=by simpa using h
  rw[Zu e l hk'] at hb
  try refine AAm ?_
  try simp only[go_sem,ae,AA _ hk',hk']
  first | refine CY (X5 l[k] e) ?_ | refine CW (X5 l[k] e) fun _=>?_
  exact ALh
 ·exact ANO
def Qu (e n:Int):Bool:=!(n != -1) || !(n != e)
def Pz (l:List Int) (e:Int):Bool:=l.all (Qu e)
theorem U6 (l:List Int) (e:Int) (hl:l.length≤1048576):Ctr prog 342 [.c (.sl (l.map intC)),.c (.v (.int .i64 (e)))] [.val (.c (.v (.bool (Pz l e))))]:=by
 refine CM call342 func342 ntmps342 results342 fun hw=>?_
 simp only[go_sem]
 refine AB4 0 (A:=Nat) (fun x=>[(9,.c (.v (.int .i64 (x))))]) (fun _=>[]) (Ea l (Qu e)) (fun x=>l.length-x) 0 ⟨⟨rfl,rfl⟩,rfl,Ce⟩ ?_
 exact AIg
theorem nT (l:List Int) (e:Int) (hl:l.length≤1048576):Ctr prog 338 [.c (.sl (l.map intC)),.c (.v (.int .i64 (e)))] [.val (.c (.v (.bool (Pz l e))))]:=by
 refine CM call338 func338 ntmps338 results338 fun hw=>?_
 simp only[go_sem]
 refine AB4 0 (A:=Nat) (fun x=>[(5,.c (.v (.int .i64 (x))))]) (fun _=>[]) (Ea l (Qu e)) (fun x=>l.length-x) 0 ⟨⟨rfl,rfl⟩,rfl,Ce⟩ ?_
 exact AIg
def nU (l:List DDead) (i:Int):Int:=match l[i.toNat]? with
 | some d=>d.buf
 | none=>0
def Jp (w:DWorld):DWorld:=
 if decide (JU w.x w.e≥0)=true then⟨w.c0,IntKind.i64.wrap (w.time+1),w.t,w.e,w.d,O9 w.b (nU w.x (JU w.x w.e)),w.m,Fh w.x (JU w.x w.e),w.p,w.tasks,w.deeds⟩
 else⟨w.c0,IntKind.i64.wrap (w.time+1),w.t,IntKind.i64.wrap (w.e+1),w.d,w.b,w.m,w.x,w.p,w.tasks,w.deeds⟩
def D8 (w:DWorld):Bool:=TV w&&(decide (JU w.x w.e≥0)||(decide (w.x.length>0)&&Pz w.p w.e))
def FC (w:DWorld):DWorld:=if D8 w=true then Jp w else w
noncomputable def I7 (w:DWorld):Bool:=DY w&&D8 w
noncomputable def Oh (w:DWorld):DWorld:=if I7 w=true then Jp w else w
theorem sS (w:DWorld) (hf:AX w):Ctr prog 175 [.agg w.c] [.agg (Oh w).o,.val (.c (.v (.bool (I7 w))))]:=by
 have hfit:=hf
 rw[A8,IZ,H_] at hf
 obtain⟨f1,f2,f3,f4,f5,f6,f7,f8⟩:=hf
 refine CM call175 func175 ntmps175 results175 fun hw=>?_
 simp only[go_sem]
 refine CW (ET w hfit) fun _=>?_
 simp only[go_sem]
 refine CW (LP w hfit) fun _=>?_
 rcases h0:DY w with _ | _
 ·have e1:I7 w=false:=by simp only[I7,h0]; rfl
  have e2:Oh w=w:=by simp[Oh,e1]
  simp only[go_sem,h0,e1,e2]
  exact AMM
 simp only[go_sem,h0]
 have e1:I7 w=D8 w:=by simp only[I7,h0]; rfl
 have e2:Oh w=FC w:=by simp only[Oh,e1,FC]
 rw[e1,e2]
 refine ACK (fn:=f281) call281 func281 rfl mixed ntmps281 results281 AQM rfl ?_
 simp only[go_sem]
 refine ACy _ _ (ng w rfl) ?_
 rcases h1:TV w with _ | _
 ·have e1:D8 w=false:=by simp[D8,h1]
  have e2:FC w=w:=by simp[FC,e1]
  simp only[go_sem,h1,e1,e2]
  exact AMM
 simp only[go_sem,h1]
 first | refine ACw (args:=[.c (.sl (w.x.map DDead.c)),.c (.v (.int .i64 (w.e)))]) _ (by simp only[BZ,go_sem]) rfl (Zw w.x w.e f5) fun _=>?_ | (refine ABU ?_; simp only[go_sem]; refine AC2 (args:=[.c (.sl (w.x.map DDead.c)),.c (.v (.int .i64 (w.e)))]) _ (by simp only[BZ,go_sem]) rfl (Zw w.x w.e f5) ?_)
 rcases h2:decide (JU w.x w.e≥0) with _ | _
 rotate_left
 ·obtain⟨m,hm,he⟩:∃ m:Nat,m<w.x.length∧JU w.x w.e=(m:Int):=by
   exact AOB
  have e1:D8 w=true:=by simp only[D8,h1,h2]; rfl
  have e2:FC w=Jp w:=by simp only[FC,e1,aX]
  have e3:decide ((m:Int)≥0)=true:=AOi
  have e4:(Jp w)=⟨w.c0,IntKind.i64.wrap (w.time+1),w.t,w.e,w.d,O9 w.b w.x[m].buf,w.m,Fh w.x (m:Int),w.p,w.tasks,w.deeds⟩:=by
   unfold Jp nU
   rw[h2,he]
   simp[hm]
  simp only[go_sem,he,e1,e2,e3,e4]
  refine ABU ?_
  simp only[go_sem,AA _ hm,hm]
  refine AC2 (args:=[.c (.sl (w.b.map DBuf.c)),.c (.v (.int .i64 ((w.x[m].buf))))]) _ (by simp only[DX,go_sem]) (by simp only[bC,Ji,ny,bU,aS]) (yV w.b w.x[m].buf f3) ?_
  simp only[go_sem,AA _ hm,hm]
  refine ACw (args:=[.c (.sl (w.x.map DDead.c)),.c (.v (.int .i64 ((m:Int))))]) _ (by simp only[BZ,go_sem]) (by simp only[bC,Ji,dB,bU,aS]) (jl w.x (m:Int) f5) fun _=>?_
  simp only[go_sem]
  simp[AB]
 ·have e0:decide (JU w.x w.e≥0)=false:=h2
  rcases h3:decide ((w.x.length:Int)>0) with _ | _
  ·have e1:D8 w=false:=by
    exact AOL
   have e2:FC w=w:=by simp[FC,e1]
   simp only[go_sem,ae,h2,h3,e1,e2]
   try refine AAm ?_
   try simp only[go_sem,ae,h2,h3,e1,e2]
   exact AMM
  have h3':decide (w.x.length>0)=true:=AOx
  simp only[go_sem,ae,h2,h3]
  refine AAm ?_
  simp only[go_sem,ae,h3]
  refine AC3 (args:=[.c (.sl (w.p.map intC)),.c (.v (.int .i64 (w.e)))]) _ (by simp only[Ac,go_sem]) rfl (nT w.p w.e f6) ?_
  rcases h4:Pz w.p w.e with _ | _
  ·have e1:D8 w=false:=by simp only[D8,h1,h2,h3',h4]; rfl
   have e2:FC w=w:=by simp[FC,e1]
   simp only[go_sem,h3,h4,e1,e2]
   exact AMM
  ·exact ALC
theorem Zx (w:DWorld) (hf:AX w):Ctr prog 69 [.agg w.c] [.val (.c (.v (.bool (I7 w))))]:=by
 refine CM call69 func69 ntmps69 results69 fun hw=>?_
 simp only[go_sem]
 refine CW (sS w hf) fun _=>?_
 simp only[go_sem]
 try exact AIj
theorem nV (w:DWorld) (hf:AX w) (hw:DY w=true):Ctr prog 283 [.agg w.c] [.agg (FC w).o,.val (.c (.v (.bool (D8 w))))]:=by
 have hs:=lw hw
 have hfit:=hf
 rw[A8,IZ,H_] at hf
 obtain⟨f1,f2,f3,f4,f5,f6,f7,f8⟩:=hf
 refine CM call283 func283 ntmps283 results283 fun hw=>?_
 simp only[go_sem]
 refine CW (Di w hfit) fun _=>?_
 simp only[go_sem]
 refine CW (Rx w) fun _=>?_
 rw[hs]
 rcases h1:TV w with _ | _
 ·have e1:D8 w=false:=by simp[D8,h1]
  have e2:FC w=w:=by simp[FC,e1]
  simp only[go_sem,h1,e1,e2,aK]
  simp[AB]
 simp only[go_sem,h1,aJ]
 try refine AAm ?_
 try simp only[go_sem]
 first | refine AB5 _ (Zv w.x w.e f5) ?_ | refine AAT _ (Zv w.x w.e f5) fun _=>?_
 rcases h2:decide (JU w.x w.e≥0) with _ | _
 rotate_left
 ·obtain⟨m,hm,he⟩:∃ m:Nat,m<w.x.length∧JU w.x w.e=(m:Int):=by
   exact AOB
  have e1:D8 w=true:=by simp only[D8,h1,h2]; rfl
  have e2:FC w=Jp w:=by simp only[FC,e1,aX]
  have e3:decide ((m:Int)≥0)=true:=AOi
  have e4:(Jp w)=⟨w.c0,IntKind.i64.wrap (w.time+1),w.t,w.e,w.d,O9 w.b w.x[m].buf,w.m,Fh w.x (m:Int),w.p,w.tasks,w.deeds⟩:=by
   unfold Jp nU
   rw[h2,he]
   simp[hm]
  simp only[go_sem,he,e1,e2,e3,e4]
  refine ABU ?_
  simp only[go_sem,AA _ hm,hm]
  refine ACJ _ (yU w.b w.x[m].buf f3) ?_
  simp only[go_sem,AA _ hm,hm]
  refine AAT _ (jk w.x (m:Int) f5) fun _=>?_
  simp only[go_sem]
  simp[AB]
 ·rcases h3:decide ((w.x.length:Int)>0) with _ | _
  ·have e1:D8 w=false:=by
    exact AOL
   have e2:FC w=w:=by simp[FC,e1]
   simp only[go_sem,ae,h2,h3,e1,e2]
   try refine AAm ?_
   try simp only[go_sem,ae,h2,h3,e1,e2]
   simp[AB]
  have h3':decide (w.x.length>0)=true:=AOx
  simp only[go_sem,ae,h2,h3]
  try refine AAm ?_
  try simp only[go_sem,ae,h3]
  first | refine AB5 _ (U6 w.p w.e f6) ?_ | refine AAT _ (U6 w.p w.e f6) fun _=>?_
  rcases h4:Pz w.p w.e with _ | _
  ·have e1:D8 w=false:=by simp only[D8,h1,h2,h3',h4]; rfl
   have e2:FC w=w:=by simp[FC,e1]
   simp only[go_sem,h3,h4,e1,e2]
   simp[AB]
  ·exact ALC
theorem sU (w:DWorld) (hf:AX w):Ctr prog 178 [.agg w.c] [.agg (Oh w).o,.val (.c (.v (.bool (I7 w))))]:=by
 refine CM call178 func178 ntmps178 results178 fun hw=>?_
 simp only[go_sem]
 refine CW (LM w hf) fun _=>?_
 rcases h1:DY w with _ | _
 ·have e1:I7 w=false:=by simp only[I7,h1]; rfl
  have e2:Oh w=w:=by simp[Oh,e1]
  simp only[go_sem,h1,e1,e2,aK]
  try refine ABU ?_
  try simp only[go_sem]
  refine CW (Di w hf) fun _=>?_
  simp only[go_sem]
  simp[AB]
 ·have e1:I7 w=D8 w:=by simp only[I7,h1]; rfl
  have e2:Oh w=FC w:=by simp only[Oh,e1,FC]
  simp only[go_sem,h1,e1,e2,aJ]
  refine CW (nV w hf h1) fun _=>?_
  simp only[go_sem]
  simp[AB]
theorem Zy (w:DWorld) (hf:AX w):Ctr prog 72 [.agg w.c] [.val (.c (.v (.bool (I7 w))))]:=by
 refine CM call72 func72 ntmps72 results72 fun hw=>?_
 simp only[go_sem]
 refine CW (sU w hf) fun _=>?_
 simp only[go_sem]
 try exact AIj
noncomputable def L9 (w:DWorld):Bool:=DY w&&(!decide (Jb w.tasks>0)&&(!I7 w && !GI w))
theorem kD {w:DWorld} {k:Nat} (h4:KG w k=false) (h5:k=4):GI w=false:=by
 subst h5
 simpa [KG] using h4
theorem sV (w:DWorld) (hf:AX w):Ctr prog 18 [.agg w.c] [.val (.c (.v (.bool (L9 w))))]:=by
 refine CM call18 func18 ntmps18 results18 fun hw=>?_
 simp only[go_sem]
 refine CW (LP w hf) fun _=>?_
 rcases h1:DY w with _ | _
 ·simp only[go_sem,h1,L9,ai,aK]
 simp only[go_sem,h1,aJ]
 refine CW (yR w hf) fun _=>?_
 rcases h2:decide (Jb w.tasks>0) with _ | _
 rotate_left
 ·simp only[go_sem,h2,L9,h1,aJ,ai,aH]
 simp only[go_sem,h2]
 refine CW (Zx w hf) fun _=>?_
 rcases h3:I7 w with _ | _
 rotate_left
 ·simp only[go_sem,h3,L9,h1,h2,aJ,aK,ai,aH]
 simp only[go_sem,h3]
 have hq:L9 w = !GI w:=by simp[L9,h1,h2,h3]
 rw[hq]
 have hl:=(Hm h1).1
 refine AB4 1 (A:=Nat) (fun x=>[(3,.c (.v (.int .i64 (x))))]) (fun _=>[⟨44,14,[w.c],true,true⟩]) (fun x=>x≤5∧(x=5→GI w=false)) (fun x=>5-x) 0 ⟨⟨rfl,rfl⟩,rfl,AOh,AOh⟩ ?_
 rintro k ⟨hk,hk5⟩
 refine AOb (fun h=>?_) fun h=>?_
 ·have hk':k<5:=by simp at h; omega
  have hkl:k<w.tasks.length:=AOh
  simp only[go_sem]
  refine CW (yS w k hf h1 hkl (j_ h2 hkl)) fun _=>?_
  exact ALb
 ·have hk':k=5:=by simp at h; omega
  simp only[go_sem,hk5 hk',aK]
theorem sW (w:DWorld) (hf:AX w):Ctr prog 19 [.agg w.c] [.val (.c (.v (.bool (L9 w))))]:=by
 refine CM call19 func19 ntmps19 results19 fun hw=>?_
 simp only[go_sem]
 refine CW (LM w hf) fun _=>?_
 rcases h1:DY w with _ | _
 ·simp only[go_sem,h1,L9,ai,aK]
 simp only[go_sem,h1,aJ]
 refine CW (yQ w hf) fun _=>?_
 rcases h2:decide (Jb w.tasks>0) with _ | _
 rotate_left
 ·simp only[go_sem,h2,L9,h1,aJ,ai,aH]
 simp only[go_sem,h2]
 refine CW (Zy w hf) fun _=>?_
 rcases h3:I7 w with _ | _
 rotate_left
 ·simp only[go_sem,h3,L9,h1,h2,aJ,aK,ai,aH]
 simp only[go_sem,h3]
 have hq:L9 w = !GI w:=by simp[L9,h1,h2,h3]
 rw[hq]
 have hl:=(Hm h1).1
 refine AB4 1 (A:=Nat) (fun x=>[(3,.c (.v (.int .i64 (x))))]) (fun _=>[⟨44,14,[w.c],true,true⟩]) (fun x=>x≤5∧(x=5→GI w=false)) (fun x=>5-x) 0 ⟨⟨rfl,rfl⟩,rfl,AOh,AOh⟩ ?_
 rintro k ⟨hk,hk5⟩
 refine AOb (fun h=>?_) fun h=>?_
 ·have hk':k<5:=by simp at h; omega
  have hkl:k<w.tasks.length:=AOh
  simp only[go_sem]
  refine CW (yT w k hf h1 hkl (j_ h2 hkl)) fun _=>?_
  exact ALb
 ·have hk':k=5:=by simp at h; omega
  simp only[go_sem,hk5 hk',aK]
theorem jM (w:DWorld):Ctr prog 6 [.agg w.c] [.val (.c (.v (.bool true)))]:=by
 refine CM call6 func6 ntmps6 results6 fun hw=>?_
 simp only[go_sem]
 refine CW (U1 w 1048576 AOh) fun _=>?_
 refine AOb (fun h=>?_) fun h=>?_
 ·exact AIk
 ·have hf:=(OB w 1048576 AOs AOh).1
  simp only[go_sem]
  refine CW (ES w hf) fun _=>?_
  simp only[go_sem]
  refine CW (sV w hf) fun _=>?_
  simp only[go_sem]
  refine CW (ES w hf) fun _=>?_
  simp only[go_sem]
  refine CW (sW w hf) fun _=>?_
  simp only[go_sem,aB,aA]
  try refine AAm ?_
  try simp only[go_sem]
  first | refine CY (ES w hf) ?_ | refine CW (ES w hf) fun _=>?_
  simp only[go_sem]
  first | refine CY (Ir w) ?_ | refine CW (Ir w) fun _=>?_
  exact AIk
end Go.Proofs.YtnoldekcdlaahaaGreat
