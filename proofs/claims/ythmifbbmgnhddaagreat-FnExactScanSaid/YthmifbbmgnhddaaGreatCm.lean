/- A part. -/
import Derived.Test.YthmifbbmgnhddaaGreatCs
import Derived.Test.YthmifbbmgnhddaaGreatXb
import Derived.Test.YthmifbbmgnhddaaGreatIa
import Derived.Test.YthmifbbmgnhddaaGreatCj
set_option linter.unusedSimpArgs false
set_option linter.unusedVariables false
set_option maxHeartbeats 8000000
set_option maxRecDepth 10000
open Go.Proofs.Tryz
namespace Go.Proofs.YthmifbbmgnhddaaGreat
open Go.Vm
section
variable {p q r:Prop}
theorem ASq(h:p:=by kernel_rfl):p:=h
end
def BA (q:DQuery):DTask:=⟨3,0,0,[],0,q,0,0,[],0,0,0,0,0,false,[]⟩
def Ba (q:DQuery):DDeed:=⟨3,0,[],-1,q,H8,0,0,0,0,0⟩
def IW (w:DWorld) (n:Nat) (q:DQuery):DDeed:=⟨3,n,[],-1,q,H8,4,0,w.time,w.time,w.time⟩
noncomputable def JS (w:DWorld) (k:Int) (q:DQuery):DWorld:=if CU w k=true then FQ w k.toNat (BA q) (Ba q) (if Ah w.c0.cols q=true then 0 else 4) else w
theorem V9 (q:DQuery) (hl:Bl q) (w:DWorld):Ff (Hg w (BA q)):=by
 rw[ED]
 exact⟨OJ,hl,by simp[Hg,BA],OJ⟩
theorem V_ (q:DQuery) (hl:Bl q) (w:DWorld) (k:Int) (t:DTask):C_ (KI w k t (Ba q)):=by
 rw[ES]
 exact⟨OJ,hl,OJ,by simp[KI,Ba,H8,Ee]⟩
theorem AAf (w:DWorld) (q:DQuery):(Hg w (BA q)).c = [.v (.int .i64 (3)),.v (.int .i64 (0)),.v (.int .i64 (w.deeds.length)),.sl [],.v (.int .i64 (0)),.v (.int .i64 (q.kind)),.v (.int .i64 (q.p.kind)),.v (.int .i64 (q.p.col)),.v (.int .i64 (q.p.op)),.v (.int .i64 (q.p.v.ty)),.v (.int .i64 (q.p.v.n)),.v (.string q.p.v.s),.sl (q.p.l.map DPred.c),.v (.int .i64 (q.col)),.sl (q.out.map intC),.v (.int .i64 (0)),.v (.int .i64 (0)),.sl [],.v (.int .i64 (0)),.v (.int .i64 (0)),.v (.int .i64 (0)),.v (.int .i64 (0)),.v (.int .i64 (0)),.v (.bool false),.sl []]:=by simp only[go_sem,Hg,BA,df]
theorem AAg (w:DWorld) (n:Nat) (q:DQuery):(KI w n (BA q) (Ba q)).c = [.v (.int .i64 (3)),.v (.int .i64 (n)),.sl [],.v (.int .i64 (-1)),.v (.int .i64 (q.kind)),.v (.int .i64 (q.p.kind)),.v (.int .i64 (q.p.col)),.v (.int .i64 (q.p.op)),.v (.int .i64 (q.p.v.ty)),.v (.int .i64 (q.p.v.n)),.v (.string q.p.v.s),.sl (q.p.l.map DPred.c),.v (.int .i64 (q.col)),.sl (q.out.map intC),.sl [],.v (.int .i64 (0)),.v (.bool false),.v (.int .i64 (0)),.v (.int .i64 (0)),.v (.string ByteArray.empty),.v (.int .i64 (0)),.v (.int .i64 (0)),.v (.int .i64 (w.time)),.v (.int .i64 (-1)),.v (.int .i64 (-1))]:=by simp only[go_sem,KI,BA,Ba,H8,df]
theorem AAh (w:DWorld) (k:Int) (q:DQuery) (hf:AZ w) (hl:Bl q):Ctr prog 20 [.agg w.c,.c (.v (.int .i64 (k))),.agg q.c] [.agg (JS w k q).o,.val (.c (.v (.bool (CU w k))))]:=by
 have hc:w.c0.cols.length≤1048576:=ASC
 refine AEJ call20 func20 rfl mixed ntmps20 results20 ASq rfl fun hw=>?_
 simp only[go_sem]
 refine CW (WC w hf) fun _=>?_
 simp only[go_sem]
 refine CW (Lt w hf) fun _=>?_
 rcases h1:D_ w with _ | _
 ·have e1:CU w k=false:=by simp only[CU,h1]; rfl
  have e2:JS w k q=w:=ASa
  simp only[go_sem,h1,e1,e2]
  exact ALA
 simp only[go_sem,h1]
 refine CW (fO w k h1) fun _=>?_
 rcases h2:Ad k 0 2&&(opAt w k==0) with _ | _
 ·have e1:CU w k=false:=by simp only[CU,JK,h1,← Bool.and_assoc,h2]; rfl
  have e2:JS w k q=w:=ASa
  simp only[go_sem,h1,h2,e1,e2]
  exact ALA
 simp only[go_sem,h1,h2]
 refine InlK.mkS _ _ (ACJ w rfl) ?_
 rcases h3:xy w with _ | _
 ·have e1:CU w k=false:=by simp only[CU,JK,h3,aK]
  have e2:JS w k q=w:=ASa
  simp only[go_sem,h1,h2,h3,e1,e2]
  exact ALA
 have e1:CU w k=true:=by simp only[CU,JK,h1,← Bool.and_assoc,h2,h3]; rfl
 obtain⟨n,rfl,hn,hlt,hlp,hz,hld⟩:=O9 hf h1 h2
 have e2:JS w n q=FQ w n (BA q) (Ba q) (if Ah w.c0.cols q=true then 0 else 4):=ASa
 have hgt:∀ row,((w.tasks.map DTask.o).set n row)[n]?=some row:=fun row=>aa1 AR1
 have hgd:∀ row,(w.deeds.map DDeed.o ++ [row])[w.deeds.length]?=some row:=fun row=>AQ3
 have hsd:∀ row row2:List Cl,(w.deeds.map DDeed.o ++ [row]).set w.deeds.length row2=w.deeds.map DDeed.o ++ [row2]:=fun row row2=>AQ3
 have hh:(Hg w (BA q)).h=(w.deeds.length:Int):=rfl
 have hgp:=AA intC hlp
 have hsp:∀ x,(w.p.map intC).set n [.v (.int .i64 x)]=(w.p.set n x).map intC:=fun x=>yI.symm
 simp only[go_sem,h1,h2,h3,e1,e2]
 refine AD9 (fn:=f79) call79 func79 rfl mixed ntmps79 results79 ASq rfl ?_
 simp only[go_sem]
 refine AD9 (fn:=f116) call116 func116 rfl mixed ntmps116 results116 ASq rfl ?_
 simp only[go_sem,ae]
 refine AAR ?_
 simp only[go_sem]
 refine ABO _ (by rw[← AAf]; exact QW (Hg w (BA q)) (V9 q hl _)) ?_
 simp only[go_sem,ae,hlt,AA _ hlt,DTask.o_eq w.tasks[n]]
 refine AAR ?_
 simp only[go_sem,ae,hlt]
 refine ABO _ (by rw[← AAg]; exact Nc (KI w n (BA q) (Ba q)) (V_ q hl _ _ _)) ?_
 simp only[go_sem,ae,bi,aN,bz,bV,Ry,hlt,hlp,hgt,hgd,hsd,hh,hgp,hsp,bD,hld,nrD,ay]
 first | refine ABQ (args:=[.c (.sl (w.c0.cols.map intC)),.agg q.c]) _ ARC rfl (Jj w.c0.cols q hc hl) fun _=>?_ | (refine AAO ?_; simp only[go_sem]; refine AEF (args:=[.c (.sl (w.c0.cols.map intC)),.agg q.c]) _ ARC rfl (Jj w.c0.cols q hc hl) ?_)
 rcases h5:Ah w.c0.cols q with _ | _
 ·simp only[go_sem,h5,aH]
  refine AD9 (fn:=f118) call118 func118 rfl mixed ntmps118 results118 ASq rfl ?_
  simp only[go_sem,ae,bi,aN,bz,bV,Ry,hlt,hlp,hgt,hgd,hsd,hh,hgp,hsp,bD]
  repeat (refine AAR ?_; simp only[go_sem,ae,bi,aN,bz,bV,Ry,hlt,hlp,hgt,hgd,hsd,hh,hgp,hsp,bD])
  refine AD9 (fn:=f119) call119 func119 rfl mixed ntmps119 results119 ASq rfl ?_
  simp only[go_sem,ae,bi,aN,bz,bV,Ry,hlt,hlp,hgt,hgd,hsd,hh,hgp,hsp,bD]
  repeat (refine AAR ?_; simp only[go_sem,ae,bi,aN,bz,bV,Ry,hlt,hlp,hgt,hgd,hsd,hh,hgp,hsp,bD])
  simp only[dh]
  refine EndH.close 9 n [] (row':=DTask.o IX) rfl (aa1 AR1) rfl ARJ ?_ ?_
  ·simp only[go_sem,DTask.o_eq,DQuery.o_eq,DPred.o_eq,IX]
   exact AOc
  simp only[Dl,KZ,go_sem,dh]
  refine EndH.close 25 (w.deeds.map DDeed.o).length [20,21,22,23] (row':=DDeed.o (IW w n q)) rfl aaL rfl ARJ ?_ ?_
  ·simp only[go_sem,DDeed.o_eq,DQuery.o_eq,DPred.o_eq,DResult.o_eq,KI,Ba,BA,Hg,IW]
   exact AM1
  simp only[Dl,KZ,go_sem,Ae]
  refine EndH.self ?_
  have hT:w.tasks.set n IX=w.tasks:=by
   obtain⟨h,e⟩:=aP.1 hz
   rw[← e]; exact List.set_getElem_self h
  have e3:w.deeds.map DDeed.o ++ [DDeed.o (IW w n q)]=(w.deeds ++ [IW w n q]).map DDeed.o:=AQ3
  have e4:FQ w n (BA q) (Ba q) 4=⟨w.c0,IntKind.i64.wrap (w.time+1),w.t,w.e,w.d,w.b,w.m,w.x,w.p.set n (-1),w.tasks,w.deeds ++ [IW w n q]⟩:=by simp[FQ,BA,Ba,IW]
  have e5:(w.tasks.map DTask.o).set n (DTask.o IX)=w.tasks.map DTask.o:=by rw[← yI,hT]
  simp only[go_sem] at e3 e5
  simp only[go_sem,ay,aY,e3,e4,e5]
  exact AM3
 simp only[go_sem,h5,aO]
 refine EndH.close 9 n [15,16,17,18,19] (row':=DTask.o (Hg w (BA q))) rfl (aa1 AR1) rfl ARJ ?_ ?_
 ·simp only[go_sem,DTask.o_eq,DQuery.o_eq,DPred.o_eq]
  simp[AC,hh]
 simp only[Dl,KZ,go_sem,dh]
 refine EndH.close 25 (w.deeds.map DDeed.o).length [20,21,22,23] (row':=DDeed.o (KI w n (BA q) (Ba q))) rfl aaL rfl ARJ ?_ ?_
 ·exact AQe
 exact AI6
theorem ACH {a b c d e f g h i j k:Value} {n:Nat} {r:List Cl}:D7 [Cl.v a::Cl.v b::Cl.v c::Cl.v d::Cl.v e::Cl.v f::Cl.v g::Cl.v h::Cl.v i::Cl.v j::Cl.v k::Cl.ref n::r]=false:=rfl
theorem AAi (w:DWorld) (k:Int) (q:DQuery) (hf:AZ w) (hl:Bl q):Ctr prog 22 [.agg w.c,.c (.v (.int .i64 (k))),.agg q.c] [.agg (JS w k q).o,.val (.c (.v (.bool (CU w k))))]:=by
 have hc:w.c0.cols.length≤1048576:=ASC
 refine AEJ call22 func22 rfl mixed ntmps22 results22 ASq rfl fun hw=>?_
 simp only[go_sem]
 refine CW (Ls w hf) fun _=>?_
 rcases h1:D_ w with _ | _
 ·have e1:CU w k=false:=by simp only[CU,h1]; rfl
  have e2:JS w k q=w:=ASa
  simp only[go_sem,h1,e1,e2,aH]
  try refine AAR ?_
  try simp only[go_sem]
  refine CW (EY w hf) fun _=>?_
  simp only[go_sem]
  exact ALA
 simp only[go_sem,h1,aO]
 refine AD9 (fn:=f81) call81 func81 rfl mixed ntmps81 results81 ASq rfl ?_
 simp only[go_sem]
 refine CW (SG w k h1) fun _=>?_
 rcases h2:JK w k with _ | _
 ·have e1:CU w k=false:=by simp only[CU,h1,h2]; rfl
  have e2:JS w k q=w:=ASa
  simp only[go_sem,h2,e1,e2,aH]
  try refine AAR ?_
  try simp only[go_sem]
  refine CW (EY w hf) fun _=>?_
  simp only[go_sem]
  exact ALA
 have e1:CU w k=true:=by simp only[CU,h1,h2]; rfl
 obtain⟨n,rfl,hn,hlt,hlp,hz,hld⟩:=O9 hf h1 (by simp only[JK,az] at h2; simp only[az]; exact⟨h2.1,h2.2.1⟩)
 have e2:JS w n q=FQ w n (BA q) (Ba q) (if Ah w.c0.cols q=true then 0 else 4):=ASa
 have hsp:∀ x,(w.p.map intC).set n [.v (.int .i64 x)]=(w.p.set n x).map intC:=fun x=>yI.symm
 have h40:((4:Int) != 0)=true:=rfl
 simp only[go_sem,h2,e1,e2,aO]
 first | refine AAN _ (F5 w.c0.cols q hc hl) fun _=>?_ | (refine AAO ?_; simp only[go_sem]; refine AAS _ (F5 w.c0.cols q hc hl) ?_) | refine ABQ (args:=[.c (.sl (w.c0.cols.map intC)),.agg q.c]) _ ARC rfl (F5 w.c0.cols q hc hl) fun _=>?_ | (refine AAO ?_; simp only[go_sem]; refine AEF (args:=[.c (.sl (w.c0.cols.map intC)),.agg q.c]) _ ARC rfl (F5 w.c0.cols q hc hl) ?_)
 rcases h5:Ah w.c0.cols q with _ | _
 ·simp only[go_sem,h5,aH]
  refine AAR ?_
  simp only[go_sem]
  refine CZ (Gf q hl) ?_
  simp only[go_sem]
  refine CZ (Gf q hl) ?_
  simp only[go_sem]
  refine' AE3 _ _ (AEc (fn:=f142) call142 func142 rfl mixed ntmps142 results142 ASq rfl fun m env=>?_) ?_
  rotate_left 2
  ·exact AMy
  simp only[go_sem]
  refine EndH.close 24 (w.deeds.map DDeed.o).length [6,7] (row':=DDeed.o (IW w n q)) rfl aaL rfl ARJ ?_ ?_
  ·simp only[go_sem,DDeed.o_eq,DQuery.o_eq,DPred.o_eq,DResult.o_eq,IW]
   exact AM1
  simp only[Dl,KZ,go_sem,Ae]
  refine EndH.self ?_
  have e3:w.deeds.map DDeed.o ++ [DDeed.o (IW w n q)]=(w.deeds ++ [IW w n q]).map DDeed.o:=AQ3
  have e4:FQ w n (BA q) (Ba q) 4=⟨w.c0,IntKind.i64.wrap (w.time+1),w.t,w.e,w.d,w.b,w.m,w.x,w.p.set n (-1),w.tasks,w.deeds ++ [IW w n q]⟩:=by simp[FQ,BA,Ba,IW]
  simp only[go_sem] at e3
  simp only[go_sem,ay,aY,e3,e4]
  exact AM3
 simp only[go_sem,h5,aO]
 refine AAR ?_
 simp only[go_sem]
 refine CZ (Gf q hl) ?_
 simp only[go_sem]
 refine CZ (Gf q hl) ?_
 simp only[go_sem]
 refine' AE3 _ _ (AEc (fn:=f142) call142 func142 rfl mixed ntmps142 results142 ASq rfl fun m env=>?_) ?_
 rotate_left 2
 ·exact AMy
 simp only[go_sem]
 refine EndH.close 20 n [8,9] (row':=DTask.o (Hg w (BA q))) rfl (aa1 AR1) rfl ARJ ?_ ?_
 ·simp only[go_sem,DTask.o_eq,DQuery.o_eq,DPred.o_eq,Hg,BA]
  exact AOc
 simp only[Dl,KZ,go_sem,dh]
 refine EndH.close 24 (w.deeds.map DDeed.o).length [6,7] (row':=DDeed.o (KI w n (BA q) (Ba q))) rfl aaL rfl ARJ ?_ ?_
 ·simp only[go_sem,DDeed.o_eq,DQuery.o_eq,DPred.o_eq,DResult.o_eq,KI,Ba,BA]
  exact AM1
 exact AI6
def fE (k:Int) (x:DPred):Int:=Eh BN (k) x.l
theorem AHM (k:Int) (x:DPred):Eh BN (k) x.l=fE k x:=rfl
def Pe (k:Int) (x:DPred):Int:=fE k x
def Iu (k:Int) (x:DPred):DPred:=⟨x.kind,x.col,x.op,⟨x.v.ty,x.v.n,x.v.s⟩,IV EM BN (k) x.l⟩
theorem vk (k:Int) (x:DPred):k≤fE k x:=Ed KA _ _
theorem ADc (k:Int) (x:DPred):k≤Pe k x:=by have:=vk k x; unfold Pe; omega
theorem ADd (x:DPred) (k l:Int) (h0:0≤BJ x l) (hl:l≤1048576):Pe k x+64*BJ x l≤k+64*l:=by
 have e0:=Ic x l
 have h1:=h0
 rw[e0] at h1
 obtain⟨a0,b0,u0⟩:=Aa h1
 have w0:=(DL x.v _ a0 AQ2).2
 obtain⟨a1,b1,u1⟩:=Aa b0
 have w1:=(Dk x.l (fun x _=>FU x) a1 AQ2).2
 have:fE k x+64*(DD BJ x.l (Aj x.v (l)))≤k+64*(Aj x.v (l)):=Js _ (fun y _ k l a b=>⟨YG y k l a b,(FU y l a b).2⟩) _ a1 AQ2
 have G9:BJ x l=DD BJ x.l (Aj x.v (l)):=(e0).trans ((u0).trans (u1))
 rw[G9]; unfold Pe; omega
theorem vw (x:DPred) (k:Int) (hk:0≤k) (hf:Ap x) (hb:Pe k x≤4000000000000000000):MCtr prog 83 true x.o [.c (.v (.int .i64 k))] (fun cl' rs=>cl'=(Iu k x).o∧rs = [.c (.v (.int .i64 (Pe k x)))]):=by
 unfold Pe at hb
 have hle:=vk k x
 refine ACf (fn:=f83) call83 func83 rfl mixed ntmps83 results83 ASq rfl (.inl rfl) fun us hw0 hw=>?_
 simp only[go_sem]
 refine ABp (l:=0) (Qg x.l (k) AQ2 (Eq.mp (BG _) hf).2 (by show fE k x≤_; omega)) rfl ⟨rfl,rfl,rfl,rfl,BC _,AQ3,trivial⟩ ?_
 simp only[go_sem,AHM]
 have ho:(Iu k x).o = [.v (.int .i64 (Iu k x).kind),.v (.int .i64 (Iu k x).col),.v (.int .i64 (Iu k x).op),.v (.int .i64 (Iu k x).v.ty),.v (.int .i64 (Iu k x).v.n),.v (.string (Iu k x).v.s),.ow 69 7 ((Iu k x).l.map DPred.o)]:=DPred.o_eq _
 exact⟨[.v (.int .i64 x.kind),.v (.int .i64 x.col),.v (.int .i64 x.op),.v (.int .i64 x.v.ty),.v (.int .i64 x.v.n),.v (.string x.v.s),.ref 0],[.v (.int .i64 (Iu k x).kind),.v (.int .i64 (Iu k x).col),.v (.int .i64 (Iu k x).op),.v (.int .i64 (Iu k x).v.ty),.v (.int .i64 (Iu k x).v.n),.v (.string (Iu k x).v.s),.ow 69 7 ((Iu k x).l.map DPred.o)],[.c (.v (.int .i64 (Pe k x)))],rfl,.inl rfl,⟨rfl,rfl,rfl,rfl,rfl,rfl,rfl,rfl,rfl,rfl,rfl,rfl,rfl,rfl,rfl,rfl,BC _,AQ3,trivial⟩,(by rw[← ho]; exact UH _),rfl,rfl,rfl,rfl⟩
def Lj (k:Int) (x:DQuery):Int:=Pe (k) x.p
theorem vz (k:Int) (x:DQuery):Pe (k) x.p=Lj k x:=rfl
def WA (k:Int) (x:DQuery):Int:=Eh NH (Lj k x) x.out
theorem AFG (k:Int) (x:DQuery):Eh NH (Lj k x) x.out=WA k x:=rfl
def Ll (k:Int) (x:DQuery):Int:=WA k x
def Ej (k:Int) (x:DQuery):DQuery:=⟨x.kind,Iu (k) x.p,x.col,IV pX NH (Lj k x) x.out⟩
theorem nG (k:Int) (x:DQuery):k≤Lj k x∧Lj k x≤WA k x:=⟨ADc _ _,Ed Jt _ _⟩
theorem AAj (k:Int) (x:DQuery):k≤Ll k x:=by have:=nG k x; unfold Ll; omega
theorem AAk (x:DQuery) (k l:Int) (h0:0≤BV x l) (hl:l≤1048576):Ll k x+64*BV x l≤k+64*l:=by
 have e0:=Iw x l
 have h1:=h0
 rw[e0] at h1
 obtain⟨a0,b0,u0⟩:=Aa h1
 have w0:=(FU x.p _ a0 AQ2).2
 have:Lj k x+64*(BJ x.p (l))≤k+64*(l):=ADd _ _ _ a0 AQ2
 obtain⟨a1,b1,u1⟩:=Aa b0
 have w1:=(C9 a1 AQ2).2
 have:WA k x+64*(FY x.out.length (BJ x.p (l)))≤Lj k x+64*(BJ x.p (l)):=PY PZ _ _ _ a1
 have G9:BV x l=FY x.out.length (BJ x.p (l)):=(e0).trans ((u0).trans (u1))
 rw[G9]; unfold Ll; omega
theorem qB (x:DQuery) (k:Int) (hk:0≤k) (hf:Bl x) (hb:Ll k x≤4000000000000000000):MCtr prog 24 true x.o [.c (.v (.int .i64 k))] (fun cl' rs=>cl'=(Ej k x).o∧rs = [.c (.v (.int .i64 (Ll k x)))]):=by
 unfold Ll at hb
 have hle:=nG k x
 refine ACf (fn:=f24) call24 func24 rfl mixed ntmps24 results24 ASq rfl (.inl rfl) fun us hw0 hw=>?_
 simp only[go_sem]
 refine ACg true (zs:=[.v (.int .i64 x.p.kind),.v (.int .i64 x.p.col),.v (.int .i64 x.p.op),.v (.int .i64 x.p.v.ty),.v (.int .i64 x.p.v.n),.v (.string x.p.v.s),.ref 0]) (cl:=[.v (.int .i64 x.p.kind),.v (.int .i64 x.p.col),.v (.int .i64 x.p.op),.v (.int .i64 x.p.v.ty),.v (.int .i64 x.p.v.n),.v (.string x.p.v.s),.ow 69 7 (x.p.l.map DPred.o)]) (by simpa only[go_sem] using vw x.p (k) AQ2 hf.1 (by show Lj k x≤_; omega)) rfl ⟨rfl,rfl,rfl,rfl,rfl,rfl,rfl,rfl,rfl,rfl,rfl,rfl,rfl,rfl,rfl,rfl,BC _,AQ3,trivial⟩ rfl (.inl rfl) fun cl' rs hM=>?_
 obtain⟨rfl,rfl⟩:=hM
 refine⟨⟨rfl,rfl,rfl,rfl,rfl,rfl,rfl,⟨rfl,rfl⟩,trivial⟩, ?_⟩
 simp only[go_sem,vz]
 refine ABp (l:=1) (J9 x.out (Lj k x) AQ2 hf.2 (by show WA k x≤_; omega)) rfl ⟨rfl,rfl,rfl,rfl,AX _,AQ3,trivial⟩ ?_
 simp only[go_sem,vz,AFG]
 have ho:(Ej k x).o = [.v (.int .i64 (Ej k x).kind),.v (.int .i64 (Ej k x).p.kind),.v (.int .i64 (Ej k x).p.col),.v (.int .i64 (Ej k x).p.op),.v (.int .i64 (Ej k x).p.v.ty),.v (.int .i64 (Ej k x).p.v.n),.v (.string (Ej k x).p.v.s),.ow 69 7 ((Ej k x).p.l.map DPred.o),.v (.int .i64 (Ej k x).col),.ow 3 1 ((Ej k x).out.map intC)]:=by rw[DQuery.o_eq,DPred.o_eq]; rfl
 exact⟨[.v (.int .i64 x.kind),.v (.int .i64 x.p.kind),.v (.int .i64 x.p.col),.v (.int .i64 x.p.op),.v (.int .i64 x.p.v.ty),.v (.int .i64 x.p.v.n),.v (.string x.p.v.s),.ref 0,.v (.int .i64 x.col),.ref 1],[.v (.int .i64 (Ej k x).kind),.v (.int .i64 (Ej k x).p.kind),.v (.int .i64 (Ej k x).p.col),.v (.int .i64 (Ej k x).p.op),.v (.int .i64 (Ej k x).p.v.ty),.v (.int .i64 (Ej k x).p.v.n),.v (.string (Ej k x).p.v.s),.ow 69 7 ((Ej k x).p.l.map DPred.o),.v (.int .i64 (Ej k x).col),.ow 3 1 ((Ej k x).out.map intC)],[.c (.v (.int .i64 (Ll k x)))],rfl,.inl rfl,⟨rfl,rfl,rfl,rfl,rfl,rfl,rfl,rfl,rfl,rfl,rfl,rfl,rfl,rfl,rfl,rfl,rfl,rfl,BC _,AQ3,rfl,rfl,rfl,rfl,rfl,rfl,AX _,AQ3,trivial⟩,(by rw[← ho]; exact AAt _),rfl,rfl,rfl,rfl⟩
theorem Y2 {q:DQuery} {L:Int} (h0:0≤L) (h:0≤BV q L) (w:DWorld):0≤I4 (Hg w (BA q)) L:=by
 have h1:¬ L<0:=AQ2
 have h2:¬ BV q L<0:=AQ2
 have h3:FY 0 (BV q L)=BV q L:=ASe
 simp[N9,Hg,BA,sq,h1,h2,h3,VM h0,VM h,h]
theorem Y3 {q:DQuery} {L:Int} (h0:0≤L) (h:0≤BV q L) (a b c d e f g:Int):0≤Jv ⟨a,b,(Ba q).r,(Ba q).id,(Ba q).q,(Ba q).res,c,d,e,f,g⟩ L:=by
 have h1:¬ L<0:=AQ2
 have h2:¬ BV q L<0:=AQ2
 have h3:FY 0 (BV q L)=BV q L:=ASe
 simp[N_,Ba,sq,h1,h2,h3,VM h0,VM h,H8,J7,F9,h]
theorem AFH (w:DWorld) (k:Int) (q:DQuery) (h00:0≤ER w 1048576) (hle:ER w 1048576≤1048576) (h01:0≤BV q (ER w 1048576)) (hl:Bl q):AZ (JS w k q)∧DV 1 (JS w k q)≤4000000000000000000:=by
 have hf:=(J8 w 1048576 h00 AQ2).1
 unfold JS
 split
 ·rename_i h
  have hw:D_ w=true:=by simp only[CU,az] at h; exact h.1
  exact nD h00 hw (V9 q hl w) (V_ q hl w 0 (BA q)) (fun j=>by have:=UL _ j _ (Y2 h00 h01 w) hle; have:=Y2 h00 h01 w; omega) fun j a b c e f=>by have:=UN _ j _ (Y3 h00 h01 a k.toNat b (Ba q).stamp c e f) hle; have:=Y3 h00 h01 a k.toNat b (Ba q).stamp c e f; omega
 ·obtain⟨_,g2,g3,g4⟩:=fA h00
  exact⟨hf,pq w hf g2 g3 g4⟩
theorem qC (w:DWorld) (k:Int) (q:DQuery):Ctr prog 4 [.agg w.c,.c (.v (.int .i64 (k))),.agg q.c] [.val (.c (.v (.bool (true))))]:=by
 refine CM call4 func4 ntmps4 results4 fun hw=>?_
 simp only[go_sem]
 refine CW (Ql w 1048576 AQ2) fun _=>?_
 refine AQx (fun h=>?_) fun h=>?_
 ·exact AIu
 have h00:0≤ER w 1048576:=ARD
 obtain⟨hf,hle⟩:=J8 w 1048576 h00 AQ2
 simp only[go_sem]
 refine CW (Qk q (ER w 1048576) h00) fun _=>?_
 refine AQx (fun h=>?_) fun h=>?_
 ·exact AIu
 have h01:0≤BV q (ER w 1048576):=ARD
 have hl:=(MJ q (ER w 1048576) h01 hle).1
 obtain⟨hf2,hb2⟩:=AFH w k q h00 hle h01 hl
 have hs:Ctr prog 20 [.agg w.c,.c (.v (.int .i64 (k))),.agg q.c] [.val (.agg (JS w k q).c),.val (.c (.v (.bool (CU w k))))]:=(AAh w k q hf hl).fz2 (JS w k q).o_er
 have hi:=AAi w k q hf hl
 generalize JS w k q=X at *
 generalize CU w k=b at *
 have hb1:=gy w 1 1048576 h00 AQ2
 have hl1:=Qo 1 w
 have hl2:=Qo 1 X
 have hn1:decide (DV 1 w<0)=false:=AQ5
 have hn2:decide (DV 1 X<0)=false:=AQ5
 have hbl:Ll (DV 1 w) q≤4000000000000000000:=by
  have:=AAk q (DV 1 w) _ h01 hle
  omega
 have e0:∀ b:Bool,(!(b==b))=false:=fun b=>by cases b<;>rfl
 simp only[go_sem]
 first | refine CW (Bf w hf) fun _=>?_ | refine CZ (Bf w hf) ?_ | (refine ACF 9 5 ASq ?_; simp only[go_sem]; refine CZ (Bf w hf) ?_)
 simp only[go_sem]
 first | refine CW (Gl q hl) fun _=>?_ | refine CZ (Gl q hl) ?_ | (refine ACF 9 5 ASq ?_; simp only[go_sem]; refine CZ (Gl q hl) ?_)
 simp only[go_sem]
 first | refine CW (hs) fun _=>?_ | refine CZ (hs) ?_ | (refine ACF 9 5 ASq ?_; simp only[go_sem]; refine CZ (hs) ?_)
 simp only[go_sem]
 refine CW (VW w hf) fun _=>?_
 simp only[go_sem]
 refine CW (Qq q hl) fun _=>?_
 simp only[go_sem]
 first | refine ABQ (args:=[.agg w.c,.c (.v (.int .i64 (k))),.agg q.c]) [.agg X.o,.val (.c (.v (.bool (b))))] ARL ASH hi fun _=>?_ | (refine AAR ?_; simp only[go_sem]; refine BorE.mk (args:=[.agg w.c,.c (.v (.int .i64 (k))),.agg q.c]) [.agg X.o,.val (.c (.v (.bool (b))))] ARL ASH hi ?_)
 simp only[go_sem]
 refine ABQ (args:=[.agg X.c,.agg X.c]) _ ART rfl (Et _) fun _=>?_
 simp only[go_sem,e0]
 refine AAO ?_
 simp only[go_sem]
 refine CY (Bf w hf) ?_
 simp only[go_sem]
 refine AEF (args:=[.agg w.c,.agg w.c]) _ ART rfl (Et w) ?_
 simp only[go_sem]
 try refine AAO ?_
 try simp only[go_sem]
 first | refine CW (Gl q hl) fun _=>?_ | refine CY (Gl q hl) ?_
 simp only[go_sem]
 first | refine AEF (args:=[.agg q.c,.agg q.c]) _ (by simp only[CO,DU,ET,go_sem]) rfl (Nk q) ?_ | refine ABQ (args:=[.agg q.c,.agg q.c]) _ (by simp only[CO,DU,ET,go_sem]) rfl (Nk q) fun _=>?_
 simp only[go_sem]
 refine ACg true (zs:=[.ref 3,.v (.int .i64 w.c0.slots),.v (.int .i64 w.c0.bufs),.v (.int .i64 w.time),.v (.int .i64 w.t),.v (.int .i64 w.e),.v (.int .i64 w.d.ver),.ref 4,.ref 5,.ref 6,.ref 7,.ref 8,.ref 9,.ref 10])
  (cl:=[.ow 3 1 (w.c0.cols.map intC),.v (.int .i64 w.c0.slots),.v (.int .i64 w.c0.bufs),.v (.int .i64 w.time),.v (.int .i64 w.t),.v (.int .i64 w.e),.v (.int .i64 w.d.ver),.ow 204 5 (w.d.l.map DRef.c),.ow 170 5 (w.b.map DBuf.o),.ow 3 1 (w.m.map intC),.ow 173 3 (w.x.map DDead.c),.ow 3 1 (w.p.map intC),.ow 132 25 (w.tasks.map DTask.o),.ow 162 25 (w.deeds.map DDeed.o)])
  (Nq w 1 AQ2 hf AQ2) rfl ⟨rfl,rfl,rfl,rfl,AX _,AQ3,rfl,rfl,rfl,rfl,rfl,rfl,rfl,rfl,rfl,rfl,rfl,rfl,rfl,rfl,rfl,rfl,E_ _,AQ3,rfl,rfl,rfl,rfl,D5 _,AQ3,rfl,rfl,rfl,rfl,AX _,AQ3,rfl,rfl,rfl,rfl,Jo _,AQ3,rfl,rfl,rfl,rfl,AX _,AQ3,rfl,rfl,rfl,rfl,GU _,AQ3,rfl,rfl,rfl,rfl,IJ _,AQ3,trivial⟩ rfl (.inl rfl) fun cl' rs hM=>?_
 obtain⟨rfl,rfl⟩:=hM
 refine⟨⟨rfl,⟨rfl,rfl⟩,rfl,rfl,rfl,rfl,rfl,rfl,⟨rfl,rfl⟩,⟨rfl,rfl⟩,⟨rfl,rfl⟩,⟨rfl,rfl⟩,⟨rfl,rfl⟩,⟨rfl,rfl⟩,⟨rfl,rfl⟩,trivial⟩, ?_⟩
 simp only[go_sem,hn1]
 refine ACg true (zs:=[.v (.int .i64 q.kind),.v (.int .i64 q.p.kind),.v (.int .i64 q.p.col),.v (.int .i64 q.p.op),.v (.int .i64 q.p.v.ty),.v (.int .i64 q.p.v.n),.v (.string q.p.v.s),.ref 12,.v (.int .i64 q.col),.ref 13])
  (cl:=[.v (.int .i64 q.kind),.v (.int .i64 q.p.kind),.v (.int .i64 q.p.col),.v (.int .i64 q.p.op),.v (.int .i64 q.p.v.ty),.v (.int .i64 q.p.v.n),.v (.string q.p.v.s),.ow 69 7 (q.p.l.map DPred.o),.v (.int .i64 q.col),.ow 3 1 (q.out.map intC)])
  (by simpa only[go_sem] using qB q (DV 1 w) AQ2 hl hbl) rfl ⟨rfl,rfl,rfl,rfl,rfl,rfl,rfl,rfl,rfl,rfl,rfl,rfl,rfl,rfl,rfl,rfl,rfl,rfl,BC _,AQ3,rfl,rfl,rfl,rfl,rfl,rfl,AX _,AQ3,trivial⟩ rfl (.inl rfl) fun cl' rs hM=>?_
 obtain⟨rfl,rfl⟩:=hM
 refine⟨⟨rfl,rfl,rfl,rfl,rfl,rfl,rfl,rfl,⟨rfl,rfl⟩,rfl,⟨rfl,rfl⟩,trivial⟩, ?_⟩
 have hbn:decide (Ll (DV 1 w) q<0)=false:=by have:=AAj (DV 1 w) q; simp; omega
 simp only[go_sem,hn1,hbn]
 refine ABQ (args:=[.agg X.c,.agg X.c]) _ ART rfl (Et _) fun _=>?_
 simp only[go_sem,hn1,hbn,e0]
 refine ACg true (zs:=[.ref 15,.v (.int .i64 X.c0.slots),.v (.int .i64 X.c0.bufs),.v (.int .i64 X.time),.v (.int .i64 X.t),.v (.int .i64 X.e),.v (.int .i64 X.d.ver),.ref 16,.ref 17,.ref 18,.ref 19,.ref 20,.ref 21,.ref 22])
  (cl:=[.ow 3 1 (X.c0.cols.map intC),.v (.int .i64 X.c0.slots),.v (.int .i64 X.c0.bufs),.v (.int .i64 X.time),.v (.int .i64 X.t),.v (.int .i64 X.e),.v (.int .i64 X.d.ver),.ow 204 5 (X.d.l.map DRef.c),.ow 170 5 (X.b.map DBuf.o),.ow 3 1 (X.m.map intC),.ow 173 3 (X.x.map DDead.c),.ow 3 1 (X.p.map intC),.ow 132 25 (X.tasks.map DTask.o),.ow 162 25 (X.deeds.map DDeed.o)])
  (Nq X 1 AQ2 hf2 AQ2) rfl ⟨rfl,rfl,rfl,rfl,AX _,AQ3,rfl,rfl,rfl,rfl,rfl,rfl,rfl,rfl,rfl,rfl,rfl,rfl,rfl,rfl,rfl,rfl,E_ _,AQ3,rfl,rfl,rfl,rfl,D5 _,AQ3,rfl,rfl,rfl,rfl,AX _,AQ3,rfl,rfl,rfl,rfl,Jo _,AQ3,rfl,rfl,rfl,rfl,AX _,AQ3,rfl,rfl,rfl,rfl,GU _,AQ3,rfl,rfl,rfl,rfl,IJ _,AQ3,trivial⟩ rfl (.inl rfl) fun cl' rs hM=>?_
 obtain⟨rfl,rfl⟩:=hM
 refine⟨⟨rfl,⟨rfl,rfl⟩,rfl,rfl,rfl,rfl,rfl,rfl,⟨rfl,rfl⟩,⟨rfl,rfl⟩,⟨rfl,rfl⟩,⟨rfl,rfl⟩,⟨rfl,rfl⟩,⟨rfl,rfl⟩,⟨rfl,rfl⟩,trivial⟩, ?_⟩
 simp only[go_sem]
 refine ABQ (args:=[.agg (PI 1 X).c,.c (.v (.int .i64 1))]) _ (by simp only[D8,CO,Cf,DF,D9,FB,DU,go_sem]; rfl) rfl (KR X 1 AQ2 hf2 AQ2) fun _=>?_
 simp only[go_sem,hn2,ax]
 first | refine CW (Bf w hf) fun _=>?_ | refine CZ (Bf w hf) ?_ | (refine ACF 9 5 ASq ?_; simp only[go_sem]; refine CZ (Bf w hf) ?_)
 simp only[go_sem]
 first | refine CW (Gl q hl) fun _=>?_ | refine CZ (Gl q hl) ?_ | (refine ACF 9 5 ASq ?_; simp only[go_sem]; refine CZ (Gl q hl) ?_)
 simp only[go_sem]
 first | refine CW (hi) fun _=>?_ | refine CZ (hi) ?_ | (refine ACF 9 5 ASq ?_; simp only[go_sem]; refine CZ (hi) ?_)
 exact AL2
end Go.Proofs.YthmifbbmgnhddaaGreat
