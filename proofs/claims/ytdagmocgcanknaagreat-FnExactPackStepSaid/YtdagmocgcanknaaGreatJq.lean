/- A part. -/
import Derived.Test.YtdagmocgcanknaaGreatJk
import Derived.Test.YtdagmocgcanknaaGreatJm
import Derived.Test.YtdagmocgcanknaaGreatJn
import Derived.Test.YtdagmocgcanknaaGreatJi
set_option linter.unusedSimpArgs false
set_option linter.unusedVariables false
set_option maxHeartbeats 8000000
set_option maxRecDepth 10000
open Go.Proofs.Tryz
namespace Go.Proofs.YtdagmocgcanknaaGreat
open Go.Vm
theorem Y_ (w:DWorld) (k:Int) (hf:AU w) (h1:Dl w=true):Ctr prog 32 [.agg w.c,.c (.v (.int .i64 (k)))] [.agg (KH w k).o,.val (.c (.v (.bool (Eg w k))))]:=by
 rcases h2:Ae k 3 4 with _ | _
 .have e1:Eg w k=false:=by simp only[Eg,O4,h2,ac,ay]
  rw[e1,Jb e1];refine ACf call32 func32 rfl mixed ntmps32 results32 (by kernel_rfl) rfl fun hw=>?_;simp only[go_sem];refine CW (AL k 3 4) fun _=>?_;simp only[go_sem,h2,aH];try refine AAR ?_
  try simp only[go_sem]
  refine CW (EJ w hf) fun _=>?_;exact AJB
 obtain⟨n0,rfl,hn0⟩:=Zh h2 AOl;have hn3:3<=n0:=AOw;have hl:=JG h1;have hlt:n0<w.tasks.length:=AOl;have hlp:n0<w.p.length:=AOl;have hop:opAt w (n0:Int)=w.tasks[n0].op:=by simp[opAt,hlt]
 have hi04:Ae (n0:Int) 0 4=true:=AQT;have eb:∀ op,Tv w (n0:Int) op=((opAt w (n0:Int)==op)&&V9 w):=fun op=>by simp only[Tv,hi04,ah]
 rcases h4:V9 w with _ | _
 .have e1:Eg w (n0:Int)=false:=by simp only[Eg,O4,h4,ac,ay]
  rw[e1,Jb e1];refine ACf call32 func32 rfl mixed ntmps32 results32 (by kernel_rfl) rfl fun hw=>?_;simp only[go_sem];refine CW (AL (n0:Int) 3 4) fun _=>?_;simp only[go_sem,h2,aD];refine CW (E5 w (n0:Int) 0 h1) fun _=>?_;simp only[go_sem,eb,h4,ay];refine CW (EJ w hf) fun _=>?_;simp only[go_sem];refine CW (E5 w (n0:Int) 4 h1) fun _=>?_;simp only[go_sem,eb,h4,ay,aH];exact EndH.self (by simp only[go_sem]; simp[AB])
 rcases h0:opAt w (n0:Int)==0 with _ | _
 .have h3:w.tasks[n0].op=4:=(nO h1 hlt hn3).resolve_left fun e=>by rw[hop,e] at h0; cases h0
  have e1:Eg w (n0:Int)=true:=by simp only[Eg,O4,h1,h2,h4,h0]; rfl
  have e2:KH w (n0:Int)=He (CP w n0 (Bv w n0)):=by simp[KH,e1,h0]
  rw[e1,e2];by_cases p4:(Bv w n0).pc=4
  .exact AEr w n0 hf h1 hlt h2 h4 h3 p4
  by_cases p5:(Bv w n0).pc=5
  .exact AEs w n0 hf h1 hlt h2 h4 h3 p5
  exact AEq w n0 hf h1 hlt h2 h4 h3 ⟨p4,p5⟩
 have e0:w.tasks[n0].op=0:=by rw[<- hop]; simpa using h0
 have hld:w.deeds.length+1<=2147483648:=by rw[AZ] at hf; have:=hf.2.2.2.2.2.2.2.1; omega
 have eok:∀ b,NI w=b->Eg w (n0:Int)=b:=fun b hb=>by simp only[Eg,O4,h1,h2,h4,h0,hb,ah,aD,be]
 refine ACf call32 func32 rfl mixed ntmps32 results32 (by kernel_rfl) rfl fun hw=>?_;simp only[go_sem];refine CW (AL (n0:Int) 3 4) fun _=>?_;simp only[go_sem,h2,aD];refine CW (E5 w (n0:Int) 0 h1) fun _=>?_;simp only[go_sem,eb,h0,h4,aw];refine CW (SE w hf) fun _=>?_;rcases h6:(BN w).2==0 with _ | _;rotate_left
 .have h7:((BN w).2 != 0)=false:=by simp only[bne,h6,aD]
  have e1:=eok false (by simp only[NI,h7,ac,ay]);simp only[go_sem,h6,e1,Jb e1];refine CW (EJ w hf) fun _=>?_;exact AJB
 have h7:((BN w).2 != 0)=true:=by simp only[bne,h6,aH]
 simp only[go_sem,h6];refine CW (nT w.b) fun _=>?_;rcases h8:QO w.b==0 with _ | _;rotate_left
 .have h9:(QO w.b != 0)=false:=by simp only[bne,h8,aD]
  have e1:=eok false (by simp only[NI,h9,ay]);simp only[go_sem,h8,e1,Jb e1];refine CW (EJ w hf) fun _=>?_;exact AJB
 have h9:(QO w.b != 0)=true:=by simp only[bne,h8,aH]
 have e1:=eok true (by simp only[NI,h4,h7,h9,aw]);have e2:KH w (n0:Int)=O_ w n0 Bz Ea 0:=by simp[KH,e1,h0]
 simp only[go_sem,h8,e1,e2];refine AA8 (fn:=f105) call105 func105 rfl mixed ntmps105 results105 (by kernel_rfl) rfl ?_;simp only[go_sem];refine CW (EJ w hf) fun _=>?_;simp only[go_sem,ag,aj,nY];repeat (refine AAR ?_; simp only[go_sem,aa,ag,aj,nY,as_,hlt,hld,nrZ,dD,AA _ hlt,DTask.o_eq w.tasks[n0]])
 refine EndH.close 12 n0 [] (row':=DTask.o (Ph w Bz)) rfl (aN AP9) rfl AOu ?_ ?_
 .simp only[go_sem,DTask.o_eq,DQuery.o_eq,DPred.o_eq,Ph,Bz];simp[AB,J5,O0,DPred.kind,DPred.col,DPred.op,DPred.v,DPred.l]
 simp only[Aa,go_sem,al];refine EndH.close 16 (w.deeds.map DDeed.o).length [] (row':=DDeed.o (Xo w n0 Bz Ea)) rfl List.getElem?_concat_length rfl AOu ?_ ?_
 .simp only[go_sem,DDeed.o_eq,DQuery.o_eq,DPred.o_eq,DResult.o_eq,Xo,Ea,Bz];simp[AB,J5,O0,Zg,DPred.kind,DPred.col,DPred.op,DPred.v,DPred.l]
 simp only[Aa,go_sem];exact AJ9
theorem cZ (w:DWorld) (k:Int) (hf:AU w):Ctr prog 7 [.agg w.c,.c (.v (.int .i64 (k)))] [.agg (KH w k).o,.val (.c (.v (.bool (Eg w k))))]:=by
 refine ACf call7 func7 rfl mixed ntmps7 results7 (by kernel_rfl) rfl fun hw=>?_;simp only[go_sem];refine CW (jR w hf) fun _=>?_;rcases h1:Dl w with _ | _
 .have e1:Eg w k=false:=by simp only[Eg,h1,ac]
  simp only[go_sem,e1,Jb e1,aH];try refine AAR ?_
  try simp only[go_sem]
  refine CW (EJ w hf) fun _=>?_;exact AJB
 simp only[go_sem,aD];refine CW (Y_ w k hf h1) fun _=>?_;exact AJB
theorem XQ (w:DWorld) (k:Int):Ctr prog 3 [.agg w.c,.c (.v (.int .i64 (k)))] [.val (.c (.v (.bool (true))))]:=by
 refine CM call3 func3 ntmps3 results3 fun hw=>?_;simp only[go_sem];refine CW (mZ w 1048576 AOl) fun _=>?_;refine AOd (fun h=>?_) fun h=>?_
 .exact AJC
 have h00:0<=Ig w 1048576:=AO1;obtain⟨hf,hle⟩:=OT w 1048576 h00 AOl;obtain⟨hf2,hb2⟩:=nR w k h00;have hs:Ctr prog 5 [.agg w.c,.c (.v (.int .i64 (k)))] [.val (.agg (KH w k).c),.val (.c (.v (.bool (Eg w k))))]:=(b_ w k hf).fz2 (KH w k).o_er;have hi:=cZ w k hf;generalize KH w k=X at *;generalize Eg w k=b at *;have hb1:=xG w 1 1048576 h00 AOl;have hl1:=bD 1 w;have hl2:=bD 1 X;have hn1:decide (GH 1 w<0)=false:=AOn;have hn2:decide (GH 1 X<0)=false:=AOn;have e0:∀ b:Bool,(!(b==b))=false:=fun b=>by cases b<;>rfl
 simp only[go_sem];first | refine CW (H_ w hf) fun _=>?_ | refine CZ (H_ w hf) ?_ | (refine AAR ?_; simp only[go_sem]; refine CZ (H_ w hf) ?_)
 simp only[go_sem];first | refine CW (hs) fun _=>?_ | refine CZ (hs) ?_ | (refine AAR ?_; simp only[go_sem]; refine CZ (hs) ?_)
 simp only[go_sem];refine CW (dB w hf) fun _=>?_;simp only[go_sem];first | refine ABh (args:=[.agg w.c,.c (.v (.int .i64 (k)))]) [.agg X.o,.val (.c (.v (.bool (b))))] (by simp only[Ar,BH,F5,Bi,BV,Ad]; first | rfl | simp only[go_sem]) (by simp only[aI,EH,UY,aM,aw]) hi fun _=>?_ | (refine AAR ?_; simp only[go_sem]; refine ABj (args:=[.agg w.c,.c (.v (.int .i64 (k)))]) [.agg X.o,.val (.c (.v (.bool (b))))] (by simp only[Ar,tJ,BH,F5,Bi,BV,Ad,XR]; first | rfl | simp only[go_sem]) (by simp only[aI,EH,UY,aM,aw]) hi ?_)
 simp only[go_sem];refine ABh (args:=[.agg X.c,.agg X.c]) _ AOz rfl (NH _) fun _=>?_;simp only[go_sem,e0];refine AAP ?_;simp only[go_sem];refine CY (H_ w hf) ?_;simp only[go_sem];refine ACg (args:=[.agg w.c,.agg w.c]) _ AOz rfl (NH w) ?_;simp only[go_sem]
 refine ADS true (zs:=[.ref 2,.v (.int .i64 w.c0.slots),.v (.int .i64 w.c0.bufs),.v (.int .i64 w.time),.v (.int .i64 w.t),.v (.int .i64 w.e),.v (.int .i64 w.d.ver),.ref 3,.ref 4,.ref 5,.ref 6,.ref 7,.ref 8,.ref 9])
  (cl:=[.ow 3 1 (w.c0.cols.map intC),.v (.int .i64 w.c0.slots),.v (.int .i64 w.c0.bufs),.v (.int .i64 w.time),.v (.int .i64 w.t),.v (.int .i64 w.e),.v (.int .i64 w.d.ver),.ow 139 5 (w.d.l.map DRef.c),.ow 145 5 (w.b.map DBuf.o),.ow 3 1 (w.m.map intC),.ow 152 3 (w.x.map DDead.c),.ow 3 1 (w.p.map intC),.ow 120 25 (w.tasks.map DTask.o),.ow 135 25 (w.deeds.map DDeed.o)])
  (VP w 1 AOl hf AOl) rfl ⟨rfl,rfl,rfl,rfl,AQ _,AOm,rfl,rfl,rfl,rfl,rfl,rfl,rfl,rfl,rfl,rfl,rfl,rfl,rfl,rfl,rfl,rfl,BC _,AOm,rfl,rfl,rfl,rfl,A7 _,AOm,rfl,rfl,rfl,rfl,AQ _,AOm,rfl,rfl,rfl,rfl,Ci _,AOm,rfl,rfl,rfl,rfl,AQ _,AOm,rfl,rfl,rfl,rfl,Ho _,AOm,rfl,rfl,rfl,rfl,Cb _,AOm,trivial⟩ rfl (.inl rfl) fun cl' rs hM=>?_
 obtain⟨rfl,rfl⟩:=hM;refine⟨⟨rfl,⟨rfl,rfl⟩,rfl,rfl,rfl,rfl,rfl,rfl,⟨rfl,rfl⟩,⟨rfl,rfl⟩,⟨rfl,rfl⟩,⟨rfl,rfl⟩,⟨rfl,rfl⟩,⟨rfl,rfl⟩,⟨rfl,rfl⟩,trivial⟩, ?_⟩;simp only[go_sem,hn1];refine ABh (args:=[.agg X.c,.agg X.c]) _ AOz rfl (NH _) fun _=>?_;simp only[go_sem,e0]
 refine ADS true (zs:=[.ref 11,.v (.int .i64 X.c0.slots),.v (.int .i64 X.c0.bufs),.v (.int .i64 X.time),.v (.int .i64 X.t),.v (.int .i64 X.e),.v (.int .i64 X.d.ver),.ref 12,.ref 13,.ref 14,.ref 15,.ref 16,.ref 17,.ref 18])
  (cl:=[.ow 3 1 (X.c0.cols.map intC),.v (.int .i64 X.c0.slots),.v (.int .i64 X.c0.bufs),.v (.int .i64 X.time),.v (.int .i64 X.t),.v (.int .i64 X.e),.v (.int .i64 X.d.ver),.ow 139 5 (X.d.l.map DRef.c),.ow 145 5 (X.b.map DBuf.o),.ow 3 1 (X.m.map intC),.ow 152 3 (X.x.map DDead.c),.ow 3 1 (X.p.map intC),.ow 120 25 (X.tasks.map DTask.o),.ow 135 25 (X.deeds.map DDeed.o)])
  (VP X 1 AOl hf2 AOl) rfl ⟨rfl,rfl,rfl,rfl,AQ _,AOm,rfl,rfl,rfl,rfl,rfl,rfl,rfl,rfl,rfl,rfl,rfl,rfl,rfl,rfl,rfl,rfl,BC _,AOm,rfl,rfl,rfl,rfl,A7 _,AOm,rfl,rfl,rfl,rfl,AQ _,AOm,rfl,rfl,rfl,rfl,Ci _,AOm,rfl,rfl,rfl,rfl,AQ _,AOm,rfl,rfl,rfl,rfl,Ho _,AOm,rfl,rfl,rfl,rfl,Cb _,AOm,trivial⟩ rfl (.inl rfl) fun cl' rs hM=>?_
 obtain⟨rfl,rfl⟩:=hM;refine⟨⟨rfl,⟨rfl,rfl⟩,rfl,rfl,rfl,rfl,rfl,rfl,⟨rfl,rfl⟩,⟨rfl,rfl⟩,⟨rfl,rfl⟩,⟨rfl,rfl⟩,⟨rfl,rfl⟩,⟨rfl,rfl⟩,⟨rfl,rfl⟩,trivial⟩, ?_⟩;simp only[go_sem];refine ABh (args:=[.agg (TK 1 X).c,.c (.v (.int .i64 1))]) _ (by simp only[Ar,BH,F5,Bi,BV,Ad,go_sem]; rfl) rfl (Q_ X 1 AOl hf2 AOl) fun _=>?_;simp only[go_sem,hn2,as_];first | refine CW (H_ w hf) fun _=>?_ | refine CZ (H_ w hf) ?_ | (refine AAR ?_; simp only[go_sem]; refine CZ (H_ w hf) ?_)
 simp only[go_sem];first | refine CW (hi) fun _=>?_ | refine CZ (hi) ?_ | (refine AAR ?_; simp only[go_sem]; refine CZ (hi) ?_)
 simp only[go_sem];refine ABh (args:=[.agg X.c,.agg X.c]) _ AOz rfl (NH _) fun _=>?_;simp only[go_sem,e0];refine ABh (args:=[.agg (TK 1 X).c,.c (.v (.int .i64 1))]) _ (by simp only[Ar,BH,F5,Bi,BV,Ad,go_sem]; rfl) rfl (Q_ X 1 AOl hf2 AOl) fun _=>?_;simp only[go_sem,hn2,as_]
