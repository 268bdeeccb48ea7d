/- A part. -/
import Derived.Test.YtdagmocgcanknaaGreatJf
import Derived.Test.YtdagmocgcanknaaGreatJg
import Derived.Test.YtdagmocgcanknaaGreatJh
set_option linter.unusedSimpArgs false
set_option linter.unusedVariables false
set_option maxHeartbeats 8000000
set_option maxRecDepth 10000
open Go.Proofs.Tryz
namespace Go.Proofs.YtdagmocgcanknaaGreat
open Go.Vm
theorem AC4 (a:Ob) (ha:Aq 2 a=true) (w:DWorld) (n0:Nat) (hf:AU w) (h1:Dl w=true) (hlt0:n0<w.tasks.length) (h3:w.tasks[n0].op=4):InlS prog 22 (kX a w) [.lp 1 0 0,.c (.v (.int .i64 ((n0:Int))))] (.c (.v (.bool (true)))) (kX a (CP w n0 (Bv w n0))):=by
 by_cases h4:(Bv w n0).pc=4
 .exact AEo a ha w n0 hf h1 hlt0 h3 h4
 by_cases h5:(Bv w n0).pc=5
 .exact AEp a ha w n0 hf h1 hlt0 h3 h5
 exact AEn a ha w n0 hf h1 hlt0 h3 ⟨h4,h5⟩
theorem b_ (w:DWorld) (k:Int) (hf:AU w):Ctr prog 5 [.agg w.c,.c (.v (.int .i64 (k)))] [.agg (KH w k).o,.val (.c (.v (.bool (Eg w k))))]:=by
 refine ACf call5 func5 rfl mixed ntmps5 results5 (by kernel_rfl) rfl fun hw=>?_;simp only[go_sem];refine CW (JL w hf) fun _=>?_;simp only[go_sem];refine CW (jE w hf) fun _=>?_;rcases h1:Dl w with _ | _
 .have e1:Eg w k=false:=by simp only[Eg,h1,ac]
  simp only[go_sem,e1,Jb e1];refine CW (JL w hf) fun _=>?_;exact AJB
 simp only[go_sem];refine AAO _ (AP k 3 4) fun _=>?_;rcases h2:Ae k 3 4 with _ | _
 .have e1:Eg w k=false:=by simp only[Eg,O4,h2,ac,ay]
  simp only[go_sem,e1,Jb e1];refine CW (JL w hf) fun _=>?_;exact AJB
 obtain⟨n0,rfl,hn0⟩:=Zh h2 AOl;have hn3:3<=n0:=AOw;have hlt0:n0<w.tasks.length:=by have:=(JG h1).1; omega
 have hop:opAt w (n0:Int)=w.tasks[n0].op:=by simp[opAt,hlt0]
 simp only[go_sem];refine ACZ _ _ (AFu w rfl) ?_;rcases h4:V9 w with _ | _
 .have e1:Eg w (n0:Int)=false:=by simp only[Eg,O4,h4,ac,ay]
  simp only[go_sem,e1,Jb e1];refine CW (JL w hf) fun _=>?_;exact AJB
 simp only[go_sem];rcases h0:opAt w (n0:Int)==0 with _ | _
 .have h3:w.tasks[n0].op=4:=(nO h1 hlt0 hn3).resolve_left fun e=>by rw[hop,e] at h0; cases h0
  have e1:Eg w (n0:Int)=true:=by simp only[Eg,O4,h1,h2,h4,h0]; rfl
  have e2:KH w (n0:Int)=He (CP w n0 (Bv w n0)):=by simp[KH,e1,h0]
  rw[e1,e2];refine InlK.mkC [(1,true),(10,true)] 10 0 [2,3,4,5,6,7,8,9] [1,4,6,21] (row':=w.o) (y:=.c (.v (.bool (true)))) (st1:=kX d_ w) (st':=kX d_ (CP w n0 (Bv w n0))) (st2:=openR 1 0 14 0 (kX d_ (CP w n0 (Bv w n0)))) rfl rfl rfl AOu ?_ ?_ rfl ?_ (AC4 d_ rfl w n0 hf h1 hlt0 h3) rfl (fun env=>Head.openR 1 0 14 0 ⟨_,env,_⟩) ?_
  .exact ANP
  .simp only[Aa,BR,go_sem];exact⟨rfl,rfl,rfl,rfl,trivial⟩
  .simp only[Aa,BR,go_sem];rfl
  generalize CP w n0 (Bv w (n0:Int))=X;simp only[kX,d_,openR,CV,uk,QT,EM,go_sem];exact EndH.self (by simp only[go_sem,He]; simp[AB])
 have e0:w.tasks[n0].op=0:=by rw[<- hop]; simpa using h0
 have o0:((0:Int)==0)=true:=rfl;have hld:w.deeds.length+1<=2147483648:=by rw[AZ] at hf; have:=hf.2.2.2.2.2.2.2.1; omega
 have eok:∀ b,NI w=b->Eg w (n0:Int)=b:=fun b hb=>by simp only[Eg,O4,h1,h2,h4,h0,hb,ah,aD,be]
 refine AA8 (fn:=f22) call22 func22 rfl mixed ntmps22 results22 (by kernel_rfl) rfl ?_;simp only[go_sem,hlt0,AA _ hlt0,e0,o0];refine ABh (args:=[.agg w.c]) _ AOz rfl (by simpa only[go_sem] using SG w hf) fun _=>?_;rcases h6:(BN w).2==0 with _ | _;rotate_left
 .have h7:((BN w).2 != 0)=false:=by simp only[bne,h6,aD]
  have e1:=eok false (by simp only[NI,h7,ac,ay]);simp only[go_sem,h6,e1,Jb e1];refine CW (JL w hf) fun _=>?_;exact AJB
 have h7:((BN w).2 != 0)=true:=by simp only[bne,h6,aH]
 simp only[go_sem,h6];refine ABh (args:=[.c (.sl (w.b.map DBuf.c))]) _ APG rfl (by simpa only[go_sem] using nS w.b) fun _=>?_;rcases h8:QO w.b==0 with _ | _;rotate_left
 .have h9:(QO w.b != 0)=false:=by simp only[bne,h8,aD]
  have e1:=eok false (by simp only[NI,h9,ay]);simp only[go_sem,h8,e1,Jb e1];refine CW (JL w hf) fun _=>?_;exact AJB
 have h9:(QO w.b != 0)=true:=by simp only[bne,h8,aH]
 have e1:=eok true (by simp only[NI,h4,h7,h9,aw]);have e2:KH w (n0:Int)=O_ w n0 Bz Ea 0:=by simp[KH,e1,h0]
 simp only[go_sem,h8,e1,e2];refine AA8 (fn:=f72) call72 func72 rfl mixed ntmps72 results72 (by kernel_rfl) rfl ?_;simp only[go_sem,aa];refine AAR ?_;simp only[go_sem];refine ABg _ (Wu (Ph w Bz) (VX w)) ?_;simp only[go_sem,aa,hlt0,AA _ hlt0,DTask.o_eq w.tasks[n0]];refine AAR ?_;simp only[go_sem];refine ABg _ (Wv (Xo w n0 Bz Ea) (VY _ _ _)) ?_;simp only[go_sem,aa,hld,nrD,ax];refine EndH.close 8 n0 [13,14,15,16,17] (row':=DTask.o (Ph w Bz)) rfl (aN (by simpa using hlt0)) rfl AOu ?_ ?_
 .simp only[go_sem,DTask.o_eq,DQuery.o_eq,DPred.o_eq];simp[AB]
 simp only[Aa,BR,go_sem,al];refine EndH.close 23 (w.deeds.map DDeed.o).length [18,19,20,21] (row':=DDeed.o (Xo w n0 Bz Ea)) rfl List.getElem?_concat_length rfl AOu ?_ ?_
 .simp only[go_sem,DDeed.o_eq,DQuery.o_eq,DPred.o_eq,DResult.o_eq];simp[AB]
 simp only[Aa,BR,go_sem];exact AJ9
