/- A part. -/
import Derived.Test.YtnoldekcdlaahaaGreatPVs
import Derived.Test.YtnoldekcdlaahaaGreatPVt
import Derived.Test.YtnoldekcdlaahaaGreatPVr
set_option linter.unusedSimpArgs false
set_option linter.unusedVariables false
set_option maxHeartbeats 4000000
set_option maxRecDepth 10000
open Go.Proofs.Tryz
namespace Go.Proofs.YtnoldekcdlaahaaGreat
open Go.Vm
theorem ABu (w:DWorld) (k:Int) (hf:Aa w):Ctr prog 14 [.agg w.c,.c (.v (.int .i64 (k)))] [.agg (Q4 w k).o,.val (.c (.v (.bool (AAO w k))))]:=iT w k hf
theorem ABv (w:DWorld) (k:Int) (hf:Aa w):Ctr prog 15 [.agg w.c,.c (.v (.int .i64 (k)))] [.agg (Q4 w k).o,.val (.c (.v (.bool (AAO w k))))]:=iV w k hf
theorem YW (w:DWorld) (k:Int):Ctr prog 4 [.agg w.c,.c (.v (.int .i64 (k)))] [.val (.c (.v (.bool (true))))]:=by
 refine CM call4 func4 ntmps4 results4 fun hw=>?_
 simp only[go_sem]
 refine CW (lY w 1048576 AOQ) fun _=>?_
 refine AOJ (fun h=>?_) fun h=>?_
 ·exact AI5
 have h00:0≤Ip w 1048576:=AOc
 obtain⟨hf,hle⟩:=QY w 1048576 h00 AOQ
 obtain⟨hf2,hb2⟩:=uM w k h00
 have hs:Ctr prog 14 [.agg w.c,.c (.v (.int .i64 (k)))] [.val (.agg (Q4 w k).c),.val (.c (.v (.bool (AAO w k))))]:=(ABu w k hf).fz2 (Q4 w k).o_er
 have hi:=ABv w k hf
 generalize Q4 w k=X at *
 generalize AAO w k=b at *
 have hb1:=wM w 1 1048576 h00 AOQ
 have hl1:=ZT 1 w
 have hl2:=ZT 1 X
 have hn1:decide (Gv 1 w<0)=false:=AOS
 have hn2:decide (Gv 1 X<0)=false:=AOS
 have e0:∀ b:Bool,(!(b==b))=false:=fun b=>by cases b<;>rfl
 simp only[go_sem]
 first | refine CW (Hy w hf) fun _=>?_ | refine CZ (Hy w hf) ?_ | (refine ABH ?_; simp only[go_sem]; refine CZ (Hy w hf) ?_)
 simp only[go_sem]
 first | refine CW (hs) fun _=>?_ | refine CZ (hs) ?_ | (refine ABH ?_; simp only[go_sem]; refine CZ (hs) ?_)
 simp only[go_sem]
 refine CW (ZZ w hf) fun _=>?_
 simp only[go_sem]
 first | refine ACK (args:=[.agg w.c,.c (.v (.int .i64 (k)))]) [.agg X.o,.val (.c (.v (.bool (b))))] (by simp only[EW,JF,A7,Ia,DT,DI,Ah,FN]; first | rfl | simp only[go_sem]) (by simp only[bi,Gn,Ti,bJ,aN]) hi fun _=>?_ | (refine ABH ?_; simp only[go_sem]; refine ACM (args:=[.agg w.c,.c (.v (.int .i64 (k)))]) [.agg X.o,.val (.c (.v (.bool (b))))] (by simp only[EW,JF,A7,Ia,DT,DI,Ah,FN]; first | rfl | simp only[go_sem]) (by simp only[bi,Gn,Ti,bJ,aN]) hi ?_)
 simp only[go_sem]
 refine ACK (args:=[.agg X.c,.agg X.c]) _ AO_ rfl (MK _) fun _=>?_
 simp only[go_sem,e0]
 refine AAm ?_
 simp only[go_sem]
 refine CY (Hy w hf) ?_
 simp only[go_sem]
 refine AEQ (args:=[.agg w.c,.agg w.c]) _ AO_ rfl (MK w) ?_
 simp only[go_sem]
 refine AEP true (zs:=[.ref 2,.v (.int .i64 w.c0.slots),.v (.int .i64 w.c0.bufs),.v (.int .i64 w.time),.v (.int .i64 w.t),.v (.int .i64 w.e),.v (.int .i64 w.d.ver),.ref 3,.ref 4,.ref 5,.ref 6,.ref 7,.ref 8,.ref 9])
  (cl:=[.ow 3 1 (w.c0.cols.map intC),.v (.int .i64 w.c0.slots),.v (.int .i64 w.c0.bufs),.v (.int .i64 w.time),.v (.int .i64 w.t),.v (.int .i64 w.e),.v (.int .i64 w.d.ver),.ow 133 5 (w.d.l.map DRef.c),.ow 142 5 (w.b.map DBuf.o),.ow 3 1 (w.m.map intC),.ow 145 3 (w.x.map DDead.c),.ow 3 1 (w.p.map intC),.ow 72 25 (w.tasks.map DTask.o),.ow 152 25 (w.deeds.map DDeed.o)])
  (Ux w 1 AOQ hf AOQ) rfl ⟨rfl,rfl,rfl,rfl,AX _,AOR,rfl,rfl,rfl,rfl,rfl,rfl,rfl,rfl,rfl,rfl,rfl,rfl,rfl,rfl,rfl,rfl,BO _,AOR,rfl,rfl,rfl,rfl,BK _,AOR,rfl,rfl,rfl,rfl,AX _,AOR,rfl,rfl,rfl,rfl,DY _,AOR,rfl,rfl,rfl,rfl,AX _,AOR,rfl,rfl,rfl,rfl,Gw _,AOR,rfl,rfl,rfl,rfl,DU _,AOR,trivial⟩ rfl (.inl rfl) fun cl' rs hM=>?_
 obtain⟨rfl,rfl⟩:=hM
 refine⟨⟨rfl,⟨rfl,rfl⟩,rfl,rfl,rfl,rfl,rfl,rfl,⟨rfl,rfl⟩,⟨rfl,rfl⟩,⟨rfl,rfl⟩,⟨rfl,rfl⟩,⟨rfl,rfl⟩,⟨rfl,rfl⟩,⟨rfl,rfl⟩,trivial⟩, ?_⟩
 simp only[go_sem,hn1]
 refine ACK (args:=[.agg X.c,.agg X.c]) _ AO_ rfl (MK _) fun _=>?_
 simp only[go_sem,hn1,e0]
 refine AEP true (zs:=[.ref 11,.v (.int .i64 X.c0.slots),.v (.int .i64 X.c0.bufs),.v (.int .i64 X.time),.v (.int .i64 X.t),.v (.int .i64 X.e),.v (.int .i64 X.d.ver),.ref 12,.ref 13,.ref 14,.ref 15,.ref 16,.ref 17,.ref 18])
  (cl:=[.ow 3 1 (X.c0.cols.map intC),.v (.int .i64 X.c0.slots),.v (.int .i64 X.c0.bufs),.v (.int .i64 X.time),.v (.int .i64 X.t),.v (.int .i64 X.e),.v (.int .i64 X.d.ver),.ow 133 5 (X.d.l.map DRef.c),.ow 142 5 (X.b.map DBuf.o),.ow 3 1 (X.m.map intC),.ow 145 3 (X.x.map DDead.c),.ow 3 1 (X.p.map intC),.ow 72 25 (X.tasks.map DTask.o),.ow 152 25 (X.deeds.map DDeed.o)])
  (Ux X 1 AOQ hf2 AOQ) rfl ⟨rfl,rfl,rfl,rfl,AX _,AOR,rfl,rfl,rfl,rfl,rfl,rfl,rfl,rfl,rfl,rfl,rfl,rfl,rfl,rfl,rfl,rfl,BO _,AOR,rfl,rfl,rfl,rfl,BK _,AOR,rfl,rfl,rfl,rfl,AX _,AOR,rfl,rfl,rfl,rfl,DY _,AOR,rfl,rfl,rfl,rfl,AX _,AOR,rfl,rfl,rfl,rfl,Gw _,AOR,rfl,rfl,rfl,rfl,DU _,AOR,trivial⟩ rfl (.inl rfl) fun cl' rs hM=>?_
 obtain⟨rfl,rfl⟩:=hM
 refine⟨⟨rfl,⟨rfl,rfl⟩,rfl,rfl,rfl,rfl,rfl,rfl,⟨rfl,rfl⟩,⟨rfl,rfl⟩,⟨rfl,rfl⟩,⟨rfl,rfl⟩,⟨rfl,rfl⟩,⟨rfl,rfl⟩,⟨rfl,rfl⟩,trivial⟩, ?_⟩
 simp only[go_sem]
 refine ACK (args:=[.agg (SE 1 X).c,.c (.v (.int .i64 1))]) _ (by simp only[EW,JF,A7,Ia,DT,DI,Ah,go_sem]; rfl) rfl (Qc X 1 AOQ hf2 AOQ) fun _=>?_
 simp only[go_sem,hn2,az]
 first | refine CW (Hy w hf) fun _=>?_ | refine CZ (Hy w hf) ?_ | (refine ABH ?_; simp only[go_sem]; refine CZ (Hy w hf) ?_)
 simp only[go_sem]
 first | refine CW (hi) fun _=>?_ | refine CZ (hi) ?_ | (refine ABH ?_; simp only[go_sem]; refine CZ (hi) ?_)
 simp only[go_sem]
 refine ACK (args:=[.agg X.c,.agg X.c]) _ AO_ rfl (MK _) fun _=>?_
 simp only[go_sem,e0]
 refine ACK (args:=[.agg (SE 1 X).c,.c (.v (.int .i64 1))]) _ (by simp only[EW,JF,A7,Ia,DT,DI,Ah,go_sem]; rfl) rfl (Qc X 1 AOQ hf2 AOQ) fun _=>?_
 simp only[go_sem,hn2,az]
end Go.Proofs.YtnoldekcdlaahaaGreat
