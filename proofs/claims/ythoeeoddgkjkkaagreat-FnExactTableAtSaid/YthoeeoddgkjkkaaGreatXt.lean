/- The law's walk: the table at a moment. -/
import Derived.Test.YthoeeoddgkjkkaaGreatXk
namespace Go.Proofs.YthoeeoddgkjkkaaGreat
set_option linter.unusedSimpArgs false
set_option linter.unusedVariables false
open Go.Vm
set_option maxHeartbeats 2000000
set_option maxRecDepth 10000
theorem lawTableAt_spec (w : DWorld) (ts : Int) : Ctr Tryz.prog 7 [.agg w.c,.c (.v (.int .i64 (ts)))] [.val (.c (.v (.bool (true))))]:=by
 refine Ctr.mk Tryz.call7 Tryz.func7 rfl mixed Tryz.ntmps7 Tryz.results7 (by kernel_rfl) rfl fun hw=>?_
 simp only [go_sem]
 refine CallK.mk _ (by simpa only [go_sem] using szWorld_spec w 1048576 (by omega)) fun _=>?_
 simp only [go_sem]
 refine cndC.mk (fun h=>?_) (fun h=>?_)
 ·simp only [go_sem]
 have h00 : 0 ≤ szWorld w 1048576:=by simp at h; omega
 obtain ⟨hf,hle⟩:=szWorld_fit w 1048576 h00 (by omega)
 have hfit:=tableAt_fit w ts hf
 have hkl:=hfit.1
 have hkx : ∀ x ∈ tableAt w ts,x.l.length ≤ 1048576:=fun x hx=>by
  have:=hfit.2 x hx
  rw [fitRow_eq] at this
  exact this.1
 have hck:=ckRows_bd _ hkl hkx
 have hck0:=ckL_le ckRow_le (tableAt w ts) 1
 simp only [go_sem]
 refine CallK.mk _ (by simpa only [go_sem] using toWorld_spec w hf) fun _=>?_
 simp only [go_sem]
 refine CallK.mk _ (by simpa only [go_sem] using sTableAt_spec w ts hf) fun _=>?_
 simp only [go_sem]
 refine CallK.mk _ (by simpa only [go_sem] using toWorld_ow w hf) fun _=>?_
 simp only [go_sem]
 refine BorK.mk (args:=[.agg w.c,.c (.v (.int .i64 (ts)))]) [.own 121 2 ((tableAt w ts).map DRow.o) true] (by simp only [erE_Buf,erE_Deed,erE_Task,erE_Row,er_Dead,er_Ref,er_int,er_Val]; rfl) (by simp only [List.all_cons,cloR,clo_Row,List.all_nil,Bool.and_true]) (iTableAt_spec w ts hf) fun _=>?_
 simp only [go_sem]
 refine BorK.mk (args:=[.c (.sl ((tableAt w ts).map DRow.c)),.c (.sl ((tableAt w ts).map DRow.c))]) _ (by simp only [erE_Buf,erE_Deed,erE_Task,erE_Row,er_Dead,er_Ref,er_int,er_Val]) rfl (eqRowS_spec _) fun _=>?_
 simp only [go_sem]
 refine DrawK.mk ?_
 simp only [go_sem]
 refine CallF.mk _ (by simpa only [go_sem] using toWorld_spec w hf) ?_
 simp only [go_sem]
 refine BorF.mk (args:=[.agg w.c,.agg w.c]) _ (by simp only [erE_Buf,erE_Deed,erE_Task,erE_Row,er_Dead,er_Ref,er_int,er_Val,go_sem]) rfl (eqWorld_spec w) ?_
 simp only [go_sem]
 refine MutK.mk true (zs:=[.ref 2,.v (.int .i64 w.c0.slots),.v (.int .i64 w.c0.bufs),.v (.int .i64 w.time),.v (.int .i64 w.t),.v (.int .i64 w.e),.v (.int .i64 w.d.ver),.ref 3,.ref 4,.ref 5,.ref 6,.ref 7,.ref 8,.ref 9])
  (cl:=[.ow 3 1 (w.c0.cols.map intC),.v (.int .i64 w.c0.slots),.v (.int .i64 w.c0.bufs),.v (.int .i64 w.time),.v (.int .i64 w.t),.v (.int .i64 w.e),.v (.int .i64 w.d.ver),.ow 56 5 (w.d.l.map DRef.c),.ow 101 5 (w.b.map DBuf.o),.ow 3 1 (w.m.map intC),.ow 168 3 (w.x.map DDead.c),.ow 3 1 (w.p.map intC),.ow 172 25 (w.tasks.map DTask.o),.ow 175 25 (w.deeds.map DDeed.o)])
  (by simpa only [go_sem] using markWorld_sp w 1 (by omega) 1048576 h00 (by omega) (by omega)) rfl
  ⟨rfl,rfl,rfl,rfl,nr_int _,by simp,rfl,rfl,rfl,rfl,rfl,rfl,rfl,rfl,rfl,rfl,rfl,rfl,rfl,rfl,rfl,rfl,nr_Ref _,by simp,rfl,rfl,rfl,rfl,nr_Buf _,by simp,rfl,rfl,rfl,rfl,nr_int _,by simp,rfl,rfl,rfl,rfl,nr_Dead _,by simp,rfl,rfl,rfl,rfl,nr_int _,by simp,rfl,rfl,rfl,rfl,nr_Task _,by simp,rfl,rfl,rfl,rfl,nr_Deed _,by simp,trivial⟩ rfl (.inl rfl) fun cl' rs hM=>?_
 obtain ⟨R0,R1,R2,R3,R4,R5,R6,R7,m,rfl,rfl,g1,g2,_⟩:=hM
 refine ⟨⟨rfl,⟨rfl,rfl⟩,rfl,rfl,rfl,rfl,rfl,rfl,⟨rfl,rfl⟩,⟨rfl,rfl⟩,⟨rfl,rfl⟩,⟨rfl,rfl⟩,⟨rfl,rfl⟩,⟨rfl,rfl⟩,⟨rfl,rfl⟩,trivial⟩, ?_⟩
 simp only [go_sem]
 have hm0 : decide (m < 0) = false:=by simp; omega
 have hn0 : decide (ckL ckRow 1 (tableAt w ts) < 0) = false:=by simp; omega
 simp only [go_sem,hm0]
 refine BorK.mk (args:=[.c (.sl ((tableAt w ts).map DRow.c)),.c (.sl ((tableAt w ts).map DRow.c))]) _ (by simp only [erE_Buf,erE_Deed,erE_Task,erE_Row,er_Dead,er_Ref,er_int,er_Val,go_sem]) rfl (eqRowS_spec _) fun _=>?_
 simp only [go_sem,hm0]
 refine MutK.mk false (zs:=[.ref 11]) (cl:=[.ow 121 2 ((tableAt w ts).map DRow.o)]) (markRowS_ex (tableAt w ts) 1 (by omega) hkl hkx hck) rfl ⟨rfl,rfl,rfl,rfl,nr_Row _,by simp,trivial⟩ rfl (.inr rfl) fun cl' rs hM=>?_
 obtain ⟨rfl,rfl⟩:=hM
 refine ⟨⟨rfl,⟨rfl,rfl⟩,trivial⟩, ?_⟩
 simp only [go_sem]
 refine BorK.mk (args:=[.c (.sl ((mkL mkRow ckRow 1 (tableAt w ts)).map DRow.c)),.c (.v (.int .i64 1))]) _ (by simp only [erE_Buf,erE_Deed,erE_Task,erE_Row,er_Dead,er_Ref,er_int,er_Val,go_sem]) rfl (heldRowS_spec (tableAt w ts) 1 (by omega) hkl hkx hck) fun _=>?_
 simp only [go_sem,hn0,bne_self_eq_false]
 refine CallK.mk _ (by simpa only [go_sem] using toWorld_spec w hf) fun _=>?_
 simp only [go_sem]
 refine CallK.mk _ (by simpa only [go_sem] using iTableAt_spec w ts hf) fun _=>?_
 simp only [go_sem]
 refine BorK.mk (args:=[.c (.sl ((tableAt w ts).map DRow.c)),.c (.sl ((tableAt w ts).map DRow.c))]) _ (by simp only [erE_Buf,erE_Deed,erE_Task,erE_Row,er_Dead,er_Ref,er_int,er_Val,go_sem]) rfl (eqRowS_spec _) fun _=>?_
 simp only [go_sem]
 refine BorK.mk (args:=[.c (.sl ((mkL mkRow ckRow 1 (tableAt w ts)).map DRow.c)),.c (.v (.int .i64 1))]) _ (by simp only [erE_Buf,erE_Deed,erE_Task,erE_Row,er_Dead,er_Ref,er_int,er_Val,go_sem]) rfl (heldRowS_spec (tableAt w ts) 1 (by omega) hkl hkx hck) fun _=>?_
 simp only [go_sem,hn0,bne_self_eq_false]
end Go.Proofs.YthoeeoddgkjkkaaGreat
