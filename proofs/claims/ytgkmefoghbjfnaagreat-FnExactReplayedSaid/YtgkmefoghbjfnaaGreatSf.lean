/- A part. -/
import Derived.Test.YtgkmefoghbjfnaaGreatEy
import Derived.Test.YtgkmefoghbjfnaaGreatSd
set_option linter.unusedSimpArgs false
set_option linter.unusedVariables false
set_option maxHeartbeats 4000000
set_option maxRecDepth 10000
open Go.Proofs.Tryz
namespace Go.Proofs.YtgkmefoghbjfnaaGreat
open Go.Vm
theorem jE (k:Int) (x:DVal):DI k x≤k+64:=by unfold DI; omega
theorem jF (k:Int) (x:DRow) (h:Ah x):D9 k x≤k+67108929:=by
 have h1:=h.1
 have:=Iu (c:=DI) 64 (by omega) x.l (fun x _ k=>jE k x) (k+1)
 show C_ DI (k+1) x.l≤_
 omega
theorem Ye (x:DTable) (h:Bf x):FU 1 x≤4000000000000000000:=by
 rw[BL] at h
 obtain⟨h1,h2,h3⟩:=h
 have g1:Ei 1 x≤1+x.cols.length*64:=Iu (c:=Ip) 64 (by omega) x.cols (fun x _ k=>MB k x) 1
 have g2:IR 1 x≤Ei 1 x+x.l.length*67108929:=Iu (c:=D9) 67108929 (by omega) x.l (fun x hx k=>jF k x (h3 x hx)) _
 show IR 1 x≤_
 omega
theorem O4 (w:DWorld):Ctr prog 3 [.agg w.c] [.val (.c (.v (.bool (true))))]:=by
 refine CM call3 func3 ntmps3 results3 fun hw=>?_
 simp only[go_sem]
 refine CW (Ug w 1048576 (by omega)) fun _=>?_
 simp only[go_sem]
 refine cndC.mk (fun h=>?_) (fun h=>?_)
 ·simp only[go_sem]
 have h00:0≤IM w 1048576:=by simp at h; omega
 obtain⟨hf,hle⟩:=V3 w 1048576 h00 (by omega)
 have hb1:=YE w 1 1048576 h00 (by omega)
 have hl1:=YD 1 w
 have hn1:decide (G7 1 w<0)=false:=by simp; omega
 have hX:Bf (allT (I5 w) (MQ w.deeds)):=by
  have hf2:=hf
  rw[GZ,Ho] at hf2
  have hd:=Ro hf2.2.2.2.2.2.2.2
  exact ZT _ _ (by rw[BL]; exact⟨hf2.1,by simp[I5],by simp[I5]⟩) hd.2 (by have:=hd.1; simp[I5]; omega)
 have hs:=Rf w hf
 have hi:=Rh w hf
 generalize allT (I5 w) (MQ w.deeds)=X at *
 generalize MO (I5 w) (MQ w.deeds)=n at *
 have hb2:=Ye X hX
 have hl2:=YF 1 X
 have hn2:decide (FU 1 X<0)=false:=by simp; omega
 simp only[go_sem]
 first | refine CW (FY w hf) fun _=>?_ | refine CZ (FY w hf) ?_
 simp only[go_sem]
 first | refine CW (hs) fun _=>?_ | refine CZ (hs) ?_
 simp only[go_sem]
 refine CW (RU w hf) fun _=>?_
 simp only[go_sem]
 refine BorK.mk (args:=[.agg w.c]) [.agg X.o,.val (.c (.v (.int .i64 (n))))] (by simp only[Ut,FX,RP,Uu,Uw,Gv]; rfl) (by simp only[aS,Mc,MJ,aZ,aH]) hi fun _=>?_
 simp only[go_sem]
 refine BorK.mk (args:=[.agg X.c,.agg X.c]) _ (by simp only[I4,Ej,FX,Gv,Ij,go_sem]) rfl (JO _) fun _=>?_
 simp only[go_sem,ax]
 refine DrawK.mk ?_
 simp only[go_sem]
 refine CY (FY w hf) ?_
 simp only[go_sem]
 refine BorF.mk (args:=[.agg w.c,.agg w.c]) _ (by simp only[Ut,FX,RP,Uu,Uw,Gv,go_sem]) rfl (Un w) ?_
 simp only[go_sem]
 refine MutK.mk true (zs:=[.ref 2,.v (.int .i64 w.c0.slots),.v (.int .i64 w.c0.bufs),.v (.int .i64 w.time),.v (.int .i64 w.t),.v (.int .i64 w.e),.v (.int .i64 w.d.ver),.ref 3,.ref 4,.ref 5,.ref 6,.ref 7,.ref 8,.ref 9])
  (cl:=[.ow 3 1 (w.c0.cols.map intC),.v (.int .i64 w.c0.slots),.v (.int .i64 w.c0.bufs),.v (.int .i64 w.time),.v (.int .i64 w.t),.v (.int .i64 w.e),.v (.int .i64 w.d.ver),.ow 172 5 (w.d.l.map DRef.c),.ow 133 5 (w.b.map DBuf.o),.ow 3 1 (w.m.map intC),.ow 136 3 (w.x.map DDead.c),.ow 3 1 (w.p.map intC),.ow 140 25 (w.tasks.map DTask.o),.ow 84 25 (w.deeds.map DDeed.o)])
  (UY w 1 (by omega) hf (by omega)) rfl ⟨rfl,rfl,rfl,rfl,AU _,by simp,rfl,rfl,rfl,rfl,rfl,rfl,rfl,rfl,rfl,rfl,rfl,rfl,rfl,rfl,rfl,rfl,Ik _,by simp,rfl,rfl,rfl,rfl,RN _,by simp,rfl,rfl,rfl,rfl,AU _,by simp,rfl,rfl,rfl,rfl,QJ _,by simp,rfl,rfl,rfl,rfl,AU _,by simp,rfl,rfl,rfl,rfl,Nl _,by simp,rfl,rfl,rfl,rfl,JP _,by simp,trivial⟩ rfl (.inl rfl) fun cl' rs hM=>?_
 obtain⟨rfl,rfl⟩:=hM
 refine⟨⟨rfl,⟨rfl,rfl⟩,rfl,rfl,rfl,rfl,rfl,rfl,⟨rfl,rfl⟩,⟨rfl,rfl⟩,⟨rfl,rfl⟩,⟨rfl,rfl⟩,⟨rfl,rfl⟩,⟨rfl,rfl⟩,⟨rfl,rfl⟩,trivial⟩, ?_⟩
 simp only[go_sem,hn1]
 refine BorK.mk (args:=[.agg X.c,.agg X.c]) _ (by simp only[I4,Ej,FX,Gv,Ij,go_sem]) rfl (JO _) fun _=>?_
 simp only[go_sem,hn1,ax]
 refine MutK.mk true (zs:=[.ref 11,.ref 12]) (cl:=[.ow 3 1 (X.cols.map intC),.ow 147 2 (X.l.map DRow.o)])
  (UZ X 1 (by omega) hX (by omega)) rfl ⟨rfl,rfl,rfl,rfl,AU _,by simp,rfl,rfl,rfl,rfl,AL _,by simp,trivial⟩ rfl (.inl rfl) fun cl' rs hM=>?_
 obtain⟨rfl,rfl⟩:=hM
 refine⟨⟨rfl,⟨rfl,rfl⟩,⟨rfl,rfl⟩,trivial⟩, ?_⟩
 simp only[go_sem]
 refine BorK.mk (args:=[.agg (Ku 1 X).c,.c (.v (.int .i64 1))]) _ (by simp only[I4,Ej,FX,Gv,Ij,go_sem]) rfl (J3 X 1 (by omega) hX (by omega)) fun _=>?_
 simp only[go_sem,hn2,ax]
 first | refine CW (FY w hf) fun _=>?_ | (refine DrawK.mkE ?_; simp only[go_sem]; refine CZ (FY w hf) ?_)
 simp only[go_sem]
 first | refine CW (hi) fun _=>?_ | refine CZ (hi) ?_
 simp only[go_sem]
 refine BorK.mk (args:=[.agg X.c,.agg X.c]) _ (by simp only[I4,Ej,FX,Gv,Ij,go_sem]) rfl (JO _) fun _=>?_
 simp only[go_sem,ax]
 refine BorK.mk (args:=[.agg (Ku 1 X).c,.c (.v (.int .i64 1))]) _ (by simp only[I4,Ej,FX,Gv,Ij,go_sem]) rfl (J3 X 1 (by omega) hX (by omega)) fun _=>?_
 simp only[go_sem,hn2,ax]
end Go.Proofs.YtgkmefoghbjfnaaGreat
