/- A part. -/
import Derived.Test.YtnchiiikacemmaaGreatEx
import Derived.Test.YtnchiiikacemmaaGreatEu
import Derived.Test.YtnchiiikacemmaaGreatTe
set_option linter.unusedSimpArgs false
set_option linter.unusedVariables false
set_option maxHeartbeats 4000000
set_option maxRecDepth 10000
open Go.Proofs.Tryz
namespace Go.Proofs.YtnchiiikacemmaaGreat
open Go.Vm
def RU (k:Int) (x:DConf):Int:=Dw KG (k) x.cols
theorem wX (k:Int) (x:DConf):Dw KG (k) x.cols=RU k x:=rfl
def JR (k:Int) (x:DConf):Int:=RU k x
def X_ (k:Int) (x:DConf):DConf:=⟨Gn lN KG (k) x.cols,x.slots,x.bufs⟩
theorem YA (k:Int) (x:DConf):k≤RU k x:=EM Iq _ _
theorem y_ (k:Int) (x:DConf):k≤JR k x:=by have:=YA k x; unfold JR; omega
theorem zA (x:DConf) (k l:Int) (h0:0≤Bi x l) (hl:l≤1048576):JR k x+64*Bi x l≤k+64*l:=by
 have e0:=Um x l
 have h1:=h0
 rw[e0] at h1
 obtain⟨a0,b0,u0⟩:=AZ h1
 have w0:=(Cb a0 (by omega)).2
 have:RU k x+64*(DC x.cols.length (l))≤k+64*(l):=NW NY _ _ _ a0
 have Iu:Bi x l=DC x.cols.length (l):=(e0).trans (u0)
 rw[Iu]; unfold JR; omega
theorem oD (x:DConf) (k:Int) (hk:0≤k) (hf:La x) (hb:JR k x≤4000000000000000000):MCtr prog 41 true x.o [.c (.v (.int .i64 k))] (fun cl' rs=>cl'=(X_ k x).o∧rs = [.c (.v (.int .i64 (JR k x)))]):=by
 unfold JR at hb
 have hle:=YA k x
 refine MCtr.mk (fn:=f41) call41 func41 rfl mixed ntmps41 results41 (by kernel_rfl) rfl (.inl rfl) fun us hw0 hw=>?_
 simp only[go_sem]
 refine MutX.mk (l:=0) (Jj x.cols (k) (by omega) hf (by show RU k x≤_; omega)) rfl ⟨rfl,rfl,rfl,rfl,Aq _,by simp,trivial⟩ ?_
 simp only[go_sem,wX]
 exact⟨[.ref 0,.v (.int .i64 x.slots),.v (.int .i64 x.bufs)],(X_ k x).o,[.c (.v (.int .i64 (JR k x)))],rfl,.inl rfl,⟨rfl,rfl,rfl,rfl,Aq _,by simp,rfl,rfl,rfl,rfl,trivial⟩,yP _,rfl,rfl,rfl,rfl⟩
theorem Zq (x:DConf) (k:Int) (hk:0≤k) (hf:La x) (hb:JR k x≤4000000000000000000):Ctr prog 48 [.agg (X_ k x).c,.c (.v (.int .i64 k))] [.val (.c (.v (.int .i64 (JR k x))))]:=by
 unfold JR at hb ⊢
 have hle:=YA k x
 refine CM call48 func48 ntmps48 results48 fun hw=>?_
 simp only[go_sem,X_]
 refine CallK.mk _ (IG x.cols (k) (by omega) hf (by show RU k x≤_; omega)) fun _=>?_
 have hg0:=KH (x:=RU k x) (by omega)
 simp only[go_sem,wX,hg0]
def YB (k:Int) (x:DDir):Int:=Dw II (k) x.l
theorem AA1 (k:Int) (x:DDir):Dw II (k) x.l=YB k x:=rfl
def NC (k:Int) (x:DDir):Int:=YB k x
def oG (k:Int) (x:DDir):DDir:=⟨x.ver,Gn mkRef II (k) x.l⟩
theorem jA (k:Int) (x:DDir):k≤YB k x:=EM M_ _ _
theorem AA2 (k:Int) (x:DDir):k≤NC k x:=by have:=jA k x; unfold NC; omega
theorem AA3 (x:DDir) (k l:Int) (h0:0≤Dx x l) (hl:l≤1048576):NC k x+64*Dx x l≤k+64*l:=by
 have e0:=Xk x l
 have h1:=h0
 rw[e0] at h1
 obtain⟨a0,b0,u0⟩:=AZ h1
 have w0:=(Cb a0 (by omega)).2
 have:YB k x+64*(DC x.l.length (l))≤k+64*(l):=NW X0 _ _ _ a0
 have Iu:Dx x l=DC x.l.length (l):=(e0).trans (u0)
 rw[Iu]; unfold NC; omega
theorem t_ (x:DDir) (k:Int) (hk:0≤k) (hf:Oz x) (hb:NC k x≤4000000000000000000):MCtr prog 42 true x.o [.c (.v (.int .i64 k))] (fun cl' rs=>cl'=(oG k x).o∧rs = [.c (.v (.int .i64 (NC k x)))]):=by
 unfold NC at hb
 have hle:=jA k x
 refine MCtr.mk (fn:=f42) call42 func42 rfl mixed ntmps42 results42 (by kernel_rfl) rfl (.inl rfl) fun us hw0 hw=>?_
 simp only[go_sem]
 refine MutX.mk (l:=0) (Vf x.l (k) (by omega) hf (by show YB k x≤_; omega)) rfl ⟨rfl,rfl,rfl,rfl,Et _,by simp,trivial⟩ ?_
 simp only[go_sem,AA1]
 exact⟨[.v (.int .i64 x.ver),.ref 0],(oG k x).o,[.c (.v (.int .i64 (NC k x)))],rfl,.inl rfl,⟨rfl,rfl,rfl,rfl,rfl,rfl,Et _,by simp,trivial⟩,AAj _,rfl,rfl,rfl,rfl⟩
theorem jB (x:DDir) (k:Int) (hk:0≤k) (hf:Oz x) (hb:NC k x≤4000000000000000000):Ctr prog 49 [.agg (oG k x).c,.c (.v (.int .i64 k))] [.val (.c (.v (.int .i64 (NC k x))))]:=by
 unfold NC at hb ⊢
 have hle:=jA k x
 refine CM call49 func49 ntmps49 results49 fun hw=>?_
 simp only[go_sem,oG]
 refine CallK.mk _ (Qp x.l (k) (by omega) hf (by show YB k x≤_; omega)) fun _=>?_
 have hg0:=KH (x:=YB k x) (by omega)
 simp only[go_sem,AA1,hg0]
def GI (k:Int) (x:DWorld):Int:=JR (k) x.c0
theorem ER (k:Int) (x:DWorld):JR (k) x.c0=GI k x:=rfl
def GK (k:Int) (x:DWorld):Int:=NC (GI k x) x.d
theorem E_ (k:Int) (x:DWorld):NC (GI k x) x.d=GK k x:=rfl
def GL (k:Int) (x:DWorld):Int:=Dw JH (GK k x) x.b
theorem Gi (k:Int) (x:DWorld):Dw JH (GK k x) x.b=GL k x:=rfl
def GM (k:Int) (x:DWorld):Int:=Dw KG (GL k x) x.m
theorem IJ (k:Int) (x:DWorld):Dw KG (GL k x) x.m=GM k x:=rfl
def GN (k:Int) (x:DWorld):Int:=Dw H8 (GM k x) x.x
theorem Jo (k:Int) (x:DWorld):Dw H8 (GM k x) x.x=GN k x:=rfl
def GR (k:Int) (x:DWorld):Int:=Dw KG (GN k x) x.p
theorem ND (k:Int) (x:DWorld):Dw KG (GN k x) x.p=GR k x:=rfl
def GU (k:Int) (x:DWorld):Int:=Dw Gu (GR k x) x.tasks
theorem TG (k:Int) (x:DWorld):Dw Gu (GR k x) x.tasks=GU k x:=rfl
def KO (k:Int) (x:DWorld):Int:=Dw Gv (GU k x) x.deeds
theorem oH (k:Int) (x:DWorld):Dw Gv (GU k x) x.deeds=KO k x:=rfl
def GV (k:Int) (x:DWorld):Int:=KO k x
def QK (k:Int) (x:DWorld):DWorld:=⟨X_ (k) x.c0,x.time,x.t,x.e,oG (GI k x) x.d,Gn O4 JH (GK k x) x.b,Gn lN KG (GL k x) x.m,Gn Nl H8 (GM k x) x.x,Gn lN KG (GN k x) x.p,Gn JM Gu (GR k x) x.tasks,Gn JO Gv (GU k x) x.deeds⟩
theorem Uy (k:Int) (x:DWorld):k≤GI k x∧GI k x≤GK k x∧GK k x≤GL k x∧GL k x≤GM k x∧GM k x≤GN k x∧GN k x≤GR k x∧GR k x≤GU k x∧GU k x≤KO k x:=⟨y_ _ _,AA2 _ _,EM O6 _ _,EM Iq _ _,EM Me _ _,EM Iq _ _,EM MX _ _,EM MZ _ _⟩
theorem YC (k:Int) (x:DWorld):k≤GV k x:=by have:=Uy k x; unfold GV; omega
theorem uA (x:DWorld) (k l:Int) (h0:0≤KI x l) (hl:l≤1048576):GV k x+64*KI x l≤k+64*l:=by
 have e0:=Na x l
 have h1:=h0
 rw[e0] at h1
 obtain⟨a0,b0,u0⟩:=AZ h1
 have w0:=(RJ x.c0 _ a0 (by omega)).2
 have:GI k x+64*(Bi x.c0 (l))≤k+64*(l):=zA _ _ _ a0 (by omega)
 obtain⟨a1,b1,u1⟩:=AZ b0
 have w1:=(Uo x.d _ a1 (by omega)).2
 have:GK k x+64*(Dx x.d (Bi x.c0 (l)))≤GI k x+64*(Bi x.c0 (l)):=AA3 _ _ _ a1 (by omega)
 obtain⟨a2,b2,u2⟩:=AZ b1
 have w2:=(DF x.b (fun x _=>MW x) a2 (by omega)).2
 have:GL k x+64*(BN DU x.b (Dx x.d (Bi x.c0 (l))))≤GK k x+64*(Dx x.d (Bi x.c0 (l))):=IQ _ (fun y _ k l a b=>⟨l9 y k l a b,(MW y l a b).2⟩) _ a2 (by omega)
 obtain⟨a3,b3,u3⟩:=AZ b2
 have w3:=(Cb a3 (by omega)).2
 have:GM k x+64*(DC x.m.length (BN DU x.b (Dx x.d (Bi x.c0 (l)))))≤GL k x+64*(BN DU x.b (Dx x.d (Bi x.c0 (l)))):=NW NY _ _ _ a3
 obtain⟨a4,b4,u4⟩:=AZ b3
 have w4:=(Cb a4 (by omega)).2
 have:GN k x+64*(DC x.x.length (DC x.m.length (BN DU x.b (Dx x.d (Bi x.c0 (l))))))≤GM k x+64*(DC x.m.length (BN DU x.b (Dx x.d (Bi x.c0 (l))))):=NW dS _ _ _ a4
 obtain⟨a5,b5,u5⟩:=AZ b4
 have w5:=(Cb a5 (by omega)).2
 have:GR k x+64*(DC x.p.length (DC x.x.length (DC x.m.length (BN DU x.b (Dx x.d (Bi x.c0 (l)))))))≤GN k x+64*(DC x.x.length (DC x.m.length (BN DU x.b (Dx x.d (Bi x.c0 (l)))))):=NW NY _ _ _ a5
 obtain⟨a6,b6,u6⟩:=AZ b5
 have w6:=(DF x.tasks (fun x _=>Ku x) a6 (by omega)).2
 have:GU k x+64*(BN ED x.tasks (DC x.p.length (DC x.x.length (DC x.m.length (BN DU x.b (Dx x.d (Bi x.c0 (l))))))))≤GR k x+64*(DC x.p.length (DC x.x.length (DC x.m.length (BN DU x.b (Dx x.d (Bi x.c0 (l))))))):=IQ _ (fun y _ k l a b=>⟨dN y k l a b,(Ku y l a b).2⟩) _ a6 (by omega)
 obtain⟨a7,b7,u7⟩:=AZ b6
 have w7:=(DF x.deeds (fun x _=>Nb x) a7 (by omega)).2
 have:KO k x+64*(BN Es x.deeds (BN ED x.tasks (DC x.p.length (DC x.x.length (DC x.m.length (BN DU x.b (Dx x.d (Bi x.c0 (l)))))))))≤GU k x+64*(BN ED x.tasks (DC x.p.length (DC x.x.length (DC x.m.length (BN DU x.b (Dx x.d (Bi x.c0 (l)))))))):=IQ _ (fun y _ k l a b=>⟨dO y k l a b,(Nb y l a b).2⟩) _ a7 (by omega)
 have Iu:KI x l=BN Es x.deeds (BN ED x.tasks (DC x.p.length (DC x.x.length (DC x.m.length (BN DU x.b (Dx x.d (Bi x.c0 (l)))))))):=(e0).trans ((u0).trans ((u1).trans ((u2).trans ((u3).trans ((u4).trans ((u5).trans ((u6).trans (u7))))))))
 rw[Iu]; unfold GV; omega
theorem TI (x:DWorld) (k:Int) (hk:0≤k) (hf:AU x) (hb:GV k x≤4000000000000000000):MCtr prog 12 true x.o [.c (.v (.int .i64 k))] (fun cl' rs=>cl'=(QK k x).o∧rs = [.c (.v (.int .i64 (GV k x)))]):=by
 unfold GV at hb
 have hle:=Uy k x
 refine MCtr.mk (fn:=f12) call12 func12 rfl mixed ntmps12 results12 (by kernel_rfl) rfl (.inl rfl) fun us hw0 hw=>?_
 simp only[go_sem]
 refine MutK.mk true (zs:=[.ref 0,.v (.int .i64 x.c0.slots),.v (.int .i64 x.c0.bufs)]) (cl:=[.ow 3 1 (x.c0.cols.map intC),.v (.int .i64 x.c0.slots),.v (.int .i64 x.c0.bufs)]) (by simpa only[go_sem] using oD x.c0 (k) (by omega) hf.1 (by show GI k x≤_; omega)) rfl ⟨rfl,rfl,rfl,rfl,Aq _,by simp,rfl,rfl,rfl,rfl,trivial⟩ rfl (.inl rfl) fun cl' rs hM=>?_
 obtain⟨rfl,rfl⟩:=hM
 refine⟨⟨rfl,⟨rfl,rfl⟩,rfl,rfl,trivial⟩, ?_⟩
 simp only[go_sem,ER]
 refine MutK.mk true (zs:=[.v (.int .i64 x.d.ver),.ref 1]) (cl:=[.v (.int .i64 x.d.ver),.ow 165 5 (x.d.l.map DRef.c)]) (by simpa only[go_sem] using t_ x.d (GI k x) (by omega) hf.2.1 (by show GK k x≤_; omega)) rfl ⟨rfl,rfl,rfl,rfl,rfl,rfl,Et _,by simp,trivial⟩ rfl (.inl rfl) fun cl' rs hM=>?_
 obtain⟨rfl,rfl⟩:=hM
 refine⟨⟨rfl,rfl,⟨rfl,rfl⟩,trivial⟩, ?_⟩
 simp only[go_sem,ER,E_]
 refine MutX.mk (l:=2) (l_ x.b (GK k x) (by omega) hf.2.2.1 (by show GL k x≤_; omega)) rfl ⟨rfl,rfl,rfl,rfl,CE _,by simp,trivial⟩ ?_
 simp only[go_sem,ER,E_,Gi]
 refine MutX.mk (l:=3) (Jj x.m (GL k x) (by omega) hf.2.2.2.1 (by show GM k x≤_; omega)) rfl ⟨rfl,rfl,rfl,rfl,Aq _,by simp,trivial⟩ ?_
 simp only[go_sem,ER,E_,Gi,IJ]
 refine MutX.mk (l:=4) (h_ x.x (GM k x) (by omega) hf.2.2.2.2.1 (by show GN k x≤_; omega)) rfl ⟨rfl,rfl,rfl,rfl,G6 _,by simp,trivial⟩ ?_
 simp only[go_sem,ER,E_,Gi,IJ,Jo]
 refine MutX.mk (l:=5) (Jj x.p (GN k x) (by omega) hf.2.2.2.2.2.1 (by show GR k x≤_; omega)) rfl ⟨rfl,rfl,rfl,rfl,Aq _,by simp,trivial⟩ ?_
 simp only[go_sem,ER,E_,Gi,IJ,Jo,ND]
 refine MutX.mk (l:=6) (gZ x.tasks (GR k x) (by omega) hf.2.2.2.2.2.2.1 (by show GU k x≤_; omega)) rfl ⟨rfl,rfl,rfl,rfl,GH _,by simp,trivial⟩ ?_
 simp only[go_sem,ER,E_,Gi,IJ,Jo,ND,TG]
 refine MutX.mk (l:=7) (gp x.deeds (GU k x) (by omega) hf.2.2.2.2.2.2.2 (by show KO k x≤_; omega)) rfl ⟨rfl,rfl,rfl,rfl,Jb _,by simp,trivial⟩ ?_
 simp only[go_sem,ER,E_,Gi,IJ,Jo,ND,TG,oH]
 exact⟨[.ref 0,.v (.int .i64 x.c0.slots),.v (.int .i64 x.c0.bufs),.v (.int .i64 x.time),.v (.int .i64 x.t),.v (.int .i64 x.e),.v (.int .i64 x.d.ver),.ref 1,.ref 2,.ref 3,.ref 4,.ref 5,.ref 6,.ref 7],(QK k x).o,[.c (.v (.int .i64 (GV k x)))],rfl,.inl rfl,⟨rfl,rfl,rfl,rfl,Aq _,by simp,rfl,rfl,rfl,rfl,rfl,rfl,rfl,rfl,rfl,rfl,rfl,rfl,rfl,rfl,rfl,rfl,Et _,by simp,rfl,rfl,rfl,rfl,CE _,by simp,rfl,rfl,rfl,rfl,Aq _,by simp,rfl,rfl,rfl,rfl,G6 _,by simp,rfl,rfl,rfl,rfl,Aq _,by simp,rfl,rfl,rfl,rfl,GH _,by simp,rfl,rfl,rfl,rfl,Jb _,by simp,trivial⟩,Xq _,rfl,rfl,rfl,rfl⟩
theorem O_ (x:DWorld) (k:Int) (hk:0≤k) (hf:AU x) (hb:GV k x≤4000000000000000000):Ctr prog 13 [.agg (QK k x).c,.c (.v (.int .i64 k))] [.val (.c (.v (.int .i64 (GV k x))))]:=by
 unfold GV at hb ⊢
 have hle:=Uy k x
 refine CM call13 func13 ntmps13 results13 fun hw=>?_
 simp only[go_sem,QK]
 refine CallK.mk _ (by simpa only[go_sem] using Zq x.c0 (k) (by omega) hf.1 (by show GI k x≤_; omega)) fun _=>?_
 have hg0:=KH (x:=GI k x) (by omega)
 simp only[go_sem,ER,hg0]
 refine CallK.mk _ (by simpa only[go_sem] using jB x.d (GI k x) (by omega) hf.2.1 (by show GK k x≤_; omega)) fun _=>?_
 have hg1:=KH (x:=GK k x) (by omega)
 simp only[go_sem,ER,E_,hg0,hg1]
 refine CallK.mk _ (Zk x.b (GK k x) (by omega) hf.2.2.1 (by show GL k x≤_; omega)) fun _=>?_
 have hg2:=KH (x:=GL k x) (by omega)
 simp only[go_sem,ER,E_,Gi,hg0,hg1,hg2]
 refine CallK.mk _ (IG x.m (GL k x) (by omega) hf.2.2.2.1 (by show GM k x≤_; omega)) fun _=>?_
 have hg3:=KH (x:=GM k x) (by omega)
 simp only[go_sem,ER,E_,Gi,IJ,hg0,hg1,hg2,hg3]
 refine CallK.mk _ (Xz x.x (GM k x) (by omega) hf.2.2.2.2.1 (by show GN k x≤_; omega)) fun _=>?_
 have hg4:=KH (x:=GN k x) (by omega)
 simp only[go_sem,ER,E_,Gi,IJ,Jo,hg0,hg1,hg2,hg3,hg4]
 refine CallK.mk _ (IG x.p (GN k x) (by omega) hf.2.2.2.2.2.1 (by show GR k x≤_; omega)) fun _=>?_
 have hg5:=KH (x:=GR k x) (by omega)
 simp only[go_sem,ER,E_,Gi,IJ,Jo,ND,hg0,hg1,hg2,hg3,hg4,hg5]
 refine CallK.mk _ (Xl x.tasks (GR k x) (by omega) hf.2.2.2.2.2.2.1 (by show GU k x≤_; omega)) fun _=>?_
 have hg6:=KH (x:=GU k x) (by omega)
 simp only[go_sem,ER,E_,Gi,IJ,Jo,ND,TG,hg0,hg1,hg2,hg3,hg4,hg5,hg6]
 refine CallK.mk _ (Xm x.deeds (GU k x) (by omega) hf.2.2.2.2.2.2.2 (by show KO k x≤_; omega)) fun _=>?_
 have hg7:=KH (x:=KO k x) (by omega)
 simp only[go_sem,ER,E_,Gi,IJ,Jo,ND,TG,oH,hg0,hg1,hg2,hg3,hg4,hg5,hg6,hg7]
theorem dV {l:List DBuf} {i:Int} {x:DBuf} (h:x∈Jn l i):x∈l∨∃ g,x=gone g:=by
 unfold Jn at h
 split at h
 ·split at h
  ·rcases aaF h with h | h
   ·exact .inl h
   ·exact .inr ⟨_,h⟩
  ·exact .inl h
 ·exact .inl h
theorem zB (l:List DBuf) (i:Int):(Jn l i).length=l.length:=by
 unfold Jn
 split
 ·split<;>simp
 ·rfl
theorem AA4 (g:Int):F6 (gone g):=⟨⟨by simp[gone],by simp[gone]⟩,by simp[gone]⟩
theorem jC (l:List DDead) (i:Int):(EH l i).length≤l.length:=by
 unfold EH
 split
 ·exact List.length_eraseIdx_le _ _
 ·exact aK _
theorem YD (w:DWorld) (hf:AU w):AU (BC w):=by
 unfold BC
 split
 ·unfold Gw
  rw[BH] at hf
  obtain⟨f1,f2,f3,f4,f5,f6,f7,f8⟩:=hf
  split
  ·exact⟨f1,f2,⟨by rw[zB]; exact f3.1,fun x hx=>by
    rcases dV hx with h | ⟨g,rfl⟩
    ·exact f3.2 x h
    ·exact AA4 g⟩,f4,Nat.le_trans (jC _ _) f5,f6,f7,f8⟩
  ·exact⟨f1,f2,f3,f4,f5,f6,f7,f8⟩
 ·exact hf
theorem wY {α:Type} {f:α→Int→Int}:∀ (xs:List α) (_:∀ x∈xs,∀ l,0≤f x l→l≤1048576→f x l≤l) (l:Int),0≤MV f xs l→l≤1048576→∀ x∈xs,∃ l',l'≤1048576∧0≤f x l'
 | [],_,_,_,_,_,h=>by simp at h
 | y::ys,hf,l,h0,hl,x,hx=>by
  simp only[MV] at h0
  obtain⟨h1,h2,h3⟩:=AZ h0
  rcases bW.1 hx with rfl | hx
  ·exact⟨l,hl,h1⟩
  ·exact wY ys (fun z hz=>hf z (by simp[hz])) _ h2 (by have:=hf y (by simp) l h1 hl; omega) x hx
theorem AA5 (xs:List DBuf) {l:Int} (h0:0≤BN DU xs l) (hl:l≤1048576):∀ x∈xs,∀ k,JH k x≤k+67108928:=fun x hx k=>by
 unfold BN at h0
 obtain⟨h1,h2,_⟩:=AZ h0
 have h3:=(Cb h1 hl).2
 obtain⟨l',g1,g2⟩:=wY xs (fun x _ l a b=>(MW x l a b).2) _ h2 (by omega) x hx
 have:=l9 x k l' g2 g1
 omega
theorem RV (w:DWorld) (hf:AU w) (hb:∀ x∈w.b,∀ k,JH k x≤k+67108928) (ht:∀ k,Dw Gu k w.tasks≤k+67108864) (hd:∀ k,Dw Gv k w.deeds≤k+67108864):GV 1 w≤4000000000000000000:=by
 rw[BH,F8,Ht] at hf
 obtain⟨f1,f2,f3,f4,f5,f6,f7,f8⟩:=hf
 have f3:=f3.1
 have g1:GI 1 w≤1+w.c0.cols.length*64:=Ic (c:=KG) 64 (by omega) w.c0.cols (fun x _ k=>NY k x) 1
 have g2:GK 1 w≤GI 1 w+w.d.l.length*64:=Ic (c:=II) 64 (by omega) w.d.l (fun x _ k=>X0 k x) _
 have g3:GL 1 w≤GK 1 w+w.b.length*67108928:=Ic (c:=JH) 67108928 (by omega) w.b hb _
 have g4:GM 1 w≤GL 1 w+w.m.length*64:=Ic (c:=KG) 64 (by omega) w.m (fun x _ k=>NY k x) _
 have g5:GN 1 w≤GM 1 w+w.x.length*64:=Ic (c:=H8) 64 (by omega) w.x (fun x _ k=>dS k x) _
 have g6:GR 1 w≤GN 1 w+w.p.length*64:=Ic (c:=KG) 64 (by omega) w.p (fun x _ k=>NY k x) _
 have g7:GU 1 w≤GR 1 w+67108864:=ht _
 have g8:KO 1 w≤GU 1 w+67108864:=hd _
 show KO 1 w≤_
 omega
theorem zC (w:DWorld) (h0:0≤KI w 1048576):GV 1 (BC w)≤4000000000000000000:=by
 have hf:=(O0 w 1048576 h0 (by omega)).1
 have hf2:=YD w hf
 rw[Na] at h0
 obtain⟨a0,b0,_⟩:=AZ h0
 have w0:=(RJ w.c0 _ a0 (by omega)).2
 obtain⟨a1,b1,_⟩:=AZ b0
 have w1:=(Uo w.d _ a1 (by omega)).2
 obtain⟨a2,b2,_⟩:=AZ b1
 have w2:=(DF w.b (fun x _=>MW x) a2 (by omega)).2
 obtain⟨a3,b3,_⟩:=AZ b2
 have w3:=(Cb a3 (by omega)).2
 obtain⟨a4,b4,_⟩:=AZ b3
 have w4:=(Cb a4 (by omega)).2
 obtain⟨a5,b5,_⟩:=AZ b4
 have w5:=(Cb a5 (by omega)).2
 obtain⟨a6,b6,_⟩:=AZ b5
 have w6:=(DF w.tasks (fun x _=>Ku x) a6 (by omega)).2
 obtain⟨a7,b7,_⟩:=AZ b6
 have hb:=AA5 w.b a2 (by omega)
 have ht:∀ k,Dw Gu k w.tasks≤k+67108864:=fun k=>by
  have:=IQ (c:=Gu) w.tasks (fun y _ k l a b=>⟨dN y k l a b,(Ku y l a b).2⟩) k a6 (by omega)
  omega
 have hd:∀ k,Dw Gv k w.deeds≤k+67108864:=fun k=>by
  have:=IQ (c:=Gv) w.deeds (fun y _ k l a b=>⟨dO y k l a b,(Nb y l a b).2⟩) k a7 (by omega)
  omega
 unfold BC at hf2 ⊢
 split
 ·rename_i h
  rw[aX h] at hf2
  unfold Gw at hf2 ⊢
  split
  ·rename_i h
   rw[aX h] at hf2
   refine RV _ hf2 (fun x hx k=>?_) ht hd
   rcases dV hx with h | ⟨g,rfl⟩
   ·exact hb x h k
   ·simp only[O5,Qo,KC,gone,Dw]; omega
  ·rename_i h
   rw[aV h] at hf2
   exact RV _ hf2 hb ht hd
 ·rename_i h
  exact RV _ hf hb ht hd
theorem Zr (w:DWorld):Ctr prog 4 [.agg w.c] [.val (.c (.v (.bool (true))))]:=by
 refine CM call4 func4 ntmps4 results4 fun hw=>?_
 simp only[go_sem]
 refine CW (S_ w 1048576 (by omega)) fun _=>?_
 simp only[go_sem]
 refine cndC.mk (fun h=>?_) (fun h=>?_)
 ·simp only[go_sem]
 have h00:0≤KI w 1048576:=by simp at h; omega
 obtain⟨hf,hle⟩:=O0 w 1048576 h00 (by omega)
 have hf2:=YD w hf
 have hb1:=uA w 1 1048576 h00 (by omega)
 have hb2:=zC w h00
 have hl1:=YC 1 w
 have hl2:=YC 1 (BC w)
 have hn1:decide (GV 1 w<0)=false:=by simp; omega
 have hn2:decide (GV 1 (BC w)<0)=false:=by simp; omega
 have e0:∀ b:Bool,(!(b==b))=false:=fun b=>by cases b<;>rfl
 simp only[go_sem]
 refine CW (F_ w hf) fun _=>?_
 simp only[go_sem]
 refine CW (Vz w hf) fun _=>?_
 simp only[go_sem]
 refine CW (tY w hf) fun _=>?_
 simp only[go_sem]
 refine BorK.mk (args:=[.agg w.c]) [.agg (BC w).o,.val (.c (.v (.bool (H9 w))))] (by simp only[KN,Jm,Jl,Lr,Np,MJ]; rfl) (by simp only[bK,Qk,Xq,Oo,aU]) (O9 w hf) fun _=>?_
 simp only[go_sem]
 refine BorK.mk (args:=[.agg (BC w).c,.agg (BC w).c]) _ (by simp only[KN,Jm,Jl,Lr,Np,MJ,go_sem]) rfl (Hw _) fun _=>?_
 simp only[go_sem,e0]
 refine DrawK.mk ?_
 simp only[go_sem]
 refine CY (F_ w hf) ?_
 simp only[go_sem]
 refine BorF.mk (args:=[.agg w.c,.agg w.c]) _ (by simp only[KN,Jm,Jl,Lr,Np,MJ,go_sem]) rfl (Hw w) ?_
 simp only[go_sem]
 refine MutK.mk true (zs:=[.ref 2,.v (.int .i64 w.c0.slots),.v (.int .i64 w.c0.bufs),.v (.int .i64 w.time),.v (.int .i64 w.t),.v (.int .i64 w.e),.v (.int .i64 w.d.ver),.ref 3,.ref 4,.ref 5,.ref 6,.ref 7,.ref 8,.ref 9])
  (cl:=[.ow 3 1 (w.c0.cols.map intC),.v (.int .i64 w.c0.slots),.v (.int .i64 w.c0.bufs),.v (.int .i64 w.time),.v (.int .i64 w.t),.v (.int .i64 w.e),.v (.int .i64 w.d.ver),.ow 165 5 (w.d.l.map DRef.c),.ow 112 5 (w.b.map DBuf.o),.ow 3 1 (w.m.map intC),.ow 115 3 (w.x.map DDead.c),.ow 3 1 (w.p.map intC),.ow 127 25 (w.tasks.map DTask.o),.ow 132 25 (w.deeds.map DDeed.o)])
  (TI w 1 (by omega) hf (by omega)) rfl ⟨rfl,rfl,rfl,rfl,Aq _,by simp,rfl,rfl,rfl,rfl,rfl,rfl,rfl,rfl,rfl,rfl,rfl,rfl,rfl,rfl,rfl,rfl,Et _,by simp,rfl,rfl,rfl,rfl,CE _,by simp,rfl,rfl,rfl,rfl,Aq _,by simp,rfl,rfl,rfl,rfl,G6 _,by simp,rfl,rfl,rfl,rfl,Aq _,by simp,rfl,rfl,rfl,rfl,GH _,by simp,rfl,rfl,rfl,rfl,Jb _,by simp,trivial⟩ rfl (.inl rfl) fun cl' rs hM=>?_
 obtain⟨rfl,rfl⟩:=hM
 refine⟨⟨rfl,⟨rfl,rfl⟩,rfl,rfl,rfl,rfl,rfl,rfl,⟨rfl,rfl⟩,⟨rfl,rfl⟩,⟨rfl,rfl⟩,⟨rfl,rfl⟩,⟨rfl,rfl⟩,⟨rfl,rfl⟩,⟨rfl,rfl⟩,trivial⟩, ?_⟩
 simp only[go_sem,hn1]
 refine BorK.mk (args:=[.agg (BC w).c,.agg (BC w).c]) _ (by simp only[KN,Jm,Jl,Lr,Np,MJ,go_sem]) rfl (Hw _) fun _=>?_
 simp only[go_sem,hn1,e0]
 refine MutK.mk true (zs:=[.ref 11,.v (.int .i64 (BC w).c0.slots),.v (.int .i64 (BC w).c0.bufs),.v (.int .i64 (BC w).time),.v (.int .i64 (BC w).t),.v (.int .i64 (BC w).e),.v (.int .i64 (BC w).d.ver),.ref 12,.ref 13,.ref 14,.ref 15,.ref 16,.ref 17,.ref 18])
  (cl:=[.ow 3 1 ((BC w).c0.cols.map intC),.v (.int .i64 (BC w).c0.slots),.v (.int .i64 (BC w).c0.bufs),.v (.int .i64 (BC w).time),.v (.int .i64 (BC w).t),.v (.int .i64 (BC w).e),.v (.int .i64 (BC w).d.ver),.ow 165 5 ((BC w).d.l.map DRef.c),.ow 112 5 ((BC w).b.map DBuf.o),.ow 3 1 ((BC w).m.map intC),.ow 115 3 ((BC w).x.map DDead.c),.ow 3 1 ((BC w).p.map intC),.ow 127 25 ((BC w).tasks.map DTask.o),.ow 132 25 ((BC w).deeds.map DDeed.o)])
  (TI (BC w) 1 (by omega) hf2 (by omega)) rfl ⟨rfl,rfl,rfl,rfl,Aq _,by simp,rfl,rfl,rfl,rfl,rfl,rfl,rfl,rfl,rfl,rfl,rfl,rfl,rfl,rfl,rfl,rfl,Et _,by simp,rfl,rfl,rfl,rfl,CE _,by simp,rfl,rfl,rfl,rfl,Aq _,by simp,rfl,rfl,rfl,rfl,G6 _,by simp,rfl,rfl,rfl,rfl,Aq _,by simp,rfl,rfl,rfl,rfl,GH _,by simp,rfl,rfl,rfl,rfl,Jb _,by simp,trivial⟩ rfl (.inl rfl) fun cl' rs hM=>?_
 obtain⟨rfl,rfl⟩:=hM
 refine⟨⟨rfl,⟨rfl,rfl⟩,rfl,rfl,rfl,rfl,rfl,rfl,⟨rfl,rfl⟩,⟨rfl,rfl⟩,⟨rfl,rfl⟩,⟨rfl,rfl⟩,⟨rfl,rfl⟩,⟨rfl,rfl⟩,⟨rfl,rfl⟩,trivial⟩, ?_⟩
 simp only[go_sem]
 refine BorK.mk (args:=[.agg (QK 1 (BC w)).c,.c (.v (.int .i64 1))]) _ (by simp only[KN,Jm,Jl,Lr,Np,MJ,go_sem]; rfl) rfl (O_ (BC w) 1 (by omega) hf2 (by omega)) fun _=>?_
 simp only[go_sem,hn2,aH]
 refine CW (F_ w hf) fun _=>?_
 simp only[go_sem]
 refine CW (O9 w hf) fun _=>?_
 simp only[go_sem]
 refine BorK.mk (args:=[.agg (BC w).c,.agg (BC w).c]) _ (by simp only[KN,Jm,Jl,Lr,Np,MJ,go_sem]) rfl (Hw _) fun _=>?_
 simp only[go_sem,e0]
 refine BorK.mk (args:=[.agg (QK 1 (BC w)).c,.c (.v (.int .i64 1))]) _ (by simp only[KN,Jm,Jl,Lr,Np,MJ,go_sem]; rfl) rfl (O_ (BC w) 1 (by omega) hf2 (by omega)) fun _=>?_
 simp only[go_sem,hn2,aH]
end Go.Proofs.YtnchiiikacemmaaGreat
