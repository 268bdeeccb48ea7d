/- A part. -/
import Derived.Test.YtnfbaclikokapaaGreatEx
import Derived.Test.YtnfbaclikokapaaGreatEu
import Derived.Test.YtnfbaclikokapaaGreatFa
set_option linter.unusedSimpArgs false
set_option linter.unusedVariables false
set_option maxHeartbeats 2000000
set_option maxRecDepth 10000
open Go.Proofs.Tryz
namespace Go.Proofs.YtnfbaclikokapaaGreat
open Go.Vm
def Rj (k:Int) (x:DConf):Int:=Dz KO (k) x.cols
theorem ve (k:Int) (x:DConf):Dz KO (k) x.cols=Rj k x:=rfl
def JV (k:Int) (x:DConf):Int:=Rj k x
def Xt (k:Int) (x:DConf):DConf:=⟨Gj lC KO (k) x.cols,x.slots,x.bufs⟩
theorem Xu (k:Int) (x:DConf):k≤Rj k x:=EJ Ik _ _
theorem yE (k:Int) (x:DConf):k≤JV k x:=by have:=Xu k x; unfold JV; omega
theorem yF (x:DConf) (k l:Int) (h0:0≤EK x l) (hl:l≤1048576):JV k x+64*EK x l≤k+64*l:=by
 have e0:=Um x l
 have h1:=h0
 rw[e0] at h1
 obtain⟨a0,b0,u0⟩:=AX h1
 have w0:=(CJ a0 (by omega)).2
 have:Rj k x+64*(Ew x.cols.length (l))≤k+64*(l):=N7 N8 _ _ _ a0
 have Gs:EK x l=Ew x.cols.length (l):=(e0).trans (u0)
 rw[Gs]; unfold JV; omega
theorem mW (x:DConf) (k:Int) (hk:0≤k) (hf:OA x) (hb:JV k x≤4000000000000000000):MCtr prog 54 true x.o [.c (.v (.int .i64 k))] (fun cl' rs=>cl'=(Xt k x).o∧rs = [.c (.v (.int .i64 (JV k x)))]):=by
 unfold JV at hb
 have hle:=Xu k x
 refine MCtr.mk (fn:=f54) call54 func54 rfl mixed ntmps54 results54 (by kernel_rfl) rfl (.inl rfl) fun us hw0 hw=>?_
 simp only[go_sem]
 refine MutX.mk (l:=0) (Jr x.cols (k) (by omega) hf (by show Rj k x≤_; omega)) rfl ⟨rfl,rfl,rfl,rfl,Am _,by simp,trivial⟩ ?_
 simp only[go_sem,ve]
 exact⟨[.ref 0,.v (.int .i64 x.slots),.v (.int .i64 x.bufs)],(Xt k x).o,[.c (.v (.int .i64 (JV k x)))],rfl,.inl rfl,⟨rfl,rfl,rfl,rfl,Am _,by simp,rfl,rfl,rfl,rfl,trivial⟩,xm _,rfl,rfl,rfl,rfl⟩
theorem Zf (x:DConf) (k:Int) (hk:0≤k) (hf:OA x) (hb:JV k x≤4000000000000000000):Ctr prog 61 [.agg (Xt k x).c,.c (.v (.int .i64 k))] [.val (.c (.v (.int .i64 (JV k x))))]:=by
 unfold JV at hb ⊢
 have hle:=Xu k x
 refine CM call61 func61 ntmps61 results61 fun hw=>?_
 simp only[go_sem,Xt]
 refine CallK.mk _ (IC x.cols (k) (by omega) hf (by show Rj k x≤_; omega)) fun _=>?_
 have hg0:=KP (x:=Rj k x) (by omega)
 simp only[go_sem,ve,hg0]
def Xv (k:Int) (x:DDir):Int:=Dz IE (k) x.l
theorem AAa (k:Int) (x:DDir):Dz IE (k) x.l=Xv k x:=rfl
def NY (k:Int) (x:DDir):Int:=Xv k x
def mX (k:Int) (x:DDir):DDir:=⟨x.ver,Gj mkRef IE (k) x.l⟩
theorem iP (k:Int) (x:DDir):k≤Xv k x:=EJ NW _ _
theorem AAb (k:Int) (x:DDir):k≤NY k x:=by have:=iP k x; unfold NY; omega
theorem AAc (x:DDir) (k l:Int) (h0:0≤G6 x l) (hl:l≤1048576):NY k x+64*G6 x l≤k+64*l:=by
 have e0:=XZ x l
 have h1:=h0
 rw[e0] at h1
 obtain⟨a0,b0,u0⟩:=AX h1
 have w0:=(CJ a0 (by omega)).2
 have:Xv k x+64*(Ew x.l.length (l))≤k+64*(l):=N7 Xo _ _ _ a0
 have Gs:G6 x l=Ew x.l.length (l):=(e0).trans (u0)
 rw[Gs]; unfold NY; omega
theorem sF (x:DDir) (k:Int) (hk:0≤k) (hf:RY x) (hb:NY k x≤4000000000000000000):MCtr prog 55 true x.o [.c (.v (.int .i64 k))] (fun cl' rs=>cl'=(mX k x).o∧rs = [.c (.v (.int .i64 (NY k x)))]):=by
 unfold NY at hb
 have hle:=iP k x
 refine MCtr.mk (fn:=f55) call55 func55 rfl mixed ntmps55 results55 (by kernel_rfl) rfl (.inl rfl) fun us hw0 hw=>?_
 simp only[go_sem]
 refine MutX.mk (l:=0) (Vf x.l (k) (by omega) hf (by show Xv k x≤_; omega)) rfl ⟨rfl,rfl,rfl,rfl,ER _,by simp,trivial⟩ ?_
 simp only[go_sem,AAa]
 exact⟨[.v (.int .i64 x.ver),.ref 0],(mX k x).o,[.c (.v (.int .i64 (NY k x)))],rfl,.inl rfl,⟨rfl,rfl,rfl,rfl,rfl,rfl,ER _,by simp,trivial⟩,AAT _,rfl,rfl,rfl,rfl⟩
theorem iQ (x:DDir) (k:Int) (hk:0≤k) (hf:RY x) (hb:NY k x≤4000000000000000000):Ctr prog 62 [.agg (mX k x).c,.c (.v (.int .i64 k))] [.val (.c (.v (.int .i64 (NY k x))))]:=by
 unfold NY at hb ⊢
 have hle:=iP k x
 refine CM call62 func62 ntmps62 results62 fun hw=>?_
 simp only[go_sem,mX]
 refine CallK.mk _ (Q5 x.l (k) (by omega) hf (by show Xv k x≤_; omega)) fun _=>?_
 have hg0:=KP (x:=Xv k x) (by omega)
 simp only[go_sem,AAa,hg0]
def F_ (k:Int) (x:DWorld):Int:=JV (k) x.c0
theorem EO (k:Int) (x:DWorld):JV (k) x.c0=F_ k x:=rfl
def GG (k:Int) (x:DWorld):Int:=NY (F_ k x) x.d
theorem E5 (k:Int) (x:DWorld):NY (F_ k x) x.d=GG k x:=rfl
def GH (k:Int) (x:DWorld):Int:=Dz Ip (GG k x) x.b
theorem Gh (k:Int) (x:DWorld):Dz Ip (GG k x) x.b=GH k x:=rfl
def GI (k:Int) (x:DWorld):Int:=Dz KO (GH k x) x.m
theorem IG (k:Int) (x:DWorld):Dz KO (GH k x) x.m=GI k x:=rfl
def GK (k:Int) (x:DWorld):Int:=Dz H7 (GI k x) x.x
theorem Jt (k:Int) (x:DWorld):Dz H7 (GI k x) x.x=GK k x:=rfl
def GL (k:Int) (x:DWorld):Int:=Dz KO (GK k x) x.p
theorem NZ (k:Int) (x:DWorld):Dz KO (GK k x) x.p=GL k x:=rfl
def GM (k:Int) (x:DWorld):Int:=Dz FQ (GL k x) x.tasks
theorem TM (k:Int) (x:DWorld):Dz FQ (GL k x) x.tasks=GM k x:=rfl
def KW (k:Int) (x:DWorld):Int:=Dz Em (GM k x) x.deeds
theorem mY (k:Int) (x:DWorld):Dz Em (GM k x) x.deeds=KW k x:=rfl
def FX (k:Int) (x:DWorld):Int:=KW k x
def QZ (k:Int) (x:DWorld):DWorld:=⟨Xt (k) x.c0,x.time,x.t,x.e,mX (F_ k x) x.d,Gj PP Ip (GG k x) x.b,Gj lC KO (GH k x) x.m,Gj OE H7 (GI k x) x.x,Gj lC KO (GK k x) x.p,Gj JP FQ (GL k x) x.tasks,Gj JQ Em (GM k x) x.deeds⟩
theorem Ux (k:Int) (x:DWorld):k≤F_ k x∧F_ k x≤GG k x∧GG k x≤GH k x∧GH k x≤GI k x∧GI k x≤GK k x∧GK k x≤GL k x∧GL k x≤GM k x∧GM k x≤KW k x:=⟨yE _ _,AAb _ _,EJ PQ _ _,EJ Ik _ _,EJ NV _ _,EJ Ik _ _,EJ NR _ _,EJ NS _ _⟩
theorem Xw (k:Int) (x:DWorld):k≤FX k x:=by have:=Ux k x; unfold FX; omega
theorem sG (x:DWorld) (k l:Int) (h0:0≤Il x l) (hl:l≤1048576):FX k x+64*Il x l≤k+64*l:=by
 have e0:=N_ x l
 have h1:=h0
 rw[e0] at h1
 obtain⟨a0,b0,u0⟩:=AX h1
 have w0:=(RZ x.c0 _ a0 (by omega)).2
 have:F_ k x+64*(EK x.c0 (l))≤k+64*(l):=yF _ _ _ a0 (by omega)
 obtain⟨a1,b1,u1⟩:=AX b0
 have w1:=(Uo x.d _ a1 (by omega)).2
 have:GG k x+64*(G6 x.d (EK x.c0 (l)))≤F_ k x+64*(EK x.c0 (l)):=AAc _ _ _ a1 (by omega)
 obtain⟨a2,b2,u2⟩:=AX b1
 have w2:=(DI x.b (fun x _=>NQ x) a2 (by omega)).2
 have:GH k x+64*(Ce FU x.b (G6 x.d (EK x.c0 (l))))≤GG k x+64*(G6 x.d (EK x.c0 (l))):=JK _ (fun y _ k l a b=>⟨lY y k l a b,(NQ y l a b).2⟩) _ a2 (by omega)
 obtain⟨a3,b3,u3⟩:=AX b2
 have w3:=(CJ a3 (by omega)).2
 have:GI k x+64*(Ew x.m.length (Ce FU x.b (G6 x.d (EK x.c0 (l)))))≤GH k x+64*(Ce FU x.b (G6 x.d (EK x.c0 (l)))):=N7 N8 _ _ _ a3
 obtain⟨a4,b4,u4⟩:=AX b3
 have w4:=(CJ a4 (by omega)).2
 have:GK k x+64*(Ew x.x.length (Ew x.m.length (Ce FU x.b (G6 x.d (EK x.c0 (l))))))≤GI k x+64*(Ew x.m.length (Ce FU x.b (G6 x.d (EK x.c0 (l))))):=N7 dK _ _ _ a4
 obtain⟨a5,b5,u5⟩:=AX b4
 have w5:=(CJ a5 (by omega)).2
 have:GL k x+64*(Ew x.p.length (Ew x.x.length (Ew x.m.length (Ce FU x.b (G6 x.d (EK x.c0 (l)))))))≤GK k x+64*(Ew x.x.length (Ew x.m.length (Ce FU x.b (G6 x.d (EK x.c0 (l)))))):=N7 N8 _ _ _ a5
 obtain⟨a6,b6,u6⟩:=AX b5
 have w6:=(DI x.tasks (fun x _=>LP x) a6 (by omega)).2
 have:GM k x+64*(Ce Fe x.tasks (Ew x.p.length (Ew x.x.length (Ew x.m.length (Ce FU x.b (G6 x.d (EK x.c0 (l))))))))≤GL k x+64*(Ew x.p.length (Ew x.x.length (Ew x.m.length (Ce FU x.b (G6 x.d (EK x.c0 (l))))))):=JK _ (fun y _ k l a b=>⟨dF y k l a b,(LP y l a b).2⟩) _ a6 (by omega)
 obtain⟨a7,b7,u7⟩:=AX b6
 have w7:=(DI x.deeds (fun x _=>LQ x) a7 (by omega)).2
 have:KW k x+64*(Ce Gq x.deeds (Ce Fe x.tasks (Ew x.p.length (Ew x.x.length (Ew x.m.length (Ce FU x.b (G6 x.d (EK x.c0 (l)))))))))≤GM k x+64*(Ce Fe x.tasks (Ew x.p.length (Ew x.x.length (Ew x.m.length (Ce FU x.b (G6 x.d (EK x.c0 (l)))))))):=JK _ (fun y _ k l a b=>⟨dG y k l a b,(LQ y l a b).2⟩) _ a7 (by omega)
 have Gs:Il x l=Ce Gq x.deeds (Ce Fe x.tasks (Ew x.p.length (Ew x.x.length (Ew x.m.length (Ce FU x.b (G6 x.d (EK x.c0 (l)))))))):=(e0).trans ((u0).trans ((u1).trans ((u2).trans ((u3).trans ((u4).trans ((u5).trans ((u6).trans (u7))))))))
 rw[Gs]; unfold FX; omega
theorem TN (x:DWorld) (k:Int) (hk:0≤k) (hf:Aa x) (hb:FX k x≤4000000000000000000):MCtr prog 11 true x.o [.c (.v (.int .i64 k))] (fun cl' rs=>cl'=(QZ k x).o∧rs = [.c (.v (.int .i64 (FX k x)))]):=by
 unfold FX at hb
 have hle:=Ux k x
 refine MCtr.mk (fn:=f11) call11 func11 rfl mixed ntmps11 results11 (by kernel_rfl) rfl (.inl rfl) fun us hw0 hw=>?_
 simp only[go_sem]
 refine MutK.mk true (zs:=[.ref 0,.v (.int .i64 x.c0.slots),.v (.int .i64 x.c0.bufs)]) (cl:=[.ow 3 1 (x.c0.cols.map intC),.v (.int .i64 x.c0.slots),.v (.int .i64 x.c0.bufs)]) (by simpa only[go_sem] using mW x.c0 (k) (by omega) hf.1 (by show F_ k x≤_; omega)) rfl ⟨rfl,rfl,rfl,rfl,Am _,by simp,rfl,rfl,rfl,rfl,trivial⟩ rfl (.inl rfl) fun cl' rs hM=>?_
 obtain⟨rfl,rfl⟩:=hM
 refine⟨⟨rfl,⟨rfl,rfl⟩,rfl,rfl,trivial⟩, ?_⟩
 simp only[go_sem,EO]
 refine MutK.mk true (zs:=[.v (.int .i64 x.d.ver),.ref 1]) (cl:=[.v (.int .i64 x.d.ver),.ow 196 5 (x.d.l.map DRef.c)]) (by simpa only[go_sem] using sF x.d (F_ k x) (by omega) hf.2.1 (by show GG k x≤_; omega)) rfl ⟨rfl,rfl,rfl,rfl,rfl,rfl,ER _,by simp,trivial⟩ rfl (.inl rfl) fun cl' rs hM=>?_
 obtain⟨rfl,rfl⟩:=hM
 refine⟨⟨rfl,rfl,⟨rfl,rfl⟩,trivial⟩, ?_⟩
 simp only[go_sem,EO,E5]
 refine MutX.mk (l:=2) (lZ x.b (GG k x) (by omega) hf.2.2.1 (by show GH k x≤_; omega)) rfl ⟨rfl,rfl,rfl,rfl,DY _,by simp,trivial⟩ ?_
 simp only[go_sem,EO,E5,Gh]
 refine MutX.mk (l:=3) (Jr x.m (GH k x) (by omega) hf.2.2.2.1 (by show GI k x≤_; omega)) rfl ⟨rfl,rfl,rfl,rfl,Am _,by simp,trivial⟩ ?_
 simp only[go_sem,EO,E5,Gh,IG]
 refine MutX.mk (l:=4) (g_ x.x (GI k x) (by omega) hf.2.2.2.2.1 (by show GK k x≤_; omega)) rfl ⟨rfl,rfl,rfl,rfl,Jh _,by simp,trivial⟩ ?_
 simp only[go_sem,EO,E5,Gh,IG,Jt]
 refine MutX.mk (l:=5) (Jr x.p (GK k x) (by omega) hf.2.2.2.2.2.1 (by show GL k x≤_; omega)) rfl ⟨rfl,rfl,rfl,rfl,Am _,by simp,trivial⟩ ?_
 simp only[go_sem,EO,E5,Gh,IG,Jt,NZ]
 refine MutX.mk (l:=6) (gY x.tasks (GL k x) (by omega) hf.2.2.2.2.2.2.1 (by show GM k x≤_; omega)) rfl ⟨rfl,rfl,rfl,rfl,FZ _,by simp,trivial⟩ ?_
 simp only[go_sem,EO,E5,Gh,IG,Jt,NZ,TM]
 refine MutX.mk (l:=7) (gm x.deeds (GM k x) (by omega) hf.2.2.2.2.2.2.2 (by show KW k x≤_; omega)) rfl ⟨rfl,rfl,rfl,rfl,Iy _,by simp,trivial⟩ ?_
 simp only[go_sem,EO,E5,Gh,IG,Jt,NZ,TM,mY]
 exact⟨[.ref 0,.v (.int .i64 x.c0.slots),.v (.int .i64 x.c0.bufs),.v (.int .i64 x.time),.v (.int .i64 x.t),.v (.int .i64 x.e),.v (.int .i64 x.d.ver),.ref 1,.ref 2,.ref 3,.ref 4,.ref 5,.ref 6,.ref 7],(QZ k x).o,[.c (.v (.int .i64 (FX k x)))],rfl,.inl rfl,⟨rfl,rfl,rfl,rfl,Am _,by simp,rfl,rfl,rfl,rfl,rfl,rfl,rfl,rfl,rfl,rfl,rfl,rfl,rfl,rfl,rfl,rfl,ER _,by simp,rfl,rfl,rfl,rfl,DY _,by simp,rfl,rfl,rfl,rfl,Am _,by simp,rfl,rfl,rfl,rfl,Jh _,by simp,rfl,rfl,rfl,rfl,Am _,by simp,rfl,rfl,rfl,rfl,FZ _,by simp,rfl,rfl,rfl,rfl,Iy _,by simp,trivial⟩,Rf _,rfl,rfl,rfl,rfl⟩
theorem PR (x:DWorld) (k:Int) (hk:0≤k) (hf:Aa x) (hb:FX k x≤4000000000000000000):Ctr prog 12 [.agg (QZ k x).c,.c (.v (.int .i64 k))] [.val (.c (.v (.int .i64 (FX k x))))]:=by
 unfold FX at hb ⊢
 have hle:=Ux k x
 refine CM call12 func12 ntmps12 results12 fun hw=>?_
 simp only[go_sem,QZ]
 refine CallK.mk _ (by simpa only[go_sem] using Zf x.c0 (k) (by omega) hf.1 (by show F_ k x≤_; omega)) fun _=>?_
 have hg0:=KP (x:=F_ k x) (by omega)
 simp only[go_sem,EO,hg0]
 refine CallK.mk _ (by simpa only[go_sem] using iQ x.d (F_ k x) (by omega) hf.2.1 (by show GG k x≤_; omega)) fun _=>?_
 have hg1:=KP (x:=GG k x) (by omega)
 simp only[go_sem,EO,E5,hg0,hg1]
 refine CallK.mk _ (Zc x.b (GG k x) (by omega) hf.2.2.1 (by show GH k x≤_; omega)) fun _=>?_
 have hg2:=KP (x:=GH k x) (by omega)
 simp only[go_sem,EO,E5,Gh,hg0,hg1,hg2]
 refine CallK.mk _ (IC x.m (GH k x) (by omega) hf.2.2.2.1 (by show GI k x≤_; omega)) fun _=>?_
 have hg3:=KP (x:=GI k x) (by omega)
 simp only[go_sem,EO,E5,Gh,IG,hg0,hg1,hg2,hg3]
 refine CallK.mk _ (Xn x.x (GI k x) (by omega) hf.2.2.2.2.1 (by show GK k x≤_; omega)) fun _=>?_
 have hg4:=KP (x:=GK k x) (by omega)
 simp only[go_sem,EO,E5,Gh,IG,Jt,hg0,hg1,hg2,hg3,hg4]
 refine CallK.mk _ (IC x.p (GK k x) (by omega) hf.2.2.2.2.2.1 (by show GL k x≤_; omega)) fun _=>?_
 have hg5:=KP (x:=GL k x) (by omega)
 simp only[go_sem,EO,E5,Gh,IG,Jt,NZ,hg0,hg1,hg2,hg3,hg4,hg5]
 refine CallK.mk _ (Xb x.tasks (GL k x) (by omega) hf.2.2.2.2.2.2.1 (by show GM k x≤_; omega)) fun _=>?_
 have hg6:=KP (x:=GM k x) (by omega)
 simp only[go_sem,EO,E5,Gh,IG,Jt,NZ,TM,hg0,hg1,hg2,hg3,hg4,hg5,hg6]
 refine CallK.mk _ (Xc x.deeds (GM k x) (by omega) hf.2.2.2.2.2.2.2 (by show KW k x≤_; omega)) fun _=>?_
 have hg7:=KP (x:=KW k x) (by omega)
 simp only[go_sem,EO,E5,Gh,IG,Jt,NZ,TM,mY,hg0,hg1,hg2,hg3,hg4,hg5,hg6,hg7]
def Ac (x a b:Int):Bool:=decide (a≤x)&&decide (x≤b)
theorem AL (x a b:Int):Ctr prog 89 [.c (.v (.int .i64 x)),.c (.v (.int .i64 a)),.c (.v (.int .i64 b))] [.val (.c (.v (.bool (Ac x a b))))]:=by
 refine CM call89 func89 ntmps89 results89 fun _=>?_
 simp only[go_sem]
 refine gO.mk (fun h=>?_) (fun h=>?_)<;>simp only[go_sem,h]<;>simp at h<;>simp[Ac]<;>omega
theorem AC (x a b:Int):Ctr prog 106 [.c (.v (.int .i64 x)),.c (.v (.int .i64 a)),.c (.v (.int .i64 b))] [.val (.c (.v (.bool (Ac x a b))))]:=by
 refine CM call106 func106 ntmps106 results106 fun _=>?_
 simp only[go_sem]
 refine gO.mk (fun h=>?_) (fun h=>?_)<;>simp only[go_sem,h]<;>simp at h<;>simp[Ac]<;>omega
def DX (n:Int):Bool:=Ac n (-1000000000) 1000000000
theorem Iu (x:Int):Ctr prog 235 [.c (.v (.int .i64 x))] [.val (.c (.v (.bool (DX x))))]:=by
 refine CM call235 func235 ntmps235 results235 fun _=>?_
 simp only[go_sem]
 refine CallK.mk _ (AL _ _ _) fun _=>?_
 simp only[go_sem,DX]
theorem LX (x:Int):Ctr prog 236 [.c (.v (.int .i64 x))] [.val (.c (.v (.bool (DX x))))]:=by
 refine CM call236 func236 ntmps236 results236 fun _=>?_
 simp only[go_sem]
 refine CallK.mk _ (AC _ _ _) fun _=>?_
 simp only[go_sem,DX]
def WX (c:UInt8):Bool:=Ac c.toNat 97 122||Ac c.toNat 48 57
def TP (s:ByteArray):Bool:=decide (∀ i (h:i<s.size),WX s[i]=true)
def BD (d:DVal):Bool:=if d.ty=1 then DX d.n&&(d.s.toList==({ data:=#[] }:ByteArray).toList) else(d.ty==2)&&(d.n==0)&&decide (d.s.size≤6)&&TP d.s
theorem G_ (d:DVal):Ctr prog 203 [.agg d.c] [.val (.c (.v (.bool (BD d))))]:=by
 refine CM call203 func203 ntmps203 results203 fun hw=>?_
 have hs:d.s.size≤9223372036854775807:=uD hw.1.2.2.1
 simp only[go_sem]
 refine cndC.mk (fun h=>?_) (fun h=>?_)
 ·have h1:d.ty=1:=by simpa using h
  simp only[go_sem]
  refine CallK.mk _ (Iu _) fun _=>?_
  simp only[go_sem]
  refine gO.mk (fun h=>?_) (fun h=>?_)<;>simp only[go_sem,h]<;>simp_all [BD]
 ·have h1:¬ d.ty=1:=by simpa using h
  simp only[go_sem]
  refine LoopK.mk 1 [1,3] (A:=Nat) (fun k=>⟨56,[(1,.lp 0 0 0),(3,.c (.v (.int .i64 k)))],[⟨68,3,[d.c],true,true⟩]⟩) (fun k=>k≤d.s.size∧k≤7∧∀ i (h:i<d.s.size),i<k→WX d.s[i]=true) (fun k=>d.s.size-k) 0 ⟨⟨rfl,rfl⟩,rfl,ax _,by omega,fun i _ hi=>by omega⟩ ?_
  rintro k ⟨hk,hk7,hok⟩
  simp only[go_sem]
  have hW (c:UInt8):IntKind.i64.wrap (c.toNat:Int)=c.toNat:=wrap_i64 (by omega) (by have:=c.toNat_lt; omega)
  have hfin:k=d.s.size∨(¬ k≤6)→((d.ty==2)&&(d.n==0)&&decide ((d.s.size:Int)≤6))=BD d:=by
   intro hor
   simp only[BD,aV h1]
   by_cases h6:d.s.size≤6
   ·have ht:TP d.s=true:=by
     simp only[TP,bf]
     intro i hi
     exact hok i hi (by omega)
    grind
   ·grind
  refine gO.mk (fun h=>?_) (fun h=>?_)
  ·have hk':k<d.s.size:=by simpa using h
   have hb:d.s[k]?=some d.s[k]:=getElem?_pos d.s k hk'
   simp only[go_sem,h,hk']
   refine cndC.mk (fun h6=>?_) (fun h6=>?_)
   ·have h6':k≤6:=by simp at h6; omega
    have hbad:WX d.s[k]=false→false=BD d:=by
     intro hc
     have ht:TP d.s=false:=by
      simp only[TP,aaN]
      intro hall
      rw[hall k hk'] at hc
      cases hc
     simp[BD,aV h1,ht]
    simp only[go_sem,hb,hW]
    refine CallK.mk _ (AL _ _ _) fun _=>?_
    simp only[go_sem]
    refine gO.mk (fun ha=>?_) (fun ha=>?_)
    ·simp only[go_sem,hb,hW,ha]
     refine CallK.mk _ (AL _ _ _) fun _=>?_
     simp only[go_sem,hb,hW,ha]
     refine cndC.mk (fun hc=>?_) (fun hc=>?_)
     ·simp only[go_sem]
      rw[hbad (by simp[WX]; grind)]
     ·simp only[go_sem,wrap_i64 (n:=(k:Int)+1) (by omega) (by omega)]
      refine⟨k+1,⟨rfl,rfl⟩,rfl,⟨by omega,by omega,fun i hi hik=>?_⟩,by omega⟩
      by_cases e:i=k
      ·subst e; simp only[WX]; grind
      grind
    ·simp only[go_sem,hb,hW,ha,wrap_i64 (n:=(k:Int)+1) (by omega) (by omega)]
     refine⟨k+1,⟨rfl,rfl⟩,rfl,⟨by omega,by omega,fun i hi hik=>?_⟩,by omega⟩
     by_cases e:i=k
     ·subst e; simp only[WX]; grind
     grind
   ·have hfin':=hfin (.inr (by grind))
    simp only[go_sem]
    refine gO.mk (fun e1=>?_) (fun e1=>?_)
    ·simp only[go_sem,e1]
     refine gO.mk (fun e2=>?_) (fun e2=>?_)<;>simp only[go_sem,e1,e2]<;>rw[← hfin',e1,e2]<;>simp
    ·simp only[go_sem,e1]
     grind
  ·have hk':k=d.s.size:=by simp at h; omega
   have hfin':=hfin (.inl hk')
   simp only[go_sem,h]
   refine gO.mk (fun e1=>?_) (fun e1=>?_)
   ·simp only[go_sem,e1]
    refine gO.mk (fun e2=>?_) (fun e2=>?_)<;>simp only[go_sem,e1,e2]<;>rw[← hfin',e1,e2]<;>simp
   ·simp only[go_sem,e1]
    grind
theorem AAd (d:DVal) {k:Nat} (hk:k<d.s.size) (hc:WX d.s[k]=false) (h1:¬ d.ty=1):false=BD d:=by
 have ht:TP d.s=false:=by
  simp only[TP,aaN]
  intro hall
  rw[hall k hk] at hc
  cases hc
 simp[BD,aV h1,ht]
theorem C9 (d:DVal):Ctr prog 204 [.agg d.c] [.val (.c (.v (.bool (BD d))))]:=by
 refine CM call204 func204 ntmps204 results204 fun hw=>?_
 have hs:d.s.size≤9223372036854775807:=uD hw.1.2.2.1
 simp only[go_sem]
 refine cndC.mk (fun h=>?_) (fun h=>?_)
 ·have h1:d.ty=1:=by simpa using h
  simp only[go_sem]
  refine CallK.mk _ (LX _) fun _=>?_
  simp only[go_sem]
  refine gO.mk (fun h=>?_) (fun h=>?_)<;>simp only[go_sem,h]<;>simp_all [BD]
 ·have h1:¬ d.ty=1:=by simpa using h
  simp only[go_sem]
  refine cndC.mk (fun h2=>?_) (fun h2=>?_)
  ·have h2':d.ty=2:=by simpa using h2
   simp only[go_sem]
   refine LoopK.mk 1 [1,3] (A:=Nat) (fun k=>⟨66,[(1,.lp 0 0 0),(3,.c (.v (.int .i64 k)))],[⟨68,3,[d.c],true,true⟩]⟩) (fun k=>k≤d.s.size∧∀ i (h:i<d.s.size),i<k→WX d.s[i]=true) (fun k=>d.s.size-k) 0 ⟨⟨rfl,rfl⟩,rfl,ax _,fun i _ hi=>by omega⟩ ?_
   rintro k ⟨hk,hok⟩
   simp only[go_sem]
   refine cndC.mk (fun h=>?_) (fun h=>?_)
   ·have hk':k<d.s.size:=by simpa using h
    have hb:d.s[k]?=some d.s[k]:=getElem?_pos d.s k hk'
    have hgood:WX d.s[k]=true→∀ i (h:i<d.s.size),i<k+1→WX d.s[i]=true:=by
     intro hg i hi hik
     by_cases e:i=k
     ·grind
     ·grind
    rcases hA:decide ((d.s[k].toNat:Int)≥97) with _ | _<;>rcases hB:decide ((d.s[k].toNat:Int)≤122) with _ | _<;>rcases hC:decide ((d.s[k].toNat:Int)≥48) with _ | _<;>rcases hD:decide ((d.s[k].toNat:Int)≤57) with _ | _ <;>
     simp only[go_sem,hb,hA,hB,hC,hD,wrap_i64 (n:=(k:Int)+1) (by omega) (by omega)]<;>simp at hA hB hC hD<;>first
     | (rw[AAd d hk' (by simp[WX,Ac]; omega) h1]; done)
     | exact⟨k+1,⟨rfl,rfl⟩,rfl,⟨by omega,hgood (by simp[WX,Ac]; omega)⟩,by omega⟩
   ·have hk':k=d.s.size:=by simp at h; omega
    have ht:TP d.s=true:=by
     simp only[TP,bf]
     intro i hi
     exact hok i hi (by omega)
    simp only[go_sem]
    refine gO.mk (fun e1=>?_) (fun e1=>?_)<;>simp only[go_sem,e1]<;>simp[BD,aV h1,ht]<;>simp at e1<;>simp[h2']<;>omega
  ·have h2':¬ d.ty=2:=by simpa using h2
   simp only[go_sem]
   simp[BD,aV h1,h2']
def fits:List Int→List DVal→Bool
 | [],[]=>true
 | c::cs,v::vs=>BD v&&(v.ty==c)&&fits cs vs
 | _,_=>false
theorem Xx:∀ (cs:List Int) (vs:List DVal),cs.length≠vs.length→fits cs vs=false
 | [],[],h=>by simp at h
 | [],_::_,_=>rfl
 | _::_,[],_=>rfl
 | c::cs,v::vs,h=>by simp only[fits]; rw[Xx cs vs (by simpa using h)]; simp
theorem dL (cs:List Int) (vs:List DVal) {k:Nat} (h1:k<cs.length) (h2:k<vs.length):fits (cs.drop k) (vs.drop k)=(BD vs[k]&&(vs[k].ty==cs[k])&&fits (cs.drop (k+1)) (vs.drop (k+1))):=by
 rw[aG h1,aG h2]; rfl
theorem OI (cs:List Int) (vs:List DVal):Ctr prog 139 [.c (.sl (cs.map intC)),.c (.sl (vs.map DVal.c))] [.val (.c (.v (.bool (fits cs vs))))]:=by
 refine CM call139 func139 ntmps139 results139 fun hw=>?_
 have hlen:vs.length≤9223372036854775807:=by have:=hw.2.1.1; simpa [Go.maxLen] using this
 simp only[go_sem,ae]
 refine cndC.mk (fun h=>?_) (fun h=>?_)
 ·simp only[go_sem]
  grind [Xx]
 ·have he:cs.length=vs.length:=by simp at h; omega
  simp only[go_sem]
  refine LoopK.mk 0 [0,1,5] (A:=Nat) (fun k=>⟨35,[(0,.c (.sl (cs.map intC))),(1,.c (.sl (vs.map DVal.c))),(5,.c (.v (.int .i64 k)))],[]⟩) (fun k=>k≤vs.length∧fits (cs.drop k) (vs.drop k)=fits cs vs) (fun k=>vs.length-k) 0 ⟨⟨rfl,rfl⟩,rfl,ax _,rfl⟩ ?_
  rintro k ⟨hk,hf⟩
  simp only[go_sem,ae]
  refine cndC.mk (fun h=>?_) (fun h=>?_)
  ·have hk':k<vs.length:=by simpa using h
   have hk2:k<cs.length:=by omega
   rw[dL cs vs hk2 hk'] at hf
   simp only[go_sem]
   refine DrawK.mk ?_
   simp only[go_sem,ae,AA _ hk',AA _ hk2,hk',hk2]
   refine CY (G_ vs[k]) ?_
   rcases hv:BD vs[k] with _ | _
   ·simp only[go_sem,hv]
    grind
   ·simp only[go_sem,hv,AA _ hk',AA _ hk2]
    rcases ht:vs[k].ty==cs[k] with _ | _
    ·simp only[go_sem,bne,ht]
     grind
    ·simp only[go_sem,bne,ht,wrap_i64 (n:=(k:Int)+1) (by omega) (by omega)]
     rw[hv,ht] at hf
     simp only[aS,ai] at hf
     exact⟨k+1,⟨rfl,rfl⟩,rfl,⟨by omega,hf⟩,by omega⟩
  ·have hk':k=vs.length:=by simp at h; omega
   subst hk'
   simp only[go_sem]
   rw[← hf,aU,← he,aU]; rfl
theorem OJ (cs:List Int) (vs:List DVal):Ctr prog 140 [.c (.sl (cs.map intC)),.c (.sl (vs.map DVal.c))] [.val (.c (.v (.bool (fits cs vs))))]:=by
 refine CM call140 func140 ntmps140 results140 fun hw=>?_
 have hlen:vs.length≤9223372036854775807:=by have:=hw.2.1.1; simpa [Go.maxLen] using this
 simp only[go_sem,ae]
 refine cndC.mk (fun h=>?_) (fun h=>?_)
 ·simp only[go_sem]
  grind [Xx]
 ·have he:cs.length=vs.length:=by simp at h; omega
  simp only[go_sem,ae]
  refine LoopK.mk 0 [0,12,13,14] (A:=Nat) (fun k=>⟨32,[(0,.c (.sl (cs.map intC))),(12,.c (.sl (vs.map DVal.c))),(13,.c (.v (.int .i64 vs.length))),(14,.c (.v (.int .i64 k)))],[]⟩) (fun k=>k≤vs.length∧fits (cs.drop k) (vs.drop k)=fits cs vs) (fun k=>vs.length-k) 0 ⟨⟨rfl,rfl⟩,rfl,ax _,rfl⟩ ?_
  rintro k ⟨hk,hf⟩
  simp only[go_sem,ae]
  refine cndC.mk (fun h=>?_) (fun h=>?_)
  ·have hk':k<vs.length:=by simpa using h
   have hk2:k<cs.length:=by omega
   rw[dL cs vs hk2 hk'] at hf
   simp only[go_sem,AA _ hk']
   refine DrawK.mk ?_
   simp only[go_sem,ae,AA _ hk',AA _ hk2,hk',hk2]
   refine CY (C9 vs[k]) ?_
   rcases hv:BD vs[k] with _ | _
   ·simp only[go_sem,hv]
    grind
   ·simp only[go_sem,hv,AA _ hk',AA _ hk2]
    rcases ht:vs[k].ty==cs[k] with _ | _
    ·simp only[go_sem,bne,ht]
     grind
    ·simp only[go_sem,bne,ht,wrap_i64 (n:=(k:Int)+1) (by omega) (by omega)]
     rw[hv,ht] at hf
     simp only[aS,ai] at hf
     exact⟨k+1,⟨rfl,rfl⟩,rfl,⟨by omega,hf⟩,by omega⟩
  ·have hk':k=vs.length:=by simp at h; omega
   subst hk'
   simp only[go_sem]
   rw[← hf,aU,← he,aU]; rfl
def rowOk (cs:List Int) (r:DRow):Bool:=decide (r.id≥0)&&fits cs r.l
theorem mZ (cs:List Int) (r:DRow):Ctr prog 268 [.c (.sl (cs.map intC)),.agg r.c] [.val (.c (.v (.bool (rowOk cs r))))]:=by
 refine CM call268 func268 ntmps268 results268 fun hw=>?_
 simp only[go_sem]
 rcases hi:decide (r.id≥0) with _ | _
 ·simp only[go_sem,hi]; simp only[rowOk,hi,ag]
 ·simp only[go_sem,hi]
  refine CallK.mk _ (OI cs r.l) fun _=>?_
  simp only[go_sem,hi]; simp only[rowOk,hi,ai]
theorem mf (cs:List Int) (r:DRow):Ctr prog 277 [.c (.sl (cs.map intC)),.agg r.c] [.val (.c (.v (.bool (rowOk cs r))))]:=by
 refine CM call277 func277 ntmps277 results277 fun hw=>?_
 simp only[go_sem]
 rcases hi:decide (r.id≥0) with _ | _
 ·simp only[go_sem,hi]; simp only[rowOk,hi,ag]
 ·simp only[go_sem,hi]
  refine CallK.mk _ (OJ cs r.l) fun _=>?_
  simp only[go_sem,hi]; simp only[rowOk,hi,ai]
def PS (cs:List Int):Bool:=cs.all fun c=>Ac c 1 2
def EQ (cs:List Int):Bool:=PS cs&&Ac cs.length 1 3
theorem Xy (cs:List Int) {k:Nat} (h:k<cs.length):PS (cs.drop k)=(Ac cs[k] 1 2&&PS (cs.drop (k+1))):=by
 rw[aG h]; rfl
theorem OL (cs:List Int):Ctr prog 156 [.c (.sl (cs.map intC))] [.val (.c (.v (.bool (EQ cs))))]:=by
 refine CM call156 func156 ntmps156 results156 fun hw=>?_
 have hlen:cs.length≤9223372036854775807:=by have:=hw.1.1; simpa [Go.maxLen] using this
 simp only[go_sem,ae]
 refine LoopK.mk 0 [0,3] (A:=Nat) (fun k=>⟨19,[(0,.c (.sl (cs.map intC))),(3,.c (.v (.int .i64 k)))],[]⟩) (fun k=>k≤cs.length∧PS (cs.drop k)=PS cs) (fun k=>cs.length-k) 0 ⟨⟨rfl,rfl⟩,rfl,ax _,rfl⟩ ?_
 rintro k ⟨hk,hf⟩
 simp only[go_sem,ae]
 refine cndC.mk (fun h=>?_) (fun h=>?_)
 ·have hk':k<cs.length:=by simpa using h
  rw[Xy cs hk'] at hf
  simp only[go_sem,AA _ hk']
  refine CallK.mk _ (AL _ _ _) fun _=>?_
  simp only[go_sem]
  rcases hi:Ac cs[k] 1 2 with _ | _
  ·simp only[go_sem,hi]
   rw[hi,ag] at hf
   simp only[EQ,← hf,ag]
  ·simp only[go_sem,hi,wrap_i64 (n:=(k:Int)+1) (by omega) (by omega)]
   rw[hi,ai] at hf
   exact⟨k+1,⟨rfl,rfl⟩,rfl,⟨by omega,hf⟩,by omega⟩
 ·have hk':k=cs.length:=by simp at h; omega
  subst hk'
  simp only[go_sem,ae]
  refine CallK.mk _ (AL _ _ _) fun _=>?_
  simp only[go_sem]
  rw[aU] at hf
  simp only[EQ,← hf]; simp[PS]
theorem OM (cs:List Int):Ctr prog 176 [.c (.sl (cs.map intC))] [.val (.c (.v (.bool (EQ cs))))]:=by
 refine CM call176 func176 ntmps176 results176 fun hw=>?_
 have hlen:cs.length≤9223372036854775807:=by have:=hw.1.1; simpa [Go.maxLen] using this
 simp only[go_sem,ae]
 refine LoopK.mk 0 [0,5,6,7] (A:=Nat) (fun k=>⟨21,[(0,.c (.sl (cs.map intC))),(5,.c (.sl (cs.map intC))),(6,.c (.v (.int .i64 cs.length))),(7,.c (.v (.int .i64 k)))],[]⟩) (fun k=>k≤cs.length∧PS (cs.drop k)=PS cs) (fun k=>cs.length-k) 0 ⟨⟨rfl,rfl⟩,rfl,ax _,rfl⟩ ?_
 rintro k ⟨hk,hf⟩
 simp only[go_sem,ae]
 refine cndC.mk (fun h=>?_) (fun h=>?_)
 ·have hk':k<cs.length:=by simpa using h
  rw[Xy cs hk'] at hf
  simp only[go_sem,AA _ hk']
  have hgood:Ac cs[k] 1 2=true→PS (cs.drop (k+1))=PS cs:=by intro hi; rw[hi,ai] at hf; exact hf
  rcases h1:cs[k] != 1 with _ | _
  ·simp only[go_sem,h1,wrap_i64 (n:=(k:Int)+1) (by omega) (by omega)]
   exact⟨k+1,⟨rfl,rfl⟩,rfl,⟨by omega,hgood (by simp[Ac]; grind)⟩,by omega⟩
  ·rcases h2:cs[k] != 2 with _ | _
   ·simp only[go_sem,h1,h2,wrap_i64 (n:=(k:Int)+1) (by omega) (by omega)]
    exact⟨k+1,⟨rfl,rfl⟩,rfl,⟨by omega,hgood (by simp[Ac]; grind)⟩,by omega⟩
   ·simp only[go_sem,h1,h2]
    have hi:Ac cs[k] 1 2=false:=by simp[Ac]; simp at h1 h2; omega
    rw[hi,ag] at hf
    simp only[EQ,← hf,ag]
 ·have hk':k=cs.length:=by simp at h; omega
  subst hk'
  simp only[go_sem,ae]
  refine CallK.mk _ (AC _ _ _) fun _=>?_
  simp only[go_sem]
  rw[aU] at hf
  simp only[EQ,← hf]; simp[PS]
def rowAt (cs:List Int) (l:List DRow) (i:Nat):Prop:=∀ h:i<l.length,rowOk cs l[i]=true∧(0<i→l[i-1].id<l[i].id)
noncomputable def Rk (cs:List Int) (l:List DRow):Bool:=@decide (∀ i,rowAt cs l i) (Classical.propDecidable _)
theorem yG {cs:List Int} {l:List DRow} {i:Nat} (h:¬ rowAt cs l i):Rk cs l=false:=by
 simp only[Rk,aaN]
 grind
theorem sH {cs:List Int} {l:List DRow} (h:∀ i,i<l.length→rowAt cs l i):Rk cs l=true:=by
 simp only[Rk,bf]
 intro i hi
 exact h i hi hi
end Go.Proofs.YtnfbaclikokapaaGreat
