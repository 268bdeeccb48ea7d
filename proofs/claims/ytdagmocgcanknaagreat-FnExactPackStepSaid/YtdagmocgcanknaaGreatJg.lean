/- A part. -/
import Derived.Test.YtdagmocgcanknaaGreatJp
set_option linter.unusedSimpArgs false
set_option linter.unusedVariables false
set_option maxHeartbeats 8000000
set_option maxRecDepth 10000
open Go.Proofs.Tryz
namespace Go.Proofs.YtdagmocgcanknaaGreat
open Go.Vm
section
variable {p q r:Prop}
theorem AQp(h:p:=by kernel_rfl):p:=h
end
theorem AEo (a:Ob) (ha:Aq 2 a=true) (w:DWorld) (n0:Nat) (hf:AU w) (h1:Dl w=true) (hlt0:n0<w.tasks.length) (h3:w.tasks[n0].op=4) (hpc:(Bv w n0).pc=4):InlS prog 22 (kX a w) [.lp 1 0 0,.c (.v (.int .i64 ((n0:Int))))] (.c (.v (.bool (true)))) (kX a (CP w n0 (Bv w n0))):=by
 have A:=Np hf h1 hlt0 AQE;have eta:Bv w (n0:Int)=w.tasks[n0]:=AQc;rw[<- eta] at A h3;generalize Bv w (n0:Int)=t at *;rw[h3] at A;obtain⟨hlt,hlp,hat,hh,hh0,hth,hown,hsw,hop2,hok,hld,hlm,hlb,hlr,ht5⟩:=A;obtain⟨m,hm⟩:∃ m:Nat,t.h=m:=⟨_,hh0⟩;have htm:t.h.toNat=m:=by rw[hm]; rfl
 rw[htm] at hh;simp only[htm] at hsw;have hF:∀ row:List Cl,((w.tasks.map DTask.o).set n0 row)[n0]?=some row/\((w.deeds.map DDeed.o).set m row)[m]?=some row:=fun row=>⟨aN AP9,aN AQW⟩
 have F:n0<w.tasks.length/\n0<w.p.length/\(∀ f:DTask->List Cl,(w.tasks.map f)[n0]?=some (f t))/\((w.p.map intC)[n0]?=some [.v (.int .i64 w.p[n0])])/\(∀ x,(w.p.map intC).set n0 [.v (.int .i64 x)]=(w.p.set n0 x).map intC) /\
  m<w.deeds.length/\(∀ f:DDeed->List Cl,(w.deeds.map f)[m]?=some (f w.deeds[m]))/\t.h=(m:Int)/\DTask.o t=_/\(∀ row:List Cl,((w.tasks.map DTask.o).set n0 row)[n0]?=some row)/\(∀ row:List Cl,((w.deeds.map DDeed.o).set m row)[m]?=some row)/\DDeed.o w.deeds[m]=_:=
  ⟨hlt,hlp,fun f=>AQK,AA intC hlp,fun x=>bn.symm,hh,fun f=>AA f hh,hm,DTask.o_eq t,fun row=>(hF row).1,fun row=>(hF row).2,DDeed.o_eq _⟩
 simp only[go_sem] at F;have hst:∀ t':DTask,(w.tasks.map DTask.o).set n0 (DTask.o t')=(w.tasks.set n0 t').map DTask.o:=fun _=>bn.symm;have hsd:∀ g:DDeed->DDeed,(w.deeds.map DDeed.o).set m (DDeed.o (g w.deeds[m]))=(w.deeds.modify m g).map DDeed.o:=fun g=>APd;have z0:(t.op==0)=false:=by rw[h3]; rfl
 refine AEX (fn:=f22) call22 func22 rfl mixed ntmps22 results22 AQp rfl rfl rfl (y7 ha _) (openR 1 0 14 0 (kX a w)) (fun m env=>Head.openR 1 0 14 0 _) fun mm env=>?_;simp only[kX,openR,CV,go_sem];simp only[go_sem,F,z0];rcases p0:t.pc==0 with _ | _;rotate_left
 .simp[hpc] at p0
 simp only[go_sem];rcases p1:t.pc==1 with _ | _;rotate_left
 .simp[hpc] at p1
 simp only[go_sem];rcases p2:t.pc==2 with _ | _;rotate_left
 .simp[hpc] at p2
 simp only[go_sem];rcases p3:t.pc==3 with _ | _;rotate_left
 .simp[hpc] at p3
 simp only[go_sem];rcases p4:t.pc==4 with _ | _;rotate_left
 .have e9:t.pc=4:=by simpa using p4
  have ed:CP w n0 t=(if DD w.c0.cols (Fz w t)=true then setT (FK w (w.b.modify (t.own-1).toNat (OJ (Au w.c0.cols (Fz w t))))) n0 (GI t 5) else Fb w n0 t):=AO9;rw[ed];have hfbs:fitS Ef w.b:=APB;obtain⟨hL1,hL2⟩:=Jn hsw hop2 AP1;obtain⟨q,hq,ho,hkq⟩:=ZP hown hop2 AP1;have hw1:IntKind.i64.wrap (t.own-1)=t.own-1:=wrap_i64 AOl AOl;have hob:E8 (.c (.v (.int .i64 (t.own-1))))=some q:=APL;have hgn:EL w t=⟨t.own-1,w.b[q].gen,2,(l0 t).first,sZ t.l⟩:=APV;have G:E8 (.c (.v (.int .i64 (t.own-1))))=some q/\q<w.b.length/\(∀ f:DBuf->List Cl,(w.b.map f)[q]?=some (f w.b[q])):=⟨hob,hq,fun f=>AA f hq⟩;simp only[go_sem];rcases PW hL1 hL2 with ⟨r1,hl1⟩ | ⟨r1,r2,hl1⟩
  .have hxs : [DRef.c r1]=t.l.map DRef.c:=by rw[hl1]; rfl
   have gx0:E8 (.c (.v (.int .i64 (0))))=some 0:=BL .i64 0;have gx1:E8 (.c (.v (.int .i64 (1))))=some 1:=BL .i64 1;have gw1:IntKind.i64.wrap (0+1)=1:=rfl;have gw2:IntKind.i64.wrap (1+1)=2:=rfl;have gd0:∀ n:Nat,0<n->decide ((0:Int)<(n:Int))=true:=fun n h=>AOn;have g01:decide ((0:Int)<((1:Nat):Int))=true/\decide ((1:Int)<((1:Nat):Int))=false/\decide ((0:Int)<((2:Nat):Int))=true/\decide ((1:Int)<((2:Nat):Int))=true/\decide ((2:Int)<((2:Nat):Int))=false:=⟨rfl,rfl,rfl,rfl,rfl⟩;have hz1:(Ag w r1 t.ts).length<=2147483648\/(Ag w r1 t.ts).length<=1099511627776:=.inl APq;refine ACh (fn:=f78) call78 func78 rfl mixed ntmps78 results78 AQp rfl _ (fun _=>Head.openS 8 n0 25) ?_;refine AOf ?_;apply LoopK.once
   .exact AIB
   simp only[go_sem,F,g01,ag,aj,ab,ae];have hA:Hm w t t.l.length=Ag w r1 t.ts:=by simp[Hm,hl1]
   have hAB:iQ Dn (Ag w r1 t.ts):=hA▸NV hf hL2;have hK:Fz w t=kept w (Ag w r1 t.ts) t.ts:=by rw[Fz,hA]
   have hKB:=QM hf hL2;rw[hK] at hKB ⊢;refine AAR ?_;simp only[go_sem,F,ag,aj,ab,ae,ao,ap];refine ABz _ _ (InlS.bor (args':=[.agg w.c,.c (.sl ((Ag w r1 t.ts).map DRow.c)),.c (.v (.int .i64 (t.ts)))]) [.own 194 2 ((kept w (Ag w r1 t.ts) t.ts).map DRow.o) true] ⟨Nw (AO rfl (AQ _) (Ad _)) (AO rfl (BC _) (BV _)) (AO rfl (A7 _) (Ar _)) (AO rfl (AQ _) (Ad _)) (AO rfl (Ci _) (Bi _)) (AO rfl (AQ _) (Ad _)) (BorX.set rfl DTask.o_nr DTask.o_er fun x hx=>AOr) (AO rfl (Cb _) (BH _)),AO rfl (Aj _) (D8 _),.inl rfl,trivial⟩ APF (by simpa only[go_sem] using fA w (Ag w r1 t.ts) t.ts hlm hAB)) ?_;generalize kept w (Ag w r1 t.ts) t.ts=K at hKB ⊢;simp only[go_sem,F,ag,aj,ab,ae,ao,ap];refine ABh (args:=[.c (.sl (w.c0.cols.map intC)),.c (.sl (K.map DRow.c))]) _ AO5 rfl (KD w.c0.cols K hKB.1) fun _=>?_;rcases q1:DD w.c0.cols K with _ | _
   .rw[aR AOm];simp only[go_sem,ao,ap];refine AA8 (fn:=f167) call167 func167 rfl mixed ntmps167 results167 AQp rfl ?_;simp only[go_sem,ao,ap];refine AA8 (fn:=f238) call238 func238 rfl mixed ntmps238 results238 AQp rfl ?_;simp only[go_sem];refine AAR ?_;simp only[go_sem,F,ak,hw1,aa,ag,aj,ab,ae,ao,ap];refine ABj (args:=[.c (.sl (w.b.map DBuf.c)),.c (.v (.int .i64 (t.own-1)))]) _ APG APA (Ny w.b (t.own-1) hfbs) ?_;simp only[go_sem,F,al,ak,hw1,aa,ag,aj,ab,ae,ao,ap];repeat (refine AAR ?_; simp only[go_sem,F,al,ak,hw1,G,aa,hl1,gx0,gx1,gw1,gw2,g01,ag,aj,ab,ae,ao,ap])
    refine AA8 (fn:=f76) call76 func76 rfl mixed ntmps76 results76 AQp rfl ?_;simp only[go_sem,ao,ap];refine AA8 (fn:=f162) call162 func162 rfl mixed ntmps162 results162 AQp rfl ?_;simp only[go_sem,F,ak,aa,ag,aj,ab,ae];repeat (refine AAR ?_; simp only[go_sem,F,al,ak,aa,ag,aj,ab,ae])
    have hs2:=hsd (BK w 5);simp only[DDeed.o_eq,BK,go_sem] at hs2;refine inlT.head (Head.close 8 n0 [10,11,12,13,14] (row':=DTask.o (GI (DU t 0 9) 9)) rfl (hF _).1 rfl AOu ?_) rfl ?_
    .exact AI5
    simp only[Aa,BR,go_sem,al];have hs1:=hst (GI (DU t 0 9) 9);simp only[go_sem] at hs1;simp only[go_sem,hs1,hs2];have eT:∀ b,BK ⟨w.c0,w.time,w.t,w.e,w.d,b,w.m,w.x,w.p,w.tasks,w.deeds⟩ 5=BK w 5:=fun _=>rfl;refine inlT.head (Head.close 1 0 [2,3,19,5,6,7,8,9] (row':=DWorld.o (Fb w n0 t)) rfl rfl rfl AOu ?_) rfl ?_
    .exact ALm
    exact AGq
   rw[aV rfl];have hq1:(t.own-1).toNat=q:=AOl;have hKF:fitS Dn K:=⟨AQN,hKB.2⟩;have hg5:∀ row:List Cl,((w.b.map DBuf.o).set q row)[q]?=some row:=fun row=>aN API;have hsb:(w.b.map DBuf.o).set q (DBuf.o (OJ (Au w.c0.cols K) w.b[q]))=(w.b.modify q (OJ (Au w.c0.cols K))).map DBuf.o:=AQC;simp only[go_sem] at hsb;rw[hq1];simp only[go_sem];refine DrawK.headE (x:=none) (Head.openR 4 q 5 0 _) AQp AQp ?_;refine AOi ?_;refine ABj (args:=[.c (.sl (w.c0.cols.map intC)),.c (.sl (K.map DRow.c))]) _ AO5 AQG (RQ w.c0.cols K hKF) ?_;simp only[go_sem,F,al,ak,hw1,G,aa,hg5,ag,aj,ab,ae];repeat (refine AAR ?_; simp only[go_sem,F,al,ak,hw1,G,aa,hg5,hl1,gx0,gx1,gw1,gw2,g01,ag,aj,ab,ae,ao,ap])
   refine inlT.head (Head.close 8 n0 [10,11,12,13,14] (row':=DTask.o (GI t 5)) rfl (hF _).1 rfl AOu ?_) rfl ?_
   .exact AMV
   simp only[Aa,BR,go_sem,al];refine inlT.head (Head.close 4 q [19,21] (row':=DBuf.o (OJ (Au w.c0.cols K) w.b[q])) rfl (aN API) rfl AOu ?_) rfl ?_
   .exact AOP
   simp only[Aa,BR,go_sem,al];have hs1:=hst (GI t 5);simp only[go_sem] at hs1;simp only[go_sem,hs1,hsb];refine inlT.head (Head.close 1 0 [2,3,4,5,6,7,8,9] (row':=DWorld.o (setT (FK w (w.b.modify q (OJ (Au w.c0.cols K)))) n0 (GI t 5))) rfl rfl rfl AOu ?_) rfl ?_
   .simp only[go_sem,setT,FK,DWorld.o_eq,aO];simp[AB]
   exact AGq
  .have hxs : [DRef.c r1,DRef.c r2]=t.l.map DRef.c:=by rw[hl1]; rfl
   have gx0:E8 (.c (.v (.int .i64 (0))))=some 0:=BL .i64 0;have gx1:E8 (.c (.v (.int .i64 (1))))=some 1:=BL .i64 1;have gw1:IntKind.i64.wrap (0+1)=1:=rfl;have gw2:IntKind.i64.wrap (1+1)=2:=rfl;have gd0:∀ n:Nat,0<n->decide ((0:Int)<(n:Int))=true:=fun n h=>AOn;have g01:decide ((0:Int)<((1:Nat):Int))=true/\decide ((1:Int)<((1:Nat):Int))=false/\decide ((0:Int)<((2:Nat):Int))=true/\decide ((1:Int)<((2:Nat):Int))=true/\decide ((2:Int)<((2:Nat):Int))=false:=⟨rfl,rfl,rfl,rfl,rfl⟩;have hz1:(Ag w r1 t.ts).length<=2147483648\/(Ag w r1 t.ts).length<=1099511627776:=.inl APq;have hz2:(Ag w r1 t.ts).length+(Ag w r2 t.ts).length<=2147483648\/(Ag w r1 t.ts).length+(Ag w r2 t.ts).length<=1099511627776:=.inl (by have:=(IE w r1 t.ts hf).1; have:=(IE w r2 t.ts hf).1; omega);refine ACh (fn:=f78) call78 func78 rfl mixed ntmps78 results78 AQp rfl _ (fun _=>Head.openS 8 n0 25) ?_;refine AOf ?_;apply LoopK.twice
   .exact AIB
   .simp only[go_sem,F,g01,ag,aj,ab,ae];refine AAR ?_;simp only[go_sem,F,gx1,ag,aj,ab,ae,ao,ap];refine ABz _ _ (InlS.bor (args':=[.agg w.c,.agg r2.c,.c (.v (.int .i64 (t.ts)))]) [.own 194 2 ((Ag w r2 t.ts).map DRow.o) true] ⟨Nw (AO rfl (AQ _) (Ad _)) (AO rfl (BC _) (BV _)) (AO rfl (A7 _) (Ar _)) (AO rfl (AQ _) (Ad _)) (AO rfl (Ci _) (Bi _)) (AO rfl (AQ _) (Ad _)) (BorX.set rfl DTask.o_nr DTask.o_er fun x hx=>AOr) (AO rfl (Cb _) (BH _)),Jp r2,.inl rfl,trivial⟩ APF (by simpa only[go_sem] using QY w r2 t.ts hf)) ?_;simp only[go_sem,F,aa,gx1,gw2,ag,aj,ab,ae,hz2];exact AMq
   simp only[go_sem,F,g01,ag,aj,ab,ae];have hA:Hm w t t.l.length=Ag w r1 t.ts++Ag w r2 t.ts:=by simp[Hm,hl1]
   have hAB:iQ Dn (Ag w r1 t.ts++Ag w r2 t.ts):=hA▸NV hf hL2;have hK:Fz w t=kept w (Ag w r1 t.ts++Ag w r2 t.ts) t.ts:=by rw[Fz,hA]
   have hKB:=QM hf hL2;rw[hK] at hKB ⊢;refine AAR ?_;simp only[go_sem,F,ag,aj,ab,ae,ao,ap];refine ABz _ _ (InlS.bor (args':=[.agg w.c,.c (.sl ((Ag w r1 t.ts++Ag w r2 t.ts).map DRow.c)),.c (.v (.int .i64 (t.ts)))]) [.own 194 2 ((kept w (Ag w r1 t.ts++Ag w r2 t.ts) t.ts).map DRow.o) true] ⟨Nw (AO rfl (AQ _) (Ad _)) (AO rfl (BC _) (BV _)) (AO rfl (A7 _) (Ar _)) (AO rfl (AQ _) (Ad _)) (AO rfl (Ci _) (Bi _)) (AO rfl (AQ _) (Ad _)) (BorX.set rfl DTask.o_nr DTask.o_er fun x hx=>AOr) (AO rfl (Cb _) (BH _)),AO rfl (by rw[<- bl]; exact Aj _) (by rw[<- bl]; exact D8 _),.inl rfl,trivial⟩ APF (by simpa only[go_sem] using fA w (Ag w r1 t.ts++Ag w r2 t.ts) t.ts hlm hAB)) ?_;generalize kept w (Ag w r1 t.ts++Ag w r2 t.ts) t.ts=K at hKB ⊢;simp only[go_sem,F,ag,aj,ab,ae,ao,ap];refine ABh (args:=[.c (.sl (w.c0.cols.map intC)),.c (.sl (K.map DRow.c))]) _ AO5 rfl (KD w.c0.cols K hKB.1) fun _=>?_;rcases q1:DD w.c0.cols K with _ | _
   .rw[aR AOm];simp only[go_sem,ao,ap];refine AA8 (fn:=f167) call167 func167 rfl mixed ntmps167 results167 AQp rfl ?_;simp only[go_sem,ao,ap];refine AA8 (fn:=f238) call238 func238 rfl mixed ntmps238 results238 AQp rfl ?_;simp only[go_sem];refine AAR ?_;simp only[go_sem,F,ak,hw1,aa,ag,aj,ab,ae,ao,ap];refine ABj (args:=[.c (.sl (w.b.map DBuf.c)),.c (.v (.int .i64 (t.own-1)))]) _ APG APA (Ny w.b (t.own-1) hfbs) ?_;simp only[go_sem,F,al,ak,hw1,aa,ag,aj,ab,ae,ao,ap];repeat (refine AAR ?_; simp only[go_sem,F,al,ak,hw1,G,aa,hl1,gx0,gx1,gw1,gw2,g01,ag,aj,ab,ae,ao,ap])
    refine AA8 (fn:=f76) call76 func76 rfl mixed ntmps76 results76 AQp rfl ?_;simp only[go_sem,ao,ap];refine AA8 (fn:=f162) call162 func162 rfl mixed ntmps162 results162 AQp rfl ?_;simp only[go_sem,F,ak,aa,ag,aj,ab,ae];repeat (refine AAR ?_; simp only[go_sem,F,al,ak,aa,ag,aj,ab,ae])
    have hs2:=hsd (BK w 5);simp only[DDeed.o_eq,BK,go_sem] at hs2;refine inlT.head (Head.close 8 n0 [10,11,12,13,14] (row':=DTask.o (GI (DU t 0 9) 9)) rfl (hF _).1 rfl AOu ?_) rfl ?_
    .exact AI5
    simp only[Aa,BR,go_sem,al];have hs1:=hst (GI (DU t 0 9) 9);simp only[go_sem] at hs1;simp only[go_sem,hs1,hs2];have eT:∀ b,BK ⟨w.c0,w.time,w.t,w.e,w.d,b,w.m,w.x,w.p,w.tasks,w.deeds⟩ 5=BK w 5:=fun _=>rfl;refine inlT.head (Head.close 1 0 [2,3,21,5,6,7,8,9] (row':=DWorld.o (Fb w n0 t)) rfl rfl rfl AOu ?_) rfl ?_
    .exact ALm
    exact AGq
   rw[aV rfl];have hq1:(t.own-1).toNat=q:=AOl;have hKF:fitS Dn K:=⟨AQN,hKB.2⟩;have hg5:∀ row:List Cl,((w.b.map DBuf.o).set q row)[q]?=some row:=fun row=>aN API;have hsb:(w.b.map DBuf.o).set q (DBuf.o (OJ (Au w.c0.cols K) w.b[q]))=(w.b.modify q (OJ (Au w.c0.cols K))).map DBuf.o:=AQC;simp only[go_sem] at hsb;rw[hq1];simp only[go_sem];refine DrawK.headE (x:=none) (Head.openR 4 q 5 0 _) AQp AQp ?_;refine AOi ?_;refine ABj (args:=[.c (.sl (w.c0.cols.map intC)),.c (.sl (K.map DRow.c))]) _ AO5 AQG (RQ w.c0.cols K hKF) ?_;simp only[go_sem,F,al,ak,hw1,G,aa,hg5,ag,aj,ab,ae];repeat (refine AAR ?_; simp only[go_sem,F,al,ak,hw1,G,aa,hg5,hl1,gx0,gx1,gw1,gw2,g01,ag,aj,ab,ae,ao,ap])
   refine inlT.head (Head.close 8 n0 [10,11,12,13,14] (row':=DTask.o (GI t 5)) rfl (hF _).1 rfl AOu ?_) rfl ?_
   .exact AMV
   simp only[Aa,BR,go_sem,al];refine inlT.head (Head.close 4 q [21,23] (row':=DBuf.o (OJ (Au w.c0.cols K) w.b[q])) rfl (aN API) rfl AOu ?_) rfl ?_
   .exact AOP
   simp only[Aa,BR,go_sem,al];have hs1:=hst (GI t 5);simp only[go_sem] at hs1;simp only[go_sem,hs1,hsb];refine inlT.head (Head.close 1 0 [2,3,4,5,6,7,8,9] (row':=DWorld.o (setT (FK w (w.b.modify q (OJ (Au w.c0.cols K)))) n0 (GI t 5))) rfl rfl rfl AOu ?_) rfl ?_
   .simp only[go_sem,setT,FK,DWorld.o_eq,aO];simp[AB]
   exact AGq
 exact AM5
