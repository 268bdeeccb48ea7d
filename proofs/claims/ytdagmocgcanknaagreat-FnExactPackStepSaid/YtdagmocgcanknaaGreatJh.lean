/- A part. -/
import Derived.Test.YtdagmocgcanknaaGreatJp
set_option linter.unusedSimpArgs false
set_option linter.unusedVariables false
set_option maxHeartbeats 8000000
set_option maxRecDepth 10000
open Go.Proofs.Tryz
namespace Go.Proofs.YtdagmocgcanknaaGreat
open Go.Vm
section
variable {p q r:Prop}
theorem AFa(h:p:=by
 rw[aR (by simp)];simp only[go_sem,F,ag,aj,ab,ae,ao,ap];refine AA8 (fn:=f167) call167 func167 rfl mixed ntmps167 results167 (by kernel_rfl) rfl ?_;simp only[go_sem,ao,ap];refine AA8 (fn:=f238) call238 func238 rfl mixed ntmps238 results238 (by kernel_rfl) rfl ?_;simp only[go_sem];refine AAR ?_;simp only[go_sem,F,ak,hw1,aa,ag,aj,ab,ae,ao,ap];refine ABj (args:=[.c (.sl (w.b.map DBuf.c)),.c (.v (.int .i64 (t.own-1)))]) _ (by simp only[Ar,go_sem]) (by simp only[aI,EH,Em,aM,aw]) (Ny w.b (t.own-1) hfbs) ?_;simp only[go_sem,F,al,ak,hw1,aa,ag,aj,ab,ae,ao,ap];repeat (refine AAR ?_; simp only[go_sem,F,al,ak,hw1,G,aa,hl1,gx0,gx1,gw1,gw2,g01,ag,aj,ab,ae,ao,ap])
 refine AA8 (fn:=f76) call76 func76 rfl mixed ntmps76 results76 (by kernel_rfl) rfl ?_;simp only[go_sem,ao,ap];refine AA8 (fn:=f162) call162 func162 rfl mixed ntmps162 results162 (by kernel_rfl) rfl ?_;simp only[go_sem,F,ak,aa,ag,aj,ab,ae];repeat (refine AAR ?_; simp only[go_sem,F,al,ak,aa,ag,aj,ab,ae])
 have hs2:=hsd (BK w 5);simp only[DDeed.o_eq,BK,go_sem] at hs2;refine inlT.head (Head.close 8 n0 [10,11,12,13,14] (row':=DTask.o (GI (DU t 0 9) 9)) rfl (hF _).1 rfl (by decide) ?_) rfl ?_
 .simp only[go_sem,DTask.o_eq,F,GI,DU,hl1];simp[AB,DR,Ij]
 simp only[Aa,BR,go_sem,al];have hs1:=hst (GI (DU t 0 9) 9);simp only[go_sem] at hs1;simp only[go_sem,hs1,hs2];have eT:∀ b,BK ⟨w.c0,w.time,w.t,w.e,w.d,b,w.m,w.x,w.p,w.tasks,w.deeds⟩ 5=BK w 5:=fun _=>rfl;refine inlT.head (Head.close 1 0 [2,3,18,5,6,7,8,9] (row':=DWorld.o (Fb w n0 t)) rfl rfl rfl (by decide) ?_) rfl ?_
 .simp only[go_sem,codeW,FK,Fb,Kr,DWorld.o_eq,aO,eT];simp[AB,DU,hm,hl1]
 simp only[Aa,BR,go_sem];exact inlT.self rfl (by simp only[go_sem]) rfl):p:=h
theorem AQq(h:p:=by kernel_rfl):p:=h
end
theorem AEp (a:Ob) (ha:Aq 2 a=true) (w:DWorld) (n0:Nat) (hf:AU w) (h1:Dl w=true) (hlt0:n0<w.tasks.length) (h3:w.tasks[n0].op=4) (hpc:(Bv w n0).pc=5):InlS prog 22 (kX a w) [.lp 1 0 0,.c (.v (.int .i64 ((n0:Int))))] (.c (.v (.bool (true)))) (kX a (CP w n0 (Bv w n0))):=by
 have A:=Np hf h1 hlt0 AQE;have eta:Bv w (n0:Int)=w.tasks[n0]:=AQc;rw[<- eta] at A h3;generalize Bv w (n0:Int)=t at *;rw[h3] at A;obtain⟨hlt,hlp,hat,hh,hh0,hth,hown,hsw,hop2,hok,hld,hlm,hlb,hlr,ht5⟩:=A;obtain⟨m,hm⟩:∃ m:Nat,t.h=m:=⟨_,hh0⟩;have htm:t.h.toNat=m:=by rw[hm]; rfl
 rw[htm] at hh;simp only[htm] at hsw;have hF:∀ row:List Cl,((w.tasks.map DTask.o).set n0 row)[n0]?=some row/\((w.deeds.map DDeed.o).set m row)[m]?=some row:=fun row=>⟨aN AP9,aN AQW⟩
 have F:n0<w.tasks.length/\n0<w.p.length/\(∀ f:DTask->List Cl,(w.tasks.map f)[n0]?=some (f t))/\((w.p.map intC)[n0]?=some [.v (.int .i64 w.p[n0])])/\(∀ x,(w.p.map intC).set n0 [.v (.int .i64 x)]=(w.p.set n0 x).map intC) /\
  m<w.deeds.length/\(∀ f:DDeed->List Cl,(w.deeds.map f)[m]?=some (f w.deeds[m]))/\t.h=(m:Int)/\DTask.o t=_/\(∀ row:List Cl,((w.tasks.map DTask.o).set n0 row)[n0]?=some row)/\(∀ row:List Cl,((w.deeds.map DDeed.o).set m row)[m]?=some row)/\DDeed.o w.deeds[m]=_:=
  ⟨hlt,hlp,fun f=>AQK,AA intC hlp,fun x=>bn.symm,hh,fun f=>AA f hh,hm,DTask.o_eq t,fun row=>(hF row).1,fun row=>(hF row).2,DDeed.o_eq _⟩
 simp only[go_sem] at F;have hst:∀ t':DTask,(w.tasks.map DTask.o).set n0 (DTask.o t')=(w.tasks.set n0 t').map DTask.o:=fun _=>bn.symm;have hsd:∀ g:DDeed->DDeed,(w.deeds.map DDeed.o).set m (DDeed.o (g w.deeds[m]))=(w.deeds.modify m g).map DDeed.o:=fun g=>APd;have z0:(t.op==0)=false:=by rw[h3]; rfl
 refine AEX (fn:=f22) call22 func22 rfl mixed ntmps22 results22 AQq rfl rfl rfl (y7 ha _) (openR 1 0 14 0 (kX a w)) (fun m env=>Head.openR 1 0 14 0 _) fun mm env=>?_;simp only[kX,openR,CV,go_sem];simp only[go_sem,F,z0];rcases p0:t.pc==0 with _ | _;rotate_left
 .simp[hpc] at p0
 simp only[go_sem];rcases p1:t.pc==1 with _ | _;rotate_left
 .simp[hpc] at p1
 simp only[go_sem];rcases p2:t.pc==2 with _ | _;rotate_left
 .simp[hpc] at p2
 simp only[go_sem];rcases p3:t.pc==3 with _ | _;rotate_left
 .simp[hpc] at p3
 simp only[go_sem];rcases p4:t.pc==4 with _ | _;rotate_left
 .simp[hpc] at p4
 simp only[go_sem];rcases p5:t.pc==5 with _ | _;rotate_left
 .have e9:t.pc=5:=by simpa using p5
  have ed:CP w n0 t=(if(t.ver != w.d.ver)=true then Fb w n0 t else if Gn w.d t.i t.l.length (EL w t)=true then codeW (Oc w t (EZ w.d t.i.toNat t.l.length (EL w t))) n0 (DU t 0 9) 1 else Fb w n0 t):=AO9;rw[ed];have hfbs:fitS Ef w.b:=APB;obtain⟨hL1,hL2⟩:=Jn hsw hop2 AP1;obtain⟨q,hq,ho,hkq⟩:=ZP hown hop2 AP1;have hw1:IntKind.i64.wrap (t.own-1)=t.own-1:=wrap_i64 AOl AOl;have hob:E8 (.c (.v (.int .i64 (t.own-1))))=some q:=APL;have hgn:EL w t=⟨t.own-1,w.b[q].gen,2,(l0 t).first,sZ t.l⟩:=APV;have G:E8 (.c (.v (.int .i64 (t.own-1))))=some q/\q<w.b.length/\(∀ f:DBuf->List Cl,(w.b.map f)[q]?=some (f w.b[q])):=⟨hob,hq,fun f=>AA f hq⟩;simp only[go_sem];refine AA8 (fn:=f79) call79 func79 rfl mixed ntmps79 results79 AQq rfl ?_;simp only[go_sem,F,aa];try (refine AAP ?_; simp only[go_sem,F])
  rcases q1:t.ver != w.d.ver with _ | _;rotate_left
  .rw[aV rfl];simp only[go_sem];refine AA8 (fn:=f167) call167 func167 rfl mixed ntmps167 results167 AQq rfl ?_;simp only[go_sem];refine AA8 (fn:=f238) call238 func238 rfl mixed ntmps238 results238 AQq rfl ?_;simp only[go_sem];refine AAR ?_;simp only[go_sem,F,hw1,aa];refine ABj (args:=[.c (.sl (w.b.map DBuf.c)),.c (.v (.int .i64 (t.own-1)))]) _ APG APA (Ny w.b (t.own-1) hfbs) ?_;simp only[go_sem,F,hw1,aa];repeat (refine AAR ?_; simp only[go_sem,F,al,ak,hw1,G,aa])
   refine AA8 (fn:=f76) call76 func76 rfl mixed ntmps76 results76 AQq rfl ?_;simp only[go_sem];refine AA8 (fn:=f162) call162 func162 rfl mixed ntmps162 results162 AQq rfl ?_;simp only[go_sem,F,ak,aa];repeat (refine AAR ?_; simp only[go_sem,F,al,ak,aa])
   have hs1:=hst (GI (DU t 0 9) 9);simp only[DTask.o_eq,F,go_sem,GI,DU] at hs1;have hs2:=hsd (BK w 5);simp only[DDeed.o_eq,BK,go_sem] at hs2;simp only[go_sem,hs1,hs2];have eT:∀ b,BK ⟨w.c0,w.time,w.t,w.e,w.d,b,w.m,w.x,w.p,w.tasks,w.deeds⟩ 5=BK w 5:=fun _=>rfl;refine inlT.head (Head.close 1 0 [2,3,10,5,6,7,8,9] (row':=DWorld.o (Fb w n0 t)) rfl rfl rfl AOu ?_) rfl ?_
   .simp only[go_sem,codeW,FK,Fb,Kr,DWorld.o_eq,aO,eT];simp[AB,GI,DU,hm]
   exact AGq
  rw[aR AOm];simp only[go_sem,F,hw1];rcases PW hL1 hL2 with ⟨r1,hl1⟩ | ⟨r1,r2,hl1⟩
  .have el0:l0 t=r1:=by simp[l0,hl1]
   have gx0:E8 (.c (.v (.int .i64 (0))))=some 0:=BL .i64 0;have gx1:E8 (.c (.v (.int .i64 (1))))=some 1:=BL .i64 1;have gw1:IntKind.i64.wrap (0+1)=1:=rfl;have gw2:IntKind.i64.wrap (1+1)=2:=rfl;have gd0:∀ n:Nat,0<n->decide ((0:Int)<(n:Int))=true:=fun n h=>AOn;have g01:decide ((0:Int)<((1:Nat):Int))=true/\decide ((1:Int)<((1:Nat):Int))=false/\decide ((0:Int)<((2:Nat):Int))=true/\decide ((1:Int)<((2:Nat):Int))=true/\decide ((2:Int)<((2:Nat):Int))=false:=⟨rfl,rfl,rfl,rfl,rfl⟩;refine DrawK.headE (x:=none) (Head.openR 8 n0 25 0 _) AQq AQq ?_;simp only[openR,CV,go_sem,F,al];simp only[go_sem,F,G,aa,hl1,gx0,ag,aj,ab,ae,ao,ap];apply LoopK.once
   .simp only[go_sem,F,g01,ag,aj,ab,ae];repeat (refine AAR ?_; simp only[go_sem,F,gx0,gw1,ag,aj,ab,ae])
    exact ALG
   simp only[go_sem,F,g01,ag,aj,ab,ae];have hgr:DRef.c (EL w t) = [.v (.int .i64 (t.own-1)),.v (.int .i64 w.b[q].gen),.v (.int .i64 2),.v (.int .i64 r1.first),.v (.int .i64 (IntKind.i64.wrap (0+r1.many)))]:=AQd;refine ACc 18 14 AQq ?_;simp only[go_sem,F,ag,aj,ab,ae,ao,ap];refine ABj (args:=[.agg w.d.c,.c (.v (.int .i64 (t.i))),.c (.v (.int .i64 (1))),.agg (EL w t).c]) _ APo AQH (RF w.d t.i ((1:Nat):Int) (EL w t) (by have:=Pj h1; omega)) ?_;rcases q2:Gn w.d t.i ((1:Nat):Int) (EL w t) with _ | _
   .exact AFa
   rw[aV rfl];have hx1:w.x.length<=2147483647\/w.x.length<=1099511627775:=AOs;have hx3:w.x.length<=2147483646\/w.x.length<=1099511627774:=AOs;have hx4:w.x.length<=2147483647:=AOy;have hx2:w.x.length<=2147483648:=AOy;have eX:Md w.d t.i ((1:Nat):Int) (EL w t)=EZ w.d t.i.toNat 1 (EL w t):=AQO;simp only[go_sem,F,al,eX,ag,aj,ab,ae];apply LoopK.once
   .simp only[go_sem,F,g01,ag,aj,ab,ae];repeat (refine AAR ?_; simp only[go_sem,F,aa,gx0,gw1,ag,aj,ab,ae,hx4,au])
    exact ALG
   simp only[go_sem,F,g01,ag,aj,ab,ae,ao,ap];refine AA8 (fn:=f76) call76 func76 rfl mixed ntmps76 results76 AQq rfl ?_;simp only[go_sem,ao,ap];refine AA8 (fn:=f162) call162 func162 rfl mixed ntmps162 results162 AQq rfl ?_;simp only[go_sem,F,ak,aa,ag,aj,ab,ae];repeat (refine AAR ?_; simp only[go_sem,F,al,ak,aa,ag,aj,ab,ae])
   have hs2:=hsd (BK w 1);simp only[DDeed.o_eq,BK,go_sem] at hs2;refine inlT.head (Head.close 8 n0 [10,11,12,13,14] (row':=DTask.o (GI (DU t 0 9) 9)) rfl (hF _).1 rfl AOu ?_) rfl ?_
   .exact AI5
   simp only[Aa,BR,go_sem,al];have hs1:=hst (GI (DU t 0 9) 9);simp only[go_sem] at hs1;simp only[go_sem,hs1,hs2];have eT:∀ D,BK (Oc w t D) 1=BK w 1:=fun _=>rfl;refine inlT.head (Head.close 1 0 [2,16,4,5,19,7,8,9] (row':=DWorld.o (codeW (Oc w t (EZ w.d t.i.toNat 1 (EL w t))) n0 (DU t 0 9) 1)) rfl rfl rfl AOu ?_) rfl ?_
   .exact AM6
   exact AGq
  have el0:l0 t=r1:=AQg;have gx0:E8 (.c (.v (.int .i64 (0))))=some 0:=BL .i64 0;have gx1:E8 (.c (.v (.int .i64 (1))))=some 1:=BL .i64 1;have gw1:IntKind.i64.wrap (0+1)=1:=rfl;have gw2:IntKind.i64.wrap (1+1)=2:=rfl;have gd0:∀ n:Nat,0<n->decide ((0:Int)<(n:Int))=true:=fun n h=>AOn;have g01:decide ((0:Int)<((1:Nat):Int))=true/\decide ((1:Int)<((1:Nat):Int))=false/\decide ((0:Int)<((2:Nat):Int))=true/\decide ((1:Int)<((2:Nat):Int))=true/\decide ((2:Int)<((2:Nat):Int))=false:=⟨rfl,rfl,rfl,rfl,rfl⟩;refine DrawK.headE (x:=none) (Head.openR 8 n0 25 0 _) AQq AQq ?_;simp only[openR,CV,go_sem,F,al];simp only[go_sem,F,G,aa,hl1,gx0,ag,aj,ab,ae,ao,ap];apply LoopK.twice
  .simp only[go_sem,F,g01,ag,aj,ab,ae];repeat (refine AAR ?_; simp only[go_sem,F,gx0,gw1,ag,aj,ab,ae])
   exact ALG
  .simp only[go_sem,F,g01,ag,aj,ab,ae];repeat (refine AAR ?_; simp only[go_sem,F,gx1,gw2,ag,aj,ab,ae])
   exact AMq
  simp only[go_sem,F,g01,ag,aj,ab,ae];have hgr:DRef.c (EL w t) = [.v (.int .i64 (t.own-1)),.v (.int .i64 w.b[q].gen),.v (.int .i64 2),.v (.int .i64 r1.first),.v (.int .i64 (IntKind.i64.wrap (IntKind.i64.wrap (0+r1.many)+r2.many)))]:=AQd;refine ACc 18 14 AQq ?_;simp only[go_sem,F,ag,aj,ab,ae,ao,ap];refine ABj (args:=[.agg w.d.c,.c (.v (.int .i64 (t.i))),.c (.v (.int .i64 (2))),.agg (EL w t).c]) _ APo AQH (RF w.d t.i ((2:Nat):Int) (EL w t) (by have:=Pj h1; omega)) ?_;rcases q2:Gn w.d t.i ((2:Nat):Int) (EL w t) with _ | _
  .exact AFa
  rw[aV rfl];have hx1:w.x.length<=2147483647\/w.x.length<=1099511627775:=AOs;have hx3:w.x.length<=2147483646\/w.x.length<=1099511627774:=AOs;have hx4:w.x.length<=2147483647:=AOy;have hx2:w.x.length<=2147483648:=AOy;have eX:Md w.d t.i ((2:Nat):Int) (EL w t)=EZ w.d t.i.toNat 2 (EL w t):=AQO;simp only[go_sem,F,al,eX,ag,aj,ab,ae];apply LoopK.twice
  .simp only[go_sem,F,g01,ag,aj,ab,ae];repeat (refine AAR ?_; simp only[go_sem,F,aa,gx0,gw1,ag,aj,ab,ae,hx4,au])
   exact ALG
  .simp only[go_sem,F,g01,ag,aj,ab,ae];repeat (refine AAR ?_; simp only[go_sem,F,aa,gx1,gw2,ag,aj,ab,ae,hx3,au])
   exact AMq
  simp only[go_sem,F,g01,ag,aj,ab,ae,ao,ap];refine AA8 (fn:=f76) call76 func76 rfl mixed ntmps76 results76 AQq rfl ?_;simp only[go_sem,ao,ap];refine AA8 (fn:=f162) call162 func162 rfl mixed ntmps162 results162 AQq rfl ?_;simp only[go_sem,F,ak,aa,ag,aj,ab,ae];repeat (refine AAR ?_; simp only[go_sem,F,al,ak,aa,ag,aj,ab,ae])
  have hs2:=hsd (BK w 1);simp only[DDeed.o_eq,BK,go_sem] at hs2;refine inlT.head (Head.close 8 n0 [10,11,12,13,14] (row':=DTask.o (GI (DU t 0 9) 9)) rfl (hF _).1 rfl AOu ?_) rfl ?_
  .exact AI5
  simp only[Aa,BR,go_sem,al];have hs1:=hst (GI (DU t 0 9) 9);simp only[go_sem] at hs1;simp only[go_sem,hs1,hs2];have eT:∀ D,BK (Oc w t D) 1=BK w 1:=fun _=>rfl;refine inlT.head (Head.close 1 0 [2,16,4,5,21,7,8,9] (row':=DWorld.o (codeW (Oc w t (EZ w.d t.i.toNat 2 (EL w t))) n0 (DU t 0 9) 1)) rfl rfl rfl AOu ?_) rfl ?_
  .exact AM6
  exact AGq
 simp only[go_sem];simp[hpc] at p5
