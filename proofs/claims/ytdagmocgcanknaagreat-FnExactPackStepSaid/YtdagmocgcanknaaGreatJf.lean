/- A part. -/
import Derived.Test.YtdagmocgcanknaaGreatJp
set_option linter.unusedSimpArgs false
set_option linter.unusedVariables false
set_option maxHeartbeats 8000000
set_option maxRecDepth 10000
open Go.Proofs.Tryz
namespace Go.Proofs.YtdagmocgcanknaaGreat
open Go.Vm
section
variable {p q r:Prop}
theorem AQo(h:p:=by kernel_rfl):p:=h
end
theorem AEn (a:Ob) (ha:Aq 2 a=true) (w:DWorld) (n0:Nat) (hf:AU w) (h1:Dl w=true) (hlt0:n0<w.tasks.length) (h3:w.tasks[n0].op=4) (hpc:(Bv w n0).pc≠4/\(Bv w n0).pc≠5):InlS prog 22 (kX a w) [.lp 1 0 0,.c (.v (.int .i64 ((n0:Int))))] (.c (.v (.bool (true)))) (kX a (CP w n0 (Bv w n0))):=by
 have A:=Np hf h1 hlt0 AQE;have eta:Bv w (n0:Int)=w.tasks[n0]:=AQc;rw[<- eta] at A h3;generalize Bv w (n0:Int)=t at *;rw[h3] at A;obtain⟨hlt,hlp,hat,hh,hh0,hth,hown,hsw,hop2,hok,hld,hlm,hlb,hlr,ht5⟩:=A;obtain⟨m,hm⟩:∃ m:Nat,t.h=m:=⟨_,hh0⟩;have htm:t.h.toNat=m:=by rw[hm]; rfl
 rw[htm] at hh;simp only[htm] at hsw;have hF:∀ row:List Cl,((w.tasks.map DTask.o).set n0 row)[n0]?=some row/\((w.deeds.map DDeed.o).set m row)[m]?=some row:=fun row=>⟨aN AP9,aN AQW⟩
 have F:n0<w.tasks.length/\n0<w.p.length/\(∀ f:DTask->List Cl,(w.tasks.map f)[n0]?=some (f t))/\((w.p.map intC)[n0]?=some [.v (.int .i64 w.p[n0])])/\(∀ x,(w.p.map intC).set n0 [.v (.int .i64 x)]=(w.p.set n0 x).map intC) /\
  m<w.deeds.length/\(∀ f:DDeed->List Cl,(w.deeds.map f)[m]?=some (f w.deeds[m]))/\t.h=(m:Int)/\DTask.o t=_/\(∀ row:List Cl,((w.tasks.map DTask.o).set n0 row)[n0]?=some row)/\(∀ row:List Cl,((w.deeds.map DDeed.o).set m row)[m]?=some row)/\DDeed.o w.deeds[m]=_:=
  ⟨hlt,hlp,fun f=>AQK,AA intC hlp,fun x=>bn.symm,hh,fun f=>AA f hh,hm,DTask.o_eq t,fun row=>(hF row).1,fun row=>(hF row).2,DDeed.o_eq _⟩
 simp only[go_sem] at F;have hst:∀ t':DTask,(w.tasks.map DTask.o).set n0 (DTask.o t')=(w.tasks.set n0 t').map DTask.o:=fun _=>bn.symm;have hsd:∀ g:DDeed->DDeed,(w.deeds.map DDeed.o).set m (DDeed.o (g w.deeds[m]))=(w.deeds.modify m g).map DDeed.o:=fun g=>APd;have z0:(t.op==0)=false:=by rw[h3]; rfl
 refine AEX (fn:=f22) call22 func22 rfl mixed ntmps22 results22 AQo rfl rfl rfl (y7 ha _) (openR 1 0 14 0 (kX a w)) (fun m env=>Head.openR 1 0 14 0 _) fun mm env=>?_;simp only[kX,openR,CV,go_sem];simp only[go_sem,F,z0];rcases p0:t.pc==0 with _ | _;rotate_left
 .have e9:t.pc=0:=by simpa using p0
  have ed:CP w n0 t=Xp w n0 t:=AO9;rw[ed];have hs1:=hst (GI t 1);simp only[DTask.o_eq,F,go_sem,GI] at hs1;simp only[go_sem];refine AAR ?_;simp only[go_sem,F,ak,hs1];refine inlT.head (Head.close 1 0 [2,3,4,5,6,7,8,9] (row':=DWorld.o (Xp w n0 t)) rfl rfl rfl AOu ?_) rfl ?_
  .simp only[go_sem,Xp,DWorld.o_eq,aO];simp[AB,GI,hm]
  exact AGq
 simp only[go_sem];rcases p1:t.pc==1 with _ | _;rotate_left
 .have e9:t.pc=1:=by simpa using p1
  have ed:CP w n0 t=(if((BN w).2==0)=true then codeW w n0 t 2 else setT w n0 (RS w t (BN w).1 (Me w))):=AO9;rw[ed];simp only[go_sem];refine AA8 (fn:=f73) call73 func73 rfl mixed ntmps73 results73 AQo rfl ?_;simp only[go_sem,F];refine ABh (args:=[.agg w.c]) _ AOz rfl (by simpa only[go_sem] using SG w hf) fun _=>?_;rcases q1:(BN w).2==0 with _ | _;rotate_left
  .rw[aV rfl];have hs1:=hst (GI t 9);simp only[DTask.o_eq,F,go_sem,GI] at hs1;have hs2:=hsd (BK w 2);simp only[DDeed.o_eq,BK,go_sem] at hs2;simp only[go_sem,q1];refine AA8 (fn:=f76) call76 func76 rfl mixed ntmps76 results76 AQo rfl ?_;simp only[go_sem];refine AA8 (fn:=f162) call162 func162 rfl mixed ntmps162 results162 AQo rfl ?_;simp only[go_sem,F];repeat (refine AAR ?_; simp only[go_sem,F,al,ak])
   simp only[go_sem,hs1,hs2];refine inlT.head (Head.close 1 0 [2,3,4,5,6,7,8,9] (row':=DWorld.o (codeW w n0 t 2)) rfl rfl rfl AOu ?_) rfl ?_
   .simp only[go_sem,codeW,DWorld.o_eq,aO,htm];simp[AB,GI,hm]
   exact AGq
  rw[aR AOm];obtain⟨i0,m0,ew,hm1,hm2,him⟩:=RV q1;have e1:(BN w).1=(i0:Int):=by rw[ew]
  have e2:(BN w).2=(m0:Int):=by rw[ew]
  rw[e1];have hz:((m0:Int)==0)=false:=by rw[<- e2]; exact q1
  have hi1:E8 (.c (.v (.int .i64 ((i0:Int)))))=some i0:=BL .i64 i0;have hi2:E8 (.c (.v (.int .i64 (IntKind.i64.wrap ((i0:Int)+(m0:Int))))))=some (i0+m0):=by rw[show IntKind.i64.wrap ((i0:Int)+(m0:Int))=((i0+m0:Nat):Int) from AOq]; exact BL .i64 _
  have hi3:i0<i0+m0:=AOl;have hi4:i0+m0-i0=m0:=AOl;have hi5:0<m0:=hm1;have hi6:m0<=2147483648:=AOl;have hpe:GL (w.d.l.map DRef.c)=true:=AY DRef.pure;try simp only[go_sem] at hpe
  have hpl:List.take m0 (List.drop i0 (w.d.l.map DRef.c))=(Me w).map DRef.c:=by simp only[Me,e1,e2,aZ,bf,bk]
  try simp only[go_sem] at hpl
  simp only[go_sem,F,al,e2,hz,hi1,hi2,hi3,hi4,hi5,hi6,him,hpl,hpe,aa,aA,aj];repeat (refine AAR ?_; simp only[go_sem,F,al,ak,q1,e1,e2,hz,hi1,hi2,hi3,hi4,hi5,hi6,him,hpl,hpe,aa,aA,aj])
  refine inlT.head (Head.openR 8 n0 25 0 _) rfl ?_;simp only[openR,CV,go_sem,F,al];refine inlT.head (Head.close 8 n0 [11,12,13,14,15] (row':=DTask.o (RS w t (i0:Int) (Me w))) rfl (hF _).1 rfl AOu ?_) rfl ?_
  .simp only[go_sem,DTask.o_eq,F,RS];simp[AB]
  simp only[Aa,BR,go_sem,al];have hs1:=hst (RS w t (i0:Int) (Me w));simp only[go_sem] at hs1;simp only[go_sem,hs1];refine inlT.head (Head.close 1 0 [2,3,4,5,6,7,8,9] (row':=DWorld.o (setT w n0 (RS w t (i0:Int) (Me w)))) rfl rfl rfl AOu ?_) rfl ?_
  .exact AMv
  exact AGq
 simp only[go_sem];rcases p2:t.pc==2 with _ | _;rotate_left
 .have e9:t.pc=2:=by simpa using p2
  have ed:CP w n0 t=(if G_ w t=true then codeW w n0 (IV t (Ah w)) 2 else setT w n0 (IV t (Ah w))):=AO9;rw[ed];obtain⟨hL1,hL2⟩:=Jn hsw hop2 AP1;simp only[go_sem];first | refine ABh (args:=[.agg w.c]) _ AOz rfl (by simpa only[go_sem] using UO w hf) fun _=>?_ | (refine AAR ?_; simp only[go_sem,F,al,ak]; refine ABj (args:=[.agg w.c]) _ AOz rfl (by simpa only[go_sem] using UO w hf) ?_)
  simp only[go_sem,F,al];rcases qL:(t.l.length:Int)==1 with _ | _
  .have eE:G_ w t=false:=by simp only[G_,qL,ac]
   rw[aR AQF];refine DrawK.headE (x:=none) (Head.openR 8 n0 25 0 _) AQo AQo ?_;simp only[openR,CV,go_sem,F,al];simp only[go_sem,qL];refine inlT.head (Head.close 8 n0 [10,11,12,13,14] (row':=DTask.o (IV t (Ah w))) rfl (hF _).1 rfl AOu ?_) rfl ?_
   .simp only[go_sem,DTask.o_eq,F,IV];simp[AB]
   simp only[Aa,BR,go_sem,al];have hs1:=hst (IV t (Ah w));simp only[go_sem] at hs1;simp only[go_sem,hs1];refine inlT.head (Head.close 1 0 [2,3,4,5,6,7,8,9] (row':=DWorld.o (setT w n0 (IV t (Ah w)))) rfl rfl rfl AOu ?_) rfl ?_
   .exact AMv
   exact AGq
  have h8:(t.l.length:Int)=1:=by simpa using qL
  have h7:t.l.length=1:=AOl;obtain⟨r,hl1⟩:=List.length_eq_one_iff.1 h7;have el0:l0 t=r:=AQg;have hthr:there w r=true:=by rw[hl1] at hth; simpa using hth
  have gx1:(((1:Nat):Int)==1)=true:=rfl;have gx2:E8 (.c (.v (.int .i64 (0))))=some 0:=BL .i64 0;rcases qk:r.kind==1 with _ | _
  .have eE:G_ w t=false:=by simp only[G_,el0,qk,ac,ay]
   rw[aR AQF];refine DrawK.headE (x:=none) (Head.openR 8 n0 25 0 _) AQo AQo ?_;simp only[openR,CV,go_sem,F,al];simp only[go_sem,F,hl1,qk,gx1,gx2,ag,aj];refine inlT.head (Head.close 8 n0 [10,11,12,13,14] (row':=DTask.o (IV t (Ah w))) rfl (hF _).1 rfl AOu ?_) rfl ?_
   .simp only[go_sem,DTask.o_eq,F,IV,hl1];simp[AB,DR,Ij]
   simp only[Aa,BR,go_sem,al];have hs1:=hst (IV t (Ah w));simp only[go_sem] at hs1;simp only[go_sem,hs1];refine inlT.head (Head.close 1 0 [2,3,4,5,6,7,8,9] (row':=DWorld.o (setT w n0 (IV t (Ah w)))) rfl rfl rfl AOu ?_) rfl ?_
   .exact AMv
   exact AGq
  obtain⟨q,hq,hb,hcat⟩:=RU hthr qk;have hfb:=(Jh hf hq).1;have G:E8 (.c (.v (.int .i64 (r.buf))))=some q/\q<w.b.length/\(∀ f:DBuf->List Cl,(w.b.map f)[q]?=some (f w.b[q]))/\(∀ row:List Cl,((w.b.map DBuf.o).set q row)[q]?=some row):=⟨by rw[hb]; exact BL .i64 q,hq,fun f=>AA f hq,fun row=>aN API⟩;refine DrawK.headE (x:=none) (Head.trans (Head.openR 8 n0 25 0 _) (Head.openR 4 q 5 0 _)) AQo AQo ?_;simp only[openR,CV,go_sem,F,G,al];simp only[go_sem,F,ak,aa,hl1,qk,gx1,gx2,G,ag,aj];refine ABj (args:=[.agg w.b[q].c0.c,.c (.v (.int .i64 (Ah w)))]) _ (by simp only[VZ,go_sem]) (by simp only[aI,EH,aM,aw]) (YT w.b[q].c0 (Ah w) hfb.1) ?_;rcases qw:KF w.b[q].c0 (Ah w) with _ | _;rotate_left
  .have eE:G_ w t=false:=by simp only[G_,el0,qk,hcat,qw,aD,ay]
   rw[aR AQF];simp only[go_sem,F,ak,aD,aa,qk,gx1,gx2,G,ag,aj];have hs3:(w.b.map DBuf.o).set q (DBuf.o w.b[q])=w.b.map DBuf.o:=by rw[<- bn,abc]
   simp only[go_sem] at hs3;refine inlT.head (Head.close 8 n0 [10,11,12,13,14] (row':=DTask.o (IV t (Ah w))) rfl (hF _).1 rfl AOu ?_) rfl ?_
   .simp only[go_sem,DTask.o_eq,F,IV,hl1];simp[AB,DR,Ij]
   simp only[Aa,BR,go_sem,al];refine inlT.head (Head.close 4 q [15,16] (row':=DBuf.o (w.b[q])) rfl (aN API) rfl AOu ?_) rfl ?_
   .exact ANP
   simp only[Aa,BR,go_sem,al];have hs1:=hst (IV t (Ah w));simp only[go_sem] at hs1;simp only[go_sem,hs1,hs3];refine inlT.head (Head.close 1 0 [2,3,4,5,6,7,8,9] (row':=DWorld.o (setT w n0 (IV t (Ah w)))) rfl rfl rfl AOu ?_) rfl ?_
   .exact AMv
   exact AGq
  have eE:G_ w t=true:=by simp only[G_,el0,qL,qk,hcat,qw]; rfl
  rw[aV eE];simp only[go_sem,F,ak,aH,aa,qk,gx1,gx2,G,ag,aj];refine AA8 (fn:=f76) call76 func76 rfl mixed ntmps76 results76 AQo rfl ?_;simp only[go_sem];refine AA8 (fn:=f162) call162 func162 rfl mixed ntmps162 results162 AQo rfl ?_;simp only[go_sem,F,ak,aa,ag,aj];repeat (refine AAR ?_; simp only[go_sem,F,al,ak,aa,ag,aj])
  have hs3:(w.b.map DBuf.o).set q (DBuf.o w.b[q])=w.b.map DBuf.o:=by rw[<- bn,abc]
  simp only[go_sem] at hs3;have hs2:=hsd (BK w 2);simp only[DDeed.o_eq,BK,go_sem] at hs2;refine inlT.head (Head.close 8 n0 [10,11,12,13,14] (row':=DTask.o (GI (IV t (Ah w)) 9)) rfl (hF _).1 rfl AOu ?_) rfl ?_
  .simp only[go_sem,DTask.o_eq,F,GI,IV,hl1];simp[AB,DR,Ij]
  simp only[Aa,BR,go_sem,al];refine inlT.head (Head.close 4 q [15,16] (row':=DBuf.o (w.b[q])) rfl (aN API) rfl AOu ?_) rfl ?_
  .exact ANP
  simp only[Aa,BR,go_sem,al];have hs1:=hst (GI (IV t (Ah w)) 9);simp only[go_sem] at hs1;simp only[go_sem,hs1,hs2,hs3];refine inlT.head (Head.close 1 0 [2,3,4,5,6,7,8,9] (row':=DWorld.o (codeW w n0 (IV t (Ah w)) 2)) rfl rfl rfl AOu ?_) rfl ?_
  .simp only[go_sem,codeW,DWorld.o_eq,aO];simp[AB,IV,hm,hl1]
  exact AGq
 simp only[go_sem];rcases p3:t.pc==3 with _ | _;rotate_left
 .have e9:t.pc=3:=by simpa using p3
  have ed:CP w n0 t=(if Gt w.b<0 then codeW w n0 t 3 else setT (FK w (Qr w.b)) n0 (DU t (Gt w.b+1) 4)):=AO9;rw[ed];have hfbs:fitS Ef w.b:=APB;simp only[go_sem];refine ABh (args:=[.c (.sl (w.b.map DBuf.c)),.c (.v (.int .i64 (2))),.c (.v (.int .i64 (0)))]) _ APG APA (vI w.b hfbs) fun _=>?_;rcases q1:decide (Gt w.b<0) with _ | _
  .have q2:¬ Gt w.b<0:=by simpa using q1
   rw[aR q2];have hw1:IntKind.i64.wrap (Gt w.b+1)=Gt w.b+1:=by rcases kW QV w.b with e | ⟨j,hj,e,_⟩<;>(have e2:Gt w.b=_:=e; rw[e2]; exact wrap_i64 AOl AOl)
   have hs1:=hst (DU t (Gt w.b+1) 4);simp only[DTask.o_eq,F,go_sem,DU] at hs1;simp only[go_sem,F,al,q1,hw1];repeat (refine AAR ?_; simp only[go_sem,F,al,ak,q1,hw1])
   simp only[go_sem,hs1];refine inlT.head (Head.close 1 0 [2,3,10,5,6,7,8,9] (row':=DWorld.o (setT (FK w (Qr w.b)) n0 (DU t (Gt w.b+1) 4))) rfl rfl rfl AOu ?_) rfl ?_
   .simp only[go_sem,setT,FK,DWorld.o_eq,aO];simp[AB,DU,hm]
   exact AGq
  rw[aV (iT q1)];have hs1:=hst (GI t 9);simp only[DTask.o_eq,F,go_sem,GI] at hs1;have hs2:=hsd (BK w 3);simp only[DDeed.o_eq,BK,go_sem] at hs2;simp only[go_sem,q1];refine AA8 (fn:=f76) call76 func76 rfl mixed ntmps76 results76 AQo rfl ?_;simp only[go_sem];refine AA8 (fn:=f162) call162 func162 rfl mixed ntmps162 results162 AQo rfl ?_;simp only[go_sem,F];repeat (refine AAR ?_; simp only[go_sem,F,al,ak])
  simp only[go_sem,hs1,hs2];refine inlT.head (Head.close 1 0 [2,3,4,5,6,7,8,9] (row':=DWorld.o (codeW w n0 t 3)) rfl rfl rfl AOu ?_) rfl ?_
  .simp only[go_sem,codeW,DWorld.o_eq,aO,htm];simp[AB,GI,hm]
  exact AGq
 simp only[go_sem];rcases p4:t.pc==4 with _ | _;rotate_left
 .exact absurd (by simpa using p4) hpc.1
 simp only[go_sem];rcases p5:t.pc==5 with _ | _;rotate_left
 .exact absurd (by simpa using p5) hpc.2
 simp only[go_sem];have ed:CP w n0 t=endW w n0 t.h.toNat:=by simp only[CP,p0,p1,p2,p3,p4,p5,ax,aL]
 rw[ed];have hs1:=hst EQ;try simp only[go_sem] at hs1
 have hs2:=hsd (ACB w);simp only[DDeed.o_eq,ACB,go_sem] at hs2;have hsp:=F.2.2.2.2.1 (-1);try simp only[go_sem] at hsp
 refine AA8 (fn:=f80) call80 func80 rfl mixed ntmps80 results80 AQo rfl ?_;simp only[go_sem,F];repeat (refine AAR ?_; simp only[go_sem,F,ak])
 simp only[go_sem,hs2];refine inlT.head (Head.close 8 n0 [] (row':=DTask.o EQ) rfl (hF _).1 rfl AOu ?_) rfl ?_
 .exact AM0
 simp only[Aa,go_sem,al];simp only[go_sem,hs1];refine inlT.head (Head.close 1 0 [2,3,4,5,6,7,8,9] (row':=DWorld.o (endW w n0 m)) rfl rfl rfl AOu ?_) rfl ?_
 .simp only[go_sem,endW,DWorld.o_eq,aO];simp[AB]
 exact AGq
