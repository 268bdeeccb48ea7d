/- A part. -/
import Derived.Test.YtdagmocgcanknaaGreatJp
set_option linter.unusedSimpArgs false
set_option linter.unusedVariables false
set_option maxHeartbeats 8000000
set_option maxRecDepth 10000
open Go.Proofs.Tryz
namespace Go.Proofs.YtdagmocgcanknaaGreat
open Go.Vm
section
variable {p q r:Prop}
theorem AG9(h:p:=by
 have qn:(r1.kind != 1)=true:=by simp only[bne,qk]; rfl
 refine DrawK.headE (x:=some (7,3)) (Head.openR 8 n0 25 0 _) (by kernel_rfl) (by kernel_rfl) ?_ (by kernel_rfl);simp only[openR,CV,go_sem,F,hl1,al];try simp only[go_sem,F,al,ak,aa,hl1,gx2,gl0,gd00,gi0,qk,qn,ag,aj,ab,ao,ap]
 refine' ABz _ _ (AB5 (fn:=f111) call111 func111 rfl mixed ntmps111 results111 (by kernel_rfl) rfl fun m env=>?_) ?_;rotate_left 2
 .simp only[go_sem,F,ak,aa,gl0,gd00,gi0,ag,aj,ab];exact⟨rfl,rfl⟩
 simp only[go_sem,ag,aj,ab,ao,ap];refine' ABz _ _ (AB5 (fn:=f110) call110 func110 rfl mixed ntmps110 results110 (by kernel_rfl) rfl fun m env=>?_) ?_;rotate_left 2
 .simp only[go_sem,qn,ag,aj,ab];exact⟨rfl,rfl⟩
 simp only[go_sem,ag,aj,ab];refine AAP ?_;simp only[go_sem,F,gx2,ag,aj,ab];refine EndH.close 8 n0 [11,12,13,14,15] (row':=DTask.o (IV t (Ah w))) rfl (hF _).1 rfl (by decide) ?_ ?_
 .simp only[go_sem,DTask.o_eq,F,IV,hl1];simp[AB,DR,Ij]
 simp only[Aa,BR,go_sem,al];have hs1:=hst (IV t (Ah w));simp only[go_sem] at hs1;simp only[go_sem,hs1];refine EndH.self ?_;simp only[go_sem,setT,He,aO];simp[AB]):p:=h
theorem AIA(h:p:=by
 simp only[DDeed.o_eq,BK,go_sem] at hs2;simp only[go_sem,q1];refine AA8 (fn:=f107) call107 func107 rfl mixed ntmps107 results107 (by kernel_rfl) rfl ?_;simp only[go_sem];refine AA8 (fn:=f200) call200 func200 rfl mixed ntmps200 results200 (by kernel_rfl) rfl ?_;simp only[go_sem];refine' ACZ _ _ (AB5 (fn:=f210) call210 func210 rfl mixed ntmps210 results210 (by kernel_rfl) rfl fun m env=>?_) ?_;rotate_left 2
 .simp only[go_sem,F,dm1,aa];repeat (refine AAR ?_; simp only[go_sem,F,al,ak,dm0,dm1,aa])
  exact⟨rfl,rfl⟩
 simp only[go_sem,F,al,aa];repeat (refine AAR ?_; simp only[go_sem,F,al,ak,dm0,dm1,aa])
 simp only[go_sem,hs1,hs2];refine EndH.self ?_;simp only[go_sem,codeW,He,aO,htm];simp[AB,GI,hm]):p:=h
theorem AQr(h:p:=by kernel_rfl):p:=h
end
theorem AEq (w:DWorld) (n0:Nat) (hf:AU w) (h1:Dl w=true) (hlt0:n0<w.tasks.length) (h2:Ae (n0:Int) 3 4=true) (hm4:V9 w=true) (h3:w.tasks[n0].op=4) (hpc:(Bv w n0).pc≠4/\(Bv w n0).pc≠5):Ctr prog 32 [.agg w.c,.c (.v (.int .i64 ((n0:Int))))] [.agg (He (CP w n0 (Bv w n0))).o,.val (.c (.v (.bool (true))))]:=by
 have A:=Np hf h1 hlt0 AQE;have eta:Bv w (n0:Int)=w.tasks[n0]:=AQc;have eo:opAt w (n0:Int)=4:=by simp[opAt,hlt0,h3]
 have hi04:Ae (n0:Int) 0 4=true:=AQT;have ec0:Tv w (n0:Int) 0=false:=by simp[Tv,eo]
 have ec4:Tv w (n0:Int) 4=true:=by simp[Tv,eo,hi04,hm4]
 rw[<- eta] at A h3;generalize Bv w (n0:Int)=t at *;rw[h3] at A;obtain⟨hlt,hlp,hat,hh,hh0,hth,hown,hsw,hop2,hok,hld,hlm,hlb,hlr,ht5⟩:=A;obtain⟨m,hm⟩:∃ m:Nat,t.h=m:=⟨_,hh0⟩;have htm:t.h.toNat=m:=by rw[hm]; rfl
 rw[htm] at hh;simp only[htm] at hsw;have hF:∀ row:List Cl,((w.tasks.map DTask.o).set n0 row)[n0]?=some row/\((w.deeds.map DDeed.o).set m row)[m]?=some row:=fun row=>⟨aN AP9,aN AQW⟩
 have F:n0<w.tasks.length/\n0<w.p.length/\(∀ f:DTask->List Cl,(w.tasks.map f)[n0]?=some (f t))/\((w.p.map intC)[n0]?=some [.v (.int .i64 w.p[n0])])/\(∀ x,(w.p.map intC).set n0 [.v (.int .i64 x)]=(w.p.set n0 x).map intC) /\
  m<w.deeds.length/\(∀ f:DDeed->List Cl,(w.deeds.map f)[m]?=some (f w.deeds[m]))/\t.h=(m:Int)/\DTask.o t=_/\(∀ row:List Cl,((w.tasks.map DTask.o).set n0 row)[n0]?=some row)/\(∀ row:List Cl,((w.deeds.map DDeed.o).set m row)[m]?=some row)/\DDeed.o w.deeds[m]=_:=
  ⟨hlt,hlp,fun f=>AQK,AA intC hlp,fun x=>bn.symm,hh,fun f=>AA f hh,hm,DTask.o_eq t,fun row=>(hF row).1,fun row=>(hF row).2,DDeed.o_eq _⟩
 simp only[go_sem] at F;have hst:∀ t':DTask,(w.tasks.map DTask.o).set n0 (DTask.o t')=(w.tasks.set n0 t').map DTask.o:=fun _=>bn.symm;have hsd:∀ g:DDeed->DDeed,(w.deeds.map DDeed.o).set m (DDeed.o (g w.deeds[m]))=(w.deeds.modify m g).map DDeed.o:=fun g=>APd;refine ACf call32 func32 rfl mixed ntmps32 results32 AQr rfl fun hw=>?_;simp only[go_sem];refine CW (AL (n0:Int) 3 4) fun _=>?_;simp only[go_sem,h2,aD];refine CW (E5 w (n0:Int) 0 h1) fun _=>?_;simp only[go_sem,ec0];refine CW (EJ w hf) fun _=>?_;simp only[go_sem];refine CW (E5 w (n0:Int) 4 h1) fun _=>?_;simp only[go_sem,ec4,aD];simp only[go_sem,F];have dm0:decide ((m:Int)<0)=false:=AOm;have dm1:decide ((m:Int)>=(w.deeds.length:Int))=false:=AOn;rcases p0:t.pc==0 with _ | _;rotate_left
 .have e9:t.pc=0:=by simpa using p0
  have ed:CP w n0 t=Xp w n0 t:=AO9;rw[ed];have hs1:=hst (GI t 1);simp only[DTask.o_eq,F,go_sem,GI] at hs1;simp only[go_sem];refine AA8 (fn:=f106) call106 func106 rfl mixed ntmps106 results106 AQr rfl ?_;simp only[go_sem];repeat (refine AAR ?_; simp only[go_sem,F,ak])
  simp only[go_sem,hs1];refine EndH.self ?_;simp only[go_sem,Xp,He,aO];simp[AB,GI,hm]
 simp only[go_sem];rcases p1:t.pc==1 with _ | _;rotate_left
 .have e9:t.pc=1:=by simpa using p1
  have ed:CP w n0 t=(if((BN w).2==0)=true then codeW w n0 t 2 else setT w n0 (RS w t (BN w).1 (Me w))):=AO9;rw[ed];simp only[go_sem];refine ABh (args:=[.agg w.c]) _ AOz rfl (by simpa only[go_sem] using SE w hf) fun _=>?_;rcases q1:(BN w).2==0 with _ | _;rotate_left
  .rw[aV rfl];have hs1:=hst (GI t 9);simp only[DTask.o_eq,F,go_sem,GI] at hs1;have hs2:=hsd (BK w 2);exact AIA
  rw[aR AOm];obtain⟨i0,m0,ew,hm1,hm2,him⟩:=RV q1;have e1:(BN w).1=(i0:Int):=by rw[ew]
  have e2:(BN w).2=(m0:Int):=by rw[ew]
  rw[e1];have hz:((m0:Int)==0)=false:=by rw[<- e2]; exact q1
  have hi1:E8 (.c (.v (.int .i64 ((i0:Int)))))=some i0:=BL .i64 i0;have hi2:E8 (.c (.v (.int .i64 (IntKind.i64.wrap ((i0:Int)+(m0:Int))))))=some (i0+m0):=by rw[show IntKind.i64.wrap ((i0:Int)+(m0:Int))=((i0+m0:Nat):Int) from AOq]; exact BL .i64 _
  have hi3:i0<i0+m0:=AOl;have hi4:i0+m0-i0=m0:=AOl;have hi5:0<m0:=hm1;have hi6:m0<=2147483648:=AOl;have hpe:GL (w.d.l.map DRef.c)=true:=AY DRef.pure;try simp only[go_sem] at hpe
  have hpl:List.take m0 (List.drop i0 (w.d.l.map DRef.c))=(Me w).map DRef.c:=by simp only[Me,e1,e2,aZ,bf,bk]
  try simp only[go_sem] at hpl
  have h55:((w.d.l.map DRef.c).all fun x=>x.length==5)=true:=aC.2 fun x hx=>by obtain⟨y,_,rfl⟩:=jB.1 hx;rfl
  simp only[go_sem,e2,hz];refine AAR ?_;simp only[go_sem,hi1,hi2,hi3,hi4,him,hpl,hpe,aa,aj];refine ABj (args:=[.c (.sl ((Me w).map DRef.c))]) _ (by simp only[BV,h55,him,hpl,and_self,aO,go_sem]) (by simp only[aI,EH,VC,aM,aw]) (KU (Me w) (by simp only[Me,aU]; omega)) ?_;simp only[go_sem,F,al,hi1,hi2,hi3,hi4,him,hpl,hpe,aa,aA,aj];repeat (refine AAR ?_; simp only[go_sem,F,al,ak,q1,e1,e2,hz,hi1,hi2,hi3,hi4,hi5,hi6,him,hpl,hpe,aa,aA,aj])
  refine EndH.openR 8 n0 25 ?_;simp only[openR,CV,go_sem,F,al];refine EndH.close 8 n0 [11,12,13,14,15] (row':=DTask.o (RS w t (i0:Int) (Me w))) rfl (hF _).1 rfl AOu ?_ ?_
  .simp only[go_sem,DTask.o_eq,F,RS];simp[AB]
  simp only[Aa,BR,go_sem,al];have hs1:=hst (RS w t (i0:Int) (Me w));simp only[go_sem] at hs1;simp only[go_sem,hs1];refine EndH.self ?_;simp only[go_sem,setT,He,aO];simp[AB]
 simp only[go_sem];rcases p2:t.pc==2 with _ | _;rotate_left
 .have e9:t.pc=2:=by simpa using p2
  have ed:CP w n0 t=(if G_ w t=true then codeW w n0 (IV t (Ah w)) 2 else setT w n0 (IV t (Ah w))):=AO9;rw[ed];obtain⟨hL1,hL2⟩:=Jn hsw hop2 AP1;have hset2:∀ row:List Cl,((w.tasks.set n0 (IV t (Ah w))).map DTask.o).set n0 row=(w.tasks.map DTask.o).set n0 row:=fun row=>by rw[bn,al]
  simp only[go_sem];refine ABh (args:=[.agg w.c]) _ AOz rfl (by simpa only[go_sem] using jG w hf) fun _=>?_;simp only[go_sem,F,al];rcases PW hL1 hL2 with ⟨r1,hl1⟩ | ⟨r1,r2,hl1⟩
  .have hthr:there w r1=true:=by rw[hl1] at hth; simp at hth; exact hth
   have el0:l0 t=r1:=AQg;rcases qk:r1.kind==1 with _ | _
   .have eE:G_ w t=false:=by simp only[G_,el0,qk,ac,ay]
    rw[aR AQF];have gi0:E8 (.c (.v (.int .i64 (0))))=some 0:=BL .i64 0;have gx2:(((1:Nat):Int)==1)=true/\(((2:Nat):Int)==1)=false:=⟨rfl,rfl⟩;have gl0:decide ((0:Int)>=((1:Nat):Int))=false/\decide ((0:Int)>=((2:Nat):Int))=false:=⟨rfl,rfl⟩;have gd00:decide ((0:Int)<0)=false:=rfl;have hxs : [DRef.c r1]=(IV t (Ah w)).l.map DRef.c:=APl;exact AG9
   .have gi0:E8 (.c (.v (.int .i64 (0))))=some 0:=BL .i64 0;have gx2:(((1:Nat):Int)==1)=true/\(((2:Nat):Int)==1)=false:=⟨rfl,rfl⟩;have gl0:decide ((0:Int)>=((1:Nat):Int))=false/\decide ((0:Int)>=((2:Nat):Int))=false:=⟨rfl,rfl⟩;have gd00:decide ((0:Int)<0)=false:=rfl;have hxs : [DRef.c r1]=(IV t (Ah w)).l.map DRef.c:=APl;have qn:(r1.kind != 1)=false:=by simp only[bne,qk]; rfl
    obtain⟨q,hq,hb,hcat⟩:=RU hthr qk;have hfb:=(Jh hf hq).1;have G:E8 (.c (.v (.int .i64 (r1.buf))))=some q/\q<w.b.length/\(∀ f:DBuf->List Cl,(w.b.map f)[q]?=some (f w.b[q]))/\(∀ row:List Cl,((w.b.map DBuf.o).set q row)[q]?=some row):=⟨by rw[hb]; exact BL .i64 q,hq,fun f=>AA f hq,fun row=>aN API⟩;refine DrawK.headE (x:=some (7,3)) (Head.trans (Head.openR 8 n0 25 0 _) (Head.openR 4 q 5 0 _)) AQr AQr ?_ AQr;refine AOk ?_;refine' ABz _ _ (AB5 (fn:=f111) call111 func111 rfl mixed ntmps111 results111 AQr rfl fun m env=>?_) ?_;rotate_left 2
    .simp only[go_sem,F,ak,aa,gl0,gd00,gi0,ag,aj,ab];exact⟨rfl,rfl⟩
    simp only[go_sem,ag,aj,ab,ao,ap];refine' ABz _ _ (AB5 (fn:=f110) call110 func110 rfl mixed ntmps110 results110 AQr rfl fun m env=>?_) ?_;rotate_left 2
    .exact AFB
    simp only[go_sem,ag,aj,ab];refine AAP ?_;simp only[go_sem,F,gx2,ag,aj,ab,ao,ap];refine ACg (args:=[.agg w.b[q].c0.c,.c (.v (.int .i64 (Ah w)))]) _ (by simp only[VZ,go_sem]) (by simp only[aI,EH,aM,aw]) (RP w.b[q].c0 (Ah w) hfb.1) ?_;rcases qw:KF w.b[q].c0 (Ah w) with _ | _;rotate_left
    .have eE:G_ w t=false:=by simp only[G_,el0,qk,hcat,qw,aD,ay]
     rw[aR AQF];simp only[go_sem,ag,aj,ab,aD];exact AI7
    have eE:G_ w t=true:=by simp only[G_,el0,qk,hcat,qw,hl1,ag,aj]; rfl
    rw[aV eE];simp only[go_sem,ab,ao,ap,aH];refine AA8 (fn:=f107) call107 func107 rfl mixed ntmps107 results107 AQr rfl ?_;simp only[go_sem];refine AA8 (fn:=f200) call200 func200 rfl mixed ntmps200 results200 AQr rfl ?_;simp only[go_sem];refine' ACZ _ _ (AB5 (fn:=f210) call210 func210 rfl mixed ntmps210 results210 AQr rfl fun m env=>?_) ?_;rotate_left 2
    .simp only[go_sem,F,ak,dm1,aa];exact ALd
    simp only[go_sem,F,al,ak,aa];repeat (refine AAR ?_; simp only[go_sem,F,al,ak,dm0,dm1,aa])
    refine EndH.close 8 n0 [11,12,13,14,15] (row':=DTask.o (GI (IV t (Ah w)) 9)) rfl (hF _).1 rfl AOu ?_ ?_
    .simp only[go_sem,DTask.o_eq,F,GI,IV,hl1];simp[AB,DR,Ij]
    simp only[Aa,BR,go_sem,al];refine EndH.close 4 q [16,17] (row':=DBuf.o (w.b[q])) rfl (aN API) rfl AOu ?_ ?_
    .exact ANP
    simp only[Aa,BR,go_sem,al];have hs3:(w.b.map DBuf.o).set q (DBuf.o w.b[q])=w.b.map DBuf.o:=by rw[<- bn,abc]
    simp only[go_sem] at hs3;have hs1:=hst (GI (IV t (Ah w)) 9);simp only[go_sem] at hs1;have hs2:=hsd (BK w 2);simp only[DDeed.o_eq,BK,go_sem] at hs2;simp only[go_sem,hs1,hs3,hs2];refine EndH.self ?_;simp only[go_sem,codeW,He,aO];simp[AB,IV,hm,hl1]
  .have hthr:there w r1=true:=by rw[hl1] at hth; simp at hth; exact hth.1
   have el0:l0 t=r1:=AQg;rcases qk:r1.kind==1 with _ | _
   .have eE:G_ w t=false:=by simp[G_,hl1]
    rw[aR AQF];have gi0:E8 (.c (.v (.int .i64 (0))))=some 0:=BL .i64 0;have gx2:(((1:Nat):Int)==1)=true/\(((2:Nat):Int)==1)=false:=⟨rfl,rfl⟩;have gl0:decide ((0:Int)>=((1:Nat):Int))=false/\decide ((0:Int)>=((2:Nat):Int))=false:=⟨rfl,rfl⟩;have gd00:decide ((0:Int)<0)=false:=rfl;have hxs : [DRef.c r1,DRef.c r2]=(IV t (Ah w)).l.map DRef.c:=APl;exact AG9
   .have eE:G_ w t=false:=by simp[G_,hl1]
    rw[aR AQF];have gi0:E8 (.c (.v (.int .i64 (0))))=some 0:=BL .i64 0;have gx2:(((1:Nat):Int)==1)=true/\(((2:Nat):Int)==1)=false:=⟨rfl,rfl⟩;have gl0:decide ((0:Int)>=((1:Nat):Int))=false/\decide ((0:Int)>=((2:Nat):Int))=false:=⟨rfl,rfl⟩;have gd00:decide ((0:Int)<0)=false:=rfl;have hxs : [DRef.c r1,DRef.c r2]=(IV t (Ah w)).l.map DRef.c:=APl;have qn:(r1.kind != 1)=false:=by simp only[bne,qk]; rfl
    obtain⟨q,hq,hb,hcat⟩:=RU hthr qk;have hfb:=(Jh hf hq).1;have G:E8 (.c (.v (.int .i64 (r1.buf))))=some q/\q<w.b.length/\(∀ f:DBuf->List Cl,(w.b.map f)[q]?=some (f w.b[q]))/\(∀ row:List Cl,((w.b.map DBuf.o).set q row)[q]?=some row):=⟨by rw[hb]; exact BL .i64 q,hq,fun f=>AA f hq,fun row=>aN API⟩;refine DrawK.headE (x:=some (7,3)) (Head.trans (Head.openR 8 n0 25 0 _) (Head.openR 4 q 5 0 _)) AQr AQr ?_ AQr;refine AOk ?_;refine' ABz _ _ (AB5 (fn:=f111) call111 func111 rfl mixed ntmps111 results111 AQr rfl fun m env=>?_) ?_;rotate_left 2
    .simp only[go_sem,F,ak,aa,gl0,gd00,gi0,ag,aj,ab];exact⟨rfl,rfl⟩
    simp only[go_sem,ag,aj,ab,ao,ap];refine' ABz _ _ (AB5 (fn:=f110) call110 func110 rfl mixed ntmps110 results110 AQr rfl fun m env=>?_) ?_;rotate_left 2
    .exact AFB
    simp only[go_sem,ag,aj,ab];refine AAP ?_;simp only[go_sem,F,gx2,ag,aj,ab];exact AI7
 simp only[go_sem];rcases p3:t.pc==3 with _ | _;rotate_left
 .have e9:t.pc=3:=by simpa using p3
  have ed:CP w n0 t=(if Gt w.b<0 then codeW w n0 t 3 else setT (FK w (Qr w.b)) n0 (DU t (Gt w.b+1) 4)):=AO9;rw[ed];have hfbs:fitS Ef w.b:=APB;simp only[go_sem];first | refine ABh (args:=[.c (.sl (w.b.map DBuf.c)),.c (.v (.int .i64 (2))),.c (.v (.int .i64 (0)))]) _ APG APA (Yj w.b hfbs) fun _=>?_ | (refine AAR ?_; simp only[go_sem,F,al,ak]; refine ABj (args:=[.c (.sl (w.b.map DBuf.c)),.c (.v (.int .i64 (2))),.c (.v (.int .i64 (0)))]) _ APG APA (Yj w.b hfbs) ?_)
  rcases q1:decide (Gt w.b<0) with _ | _
  .have q2:¬ Gt w.b<0:=by simpa using q1
   rw[aR q2];have hw1:IntKind.i64.wrap (Gt w.b+1)=Gt w.b+1:=by rcases kW QV w.b with e | ⟨j,hj,e,_⟩<;>(have e2:Gt w.b=_:=e; rw[e2]; exact wrap_i64 AOl AOl)
   have hs1:=hst (DU t (Gt w.b+1) 4);simp only[DTask.o_eq,F,go_sem,DU] at hs1;simp only[go_sem,F,al,q1,hw1];repeat (refine AAR ?_; simp only[go_sem,F,al,ak,q1,hw1])
   simp only[go_sem,hs1];refine EndH.self ?_;simp only[go_sem,setT,FK,He,aO];simp[AB,DU,hm]
  rw[aV (iT q1)];have hs1:=hst (GI t 9);simp only[DTask.o_eq,F,go_sem,GI] at hs1;have hs2:=hsd (BK w 3);exact AIA
 simp only[go_sem];rcases p4:t.pc==4 with _ | _;rotate_left
 .exact absurd (by simpa using p4) hpc.1
 simp only[go_sem];rcases p5:t.pc==5 with _ | _;rotate_left
 .exact absurd (by simpa using p5) hpc.2
 simp only[go_sem];have ed:CP w n0 t=endW w n0 t.h.toNat:=by simp only[CP,p0,p1,p2,p3,p4,p5,ax,aL]
 rw[ed];refine AA8 (fn:=f116) call116 func116 rfl mixed ntmps116 results116 AQr rfl ?_;simp only[go_sem,F];refine AAR ?_;simp only[go_sem];refine' ABz _ _ (AB5 (fn:=f210) call210 func210 rfl mixed ntmps210 results210 AQr rfl fun m env=>?_) ?_;rotate_left 2
 .simp only[go_sem,F,dm1,aa];exact ALd
 simp only[go_sem,F,aa];repeat (refine AAR ?_; simp only[go_sem,F,al,ak,dm0,dm1,aa])
 have hs1:=hst EQ;try simp only[go_sem] at hs1
 have hs2:=hsd (ACB w);simp only[DDeed.o_eq,ACB,go_sem] at hs2;simp only[go_sem,hs2];have hsp:=F.2.2.2.2.1 (-1);try simp only[go_sem] at hsp
 try simp only[go_sem,F,al,ak,hsp]
 refine EndH.close 8 n0 [] (row':=DTask.o EQ) rfl (hF _).1 rfl AOu ?_ ?_
 .exact AM0
 simp only[Aa,go_sem,al];simp only[go_sem,hs1];refine EndH.self ?_;simp only[go_sem,endW,He,aO];simp[AB]
