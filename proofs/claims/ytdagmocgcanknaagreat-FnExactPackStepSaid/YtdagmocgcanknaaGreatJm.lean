/- A part. -/
import Derived.Test.YtdagmocgcanknaaGreatJp
set_option linter.unusedSimpArgs false
set_option linter.unusedVariables false
set_option maxHeartbeats 8000000
set_option maxRecDepth 10000
open Go.Proofs.Tryz
namespace Go.Proofs.YtdagmocgcanknaaGreat
open Go.Vm
section
variable {p q r:Prop}
theorem AQs(h:p:=by kernel_rfl):p:=h
end
def AC5:Cl->Bool
 | .ow _ _ _=>false
 | .v (.slice _ _ _)=>false
 | _=>true
theorem BorR.toL {st:List Ob}:∀ {cs ds:List Cl},cs.all AC5=true->BorR st cs ds->BorL st cs ds
 | [],[],_,_=>trivial
 | c::cs,d::ds,h,hb=>by
  simp only[aI,ar] at h;refine⟨.inl ?_,BorR.toL h.2 hb.2⟩;rcases hb.1 with ⟨l,ob,rfl,hob,hn,rfl⟩ | ⟨hn,rfl⟩
  .simp only[Xf,hob,hn,aO]
  .cases c with
   | v x=>cases x<;>first | rfl | simp[AC5] at h
   | sl x=>rfl
   | ow a b x=>simp[AC5] at h
   | ref l=>simp[Ij] at hn
 | [],_::_,_,hb=>hb.elim
 | _::_,[],_,hb=>hb.elim
theorem AEr (w:DWorld) (n0:Nat) (hf:AU w) (h1:Dl w=true) (hlt0:n0<w.tasks.length) (h2:Ae (n0:Int) 3 4=true) (hm4:V9 w=true) (h3:w.tasks[n0].op=4) (hpc:(Bv w n0).pc=4):Ctr prog 32 [.agg w.c,.c (.v (.int .i64 ((n0:Int))))] [.agg (He (CP w n0 (Bv w n0))).o,.val (.c (.v (.bool (true))))]:=by
 have A:=Np hf h1 hlt0 AQE;have eta:Bv w (n0:Int)=w.tasks[n0]:=AQc;have eo:opAt w (n0:Int)=4:=by simp[opAt,hlt0,h3]
 have hi04:Ae (n0:Int) 0 4=true:=AQT;have ec0:Tv w (n0:Int) 0=false:=by simp[Tv,eo]
 have ec4:Tv w (n0:Int) 4=true:=by simp[Tv,eo,hi04,hm4]
 rw[<- eta] at A h3;generalize Bv w (n0:Int)=t at *;rw[h3] at A;obtain⟨hlt,hlp,hat,hh,hh0,hth,hown,hsw,hop2,hok,hld,hlm,hlb,hlr,ht5⟩:=A;obtain⟨m,hm⟩:∃ m:Nat,t.h=m:=⟨_,hh0⟩;have htm:t.h.toNat=m:=by rw[hm]; rfl
 rw[htm] at hh;simp only[htm] at hsw;have hF:∀ row:List Cl,((w.tasks.map DTask.o).set n0 row)[n0]?=some row/\((w.deeds.map DDeed.o).set m row)[m]?=some row:=fun row=>⟨aN AP9,aN AQW⟩
 have F:n0<w.tasks.length/\n0<w.p.length/\(∀ f:DTask->List Cl,(w.tasks.map f)[n0]?=some (f t))/\((w.p.map intC)[n0]?=some [.v (.int .i64 w.p[n0])])/\(∀ x,(w.p.map intC).set n0 [.v (.int .i64 x)]=(w.p.set n0 x).map intC) /\
  m<w.deeds.length/\(∀ f:DDeed->List Cl,(w.deeds.map f)[m]?=some (f w.deeds[m]))/\t.h=(m:Int)/\DTask.o t=_/\(∀ row:List Cl,((w.tasks.map DTask.o).set n0 row)[n0]?=some row)/\(∀ row:List Cl,((w.deeds.map DDeed.o).set m row)[m]?=some row)/\DDeed.o w.deeds[m]=_:=
  ⟨hlt,hlp,fun f=>AQK,AA intC hlp,fun x=>bn.symm,hh,fun f=>AA f hh,hm,DTask.o_eq t,fun row=>(hF row).1,fun row=>(hF row).2,DDeed.o_eq _⟩
 simp only[go_sem] at F;have hst:∀ t':DTask,(w.tasks.map DTask.o).set n0 (DTask.o t')=(w.tasks.set n0 t').map DTask.o:=fun _=>bn.symm;have hsd:∀ g:DDeed->DDeed,(w.deeds.map DDeed.o).set m (DDeed.o (g w.deeds[m]))=(w.deeds.modify m g).map DDeed.o:=fun g=>APd;refine ACf call32 func32 rfl mixed ntmps32 results32 AQs rfl fun hw=>?_;simp only[go_sem];refine CW (AL (n0:Int) 3 4) fun _=>?_;simp only[go_sem,h2,aD];refine CW (E5 w (n0:Int) 0 h1) fun _=>?_;simp only[go_sem,ec0];refine CW (EJ w hf) fun _=>?_;simp only[go_sem];refine CW (E5 w (n0:Int) 4 h1) fun _=>?_;simp only[go_sem,ec4,aD];simp only[go_sem,F];have dm0:decide ((m:Int)<0)=false:=AOm;have dm1:decide ((m:Int)>=(w.deeds.length:Int))=false:=AOn;rcases p0:t.pc==0 with _ | _;rotate_left
 .simp[hpc] at p0
 simp only[go_sem];rcases p1:t.pc==1 with _ | _;rotate_left
 .simp[hpc] at p1
 simp only[go_sem];rcases p2:t.pc==2 with _ | _;rotate_left
 .simp[hpc] at p2
 simp only[go_sem];rcases p3:t.pc==3 with _ | _;rotate_left
 .simp[hpc] at p3
 simp only[go_sem];rcases p4:t.pc==4 with _ | _;rotate_left
 .have e9:t.pc=4:=by simpa using p4
  have ed:CP w n0 t=(if DD w.c0.cols (Fz w t)=true then setT (FK w (w.b.modify (t.own-1).toNat (OJ (Au w.c0.cols (Fz w t))))) n0 (GI t 5) else Fb w n0 t):=AO9;rw[ed];have hfbs:fitS Ef w.b:=APB;obtain⟨hL1,hL2⟩:=Jn hsw hop2 AP1;obtain⟨q,hq,ho,hkq⟩:=ZP hown hop2 AP1;have hw1:IntKind.i64.wrap (t.own-1)=t.own-1:=wrap_i64 AOl AOl;have hob:E8 (.c (.v (.int .i64 (t.own-1))))=some q:=APL;have hgn:EL w t=⟨t.own-1,w.b[q].gen,2,(l0 t).first,sZ t.l⟩:=APV;have G:E8 (.c (.v (.int .i64 (t.own-1))))=some q/\q<w.b.length/\(∀ f:DBuf->List Cl,(w.b.map f)[q]?=some (f w.b[q])):=⟨hob,hq,fun f=>AA f hq⟩;simp only[go_sem];rcases PW hL1 hL2 with ⟨r1,hl1⟩ | ⟨r1,r2,hl1⟩
  .have hxs : [DRef.c r1]=t.l.map DRef.c:=by rw[hl1]; rfl
   have gx0:E8 (.c (.v (.int .i64 (0))))=some 0:=BL .i64 0;have gx1:E8 (.c (.v (.int .i64 (1))))=some 1:=BL .i64 1;have gw1:IntKind.i64.wrap (0+1)=1:=rfl;have gw2:IntKind.i64.wrap (1+1)=2:=rfl;have gd0:∀ n:Nat,0<n->decide ((0:Int)<(n:Int))=true:=fun n h=>AOn;have g01:decide ((0:Int)<((1:Nat):Int))=true/\decide ((1:Int)<((1:Nat):Int))=false/\decide ((0:Int)<((2:Nat):Int))=true/\decide ((1:Int)<((2:Nat):Int))=true/\decide ((2:Int)<((2:Nat):Int))=false:=⟨rfl,rfl,rfl,rfl,rfl⟩;have hz1:(Ag w r1 t.ts).length<=2147483648\/(Ag w r1 t.ts).length<=1099511627776:=.inl APq;refine ACh (fn:=f114) call114 func114 rfl mixed ntmps114 results114 AQs rfl _ (fun _=>Head.openS 8 n0 25) ?_;refine AOf ?_;apply LoopK.once
   .exact AGM
   simp only[go_sem,g01];have hA:Hm w t t.l.length=Ag w r1 t.ts:=by simp[Hm,hl1]
   have hAB:iQ Dn (Ag w r1 t.ts):=hA▸NV hf hL2;have hK:Fz w t=kept w (Ag w r1 t.ts) t.ts:=by rw[Fz,hA]
   have hKB:=QM hf hL2;rw[hK] at hKB ⊢;first | refine ACZ _ _ (InlS.bor (args':=[.agg w.c,.c (.sl ((Ag w r1 t.ts).map DRow.c)),.c (.v (.int .i64 (t.ts)))]) [.own 194 2 ((kept w (Ag w r1 t.ts) t.ts).map DRow.o) true] ⟨Nw (AO rfl (AQ _) (Ad _)) (AO rfl (BC _) (BV _)) (AO rfl (A7 _) (Ar _)) (AO rfl (AQ _) (Ad _)) (AO rfl (Ci _) (Bi _)) (AO rfl (AQ _) (Ad _)) (BorX.set rfl DTask.o_nr DTask.o_er fun x hx=>AOr) (AO rfl (Cb _) (BH _)),AO rfl (Aj _) (D8 _),.inl rfl,trivial⟩ APF (by simpa only[go_sem] using QX w (Ag w r1 t.ts) t.ts hlm hAB)) ?_ | (refine AAR ?_; simp only[go_sem,F,ag,aj,ab,ae,ao,ap]; refine ABz _ _ (InlS.bor (args':=[.agg w.c,.c (.sl ((Ag w r1 t.ts).map DRow.c)),.c (.v (.int .i64 (t.ts)))]) [.own 194 2 ((kept w (Ag w r1 t.ts) t.ts).map DRow.o) true] ⟨Nw (AO rfl (AQ _) (Ad _)) (AO rfl (BC _) (BV _)) (AO rfl (A7 _) (Ar _)) (AO rfl (AQ _) (Ad _)) (AO rfl (Ci _) (Bi _)) (AO rfl (AQ _) (Ad _)) (BorX.set rfl DTask.o_nr DTask.o_er fun x hx=>AOr) (AO rfl (Cb _) (BH _)),AO rfl (Aj _) (D8 _),.inl rfl,trivial⟩ APF (by simpa only[go_sem] using QX w (Ag w r1 t.ts) t.ts hlm hAB)) ?_)
   generalize kept w (Ag w r1 t.ts) t.ts=K at hKB ⊢;simp only[go_sem,F,ag,aj,ab,ae];first | refine ABh (args:=[.c (.sl (w.c0.cols.map intC)),.c (.sl (K.map DRow.c))]) _ AO5 rfl (H9 w.c0.cols K hKB.1) fun _=>?_ | (refine AAP ?_; simp only[go_sem,ag,aj,ab,ae,ao,ap]; refine ACg (args:=[.c (.sl (w.c0.cols.map intC)),.c (.sl (K.map DRow.c))]) _ AO5 rfl (H9 w.c0.cols K hKB.1) ?_)
   rcases q1:DD w.c0.cols K with _ | _
   .rw[aR AOm];simp only[go_sem,ab,ae,ao,ap];refine AA8 (fn:=f207) call207 func207 rfl mixed ntmps207 results207 AQs rfl ?_;simp only[go_sem,ao,ap];refine AA8 (fn:=f264) call264 func264 rfl mixed ntmps264 results264 AQs rfl ?_;simp only[go_sem];first | refine ABh (args:=[.c (.sl (w.b.map DBuf.c)),.c (.v (.int .i64 (t.own-1)))]) _ APG APA (FP w.b (t.own-1) hfbs) fun _=>?_ | (refine AAR ?_; simp only[go_sem,F,ak,hw1,aa,ag,aj,ab,ae,ao,ap]; refine ABj (args:=[.c (.sl (w.b.map DBuf.c)),.c (.v (.int .i64 (t.own-1)))]) _ APG APA (FP w.b (t.own-1) hfbs) ?_)
    simp only[go_sem,F,al,ak,hw1,aa,ag,aj,ab,ae,ao,ap];repeat (refine AAR ?_; simp only[go_sem,F,al,ak,hw1,G,aa,hl1,gx0,gx1,gw1,gw2,g01,ag,aj,ab,ae,ao,ap])
    refine AA8 (fn:=f107) call107 func107 rfl mixed ntmps107 results107 AQs rfl ?_;simp only[go_sem,ao,ap];refine AA8 (fn:=f200) call200 func200 rfl mixed ntmps200 results200 AQs rfl ?_;simp only[go_sem,ao,ap];refine' ACZ _ _ (AB5 (fn:=f210) call210 func210 rfl mixed ntmps210 results210 AQs rfl fun m env=>?_) ?_;rotate_left 2
    .exact ALw
    simp only[go_sem,F,al,ak,aa,aa,ag,aj,ab,ae];repeat (refine AAR ?_; simp only[go_sem,F,al,ak,hw1,G,aa,dm0,dm1,aa,hl1,gx0,gx1,gw1,gw2,g01,ag,aj,ab,ae,ao,ap])
    exact AFA
   rw[aV rfl];have hq1:(t.own-1).toNat=q:=AOl;have hKF:fitS Dn K:=⟨AQN,hKB.2⟩;have hg5:∀ row:List Cl,((w.b.map DBuf.o).set q row)[q]?=some row:=fun row=>aN API;have hsb:(w.b.map DBuf.o).set q (DBuf.o (OJ (Au w.c0.cols K) w.b[q]))=(w.b.modify q (OJ (Au w.c0.cols K))).map DBuf.o:=AQC;simp only[go_sem] at hsb;rw[hq1];have hin1:Ae t.own 1 (w.b.length:Int)=true:=AQQ;simp only[go_sem,F,ag,aj,ab,ae,ao,ap];have hown2:NC w t 2=true:=by exact ALz
   refine AEV (.c (.v (.bool (NC w t 2)))) (InlS.bor (args':=[.agg w.c,.agg t.c,.c (.v (.int .i64 (2)))]) [.val (.c (.v (.bool (NC w t 2))))] ⟨Nw (AO rfl (AQ _) (Ad _)) (AO rfl (BC _) (BV _)) (AO rfl (A7 _) (Ar _)) (AO rfl (AQ _) (Ad _)) (AO rfl (Ci _) (Bi _)) (AO rfl (AQ _) (Ad _)) (BorX.set rfl DTask.o_nr DTask.o_er fun x hx=>AOr) (AO rfl (Cb _) (BH _)),BorR.toL rfl (MW rfl rfl rfl rfl rfl hm hxs),.inl rfl,trivial⟩ rfl (Lc w t 2 hf)) ?_;simp only[go_sem,hown2,ab,ae];refine DrawK.headE (x:=none) (Head.openR 4 q 5 0 _) AQs AQs ?_;refine AOi ?_;refine ABj (args:=[.c (.sl (w.c0.cols.map intC)),.c (.sl (K.map DRow.c))]) _ AO5 AQG (KE w.c0.cols K hKF) ?_;simp only[go_sem,F,al,ak,hw1,G,aa,hg5,ag,aj,ab,ae];repeat (refine AAR ?_; simp only[go_sem,F,al,ak,hw1,G,aa,hg5,hl1,gx0,gx1,gw1,gw2,g01,ag,aj,ab,ae,ao,ap])
   refine EndH.close 8 n0 [11,12,13,14,15] (row':=DTask.o (GI t 5)) rfl (hF _).1 rfl AOu ?_ ?_
   .exact AMV
   simp only[Aa,BR,go_sem,al];refine EndH.close 4 q [21,23] (row':=DBuf.o (OJ (Au w.c0.cols K) w.b[q])) rfl (aN API) rfl AOu ?_ ?_
   .exact AOP
   exact AL3
  .have hxs : [DRef.c r1,DRef.c r2]=t.l.map DRef.c:=by rw[hl1]; rfl
   have gx0:E8 (.c (.v (.int .i64 (0))))=some 0:=BL .i64 0;have gx1:E8 (.c (.v (.int .i64 (1))))=some 1:=BL .i64 1;have gw1:IntKind.i64.wrap (0+1)=1:=rfl;have gw2:IntKind.i64.wrap (1+1)=2:=rfl;have gd0:∀ n:Nat,0<n->decide ((0:Int)<(n:Int))=true:=fun n h=>AOn;have g01:decide ((0:Int)<((1:Nat):Int))=true/\decide ((1:Int)<((1:Nat):Int))=false/\decide ((0:Int)<((2:Nat):Int))=true/\decide ((1:Int)<((2:Nat):Int))=true/\decide ((2:Int)<((2:Nat):Int))=false:=⟨rfl,rfl,rfl,rfl,rfl⟩;have hz1:(Ag w r1 t.ts).length<=2147483648\/(Ag w r1 t.ts).length<=1099511627776:=.inl APq;have hz2:(Ag w r1 t.ts).length+(Ag w r2 t.ts).length<=2147483648\/(Ag w r1 t.ts).length+(Ag w r2 t.ts).length<=1099511627776:=.inl (by have:=(IE w r1 t.ts hf).1; have:=(IE w r2 t.ts hf).1; omega);refine ACh (fn:=f114) call114 func114 rfl mixed ntmps114 results114 AQs rfl _ (fun _=>Head.openS 8 n0 25) ?_;refine AOf ?_;apply LoopK.twice
   .exact AGM
   .simp only[go_sem,gx1,g01,ag,aj,ab,ae];try (refine AAR ?_; simp only[go_sem,F,ag,aj,ab,ae,ao,ap])
    first | refine ABz _ _ (InlS.bor (args':=[.agg w.c,.agg r2.c,.c (.v (.int .i64 (t.ts)))]) [.own 194 2 ((Ag w r2 t.ts).map DRow.o) true] ⟨Nw (AO rfl (AQ _) (Ad _)) (AO rfl (BC _) (BV _)) (AO rfl (A7 _) (Ar _)) (AO rfl (AQ _) (Ad _)) (AO rfl (Ci _) (Bi _)) (AO rfl (AQ _) (Ad _)) (BorX.set rfl DTask.o_nr DTask.o_er fun x hx=>AOr) (AO rfl (Cb _) (BH _)),Jp r2,.inl rfl,trivial⟩ APF (by simpa only[go_sem] using JJ w r2 t.ts hf)) ?_ | refine ACZ _ _ (InlS.bor (args':=[.agg w.c,.agg r2.c,.c (.v (.int .i64 (t.ts)))]) [.own 194 2 ((Ag w r2 t.ts).map DRow.o) true] ⟨Nw (AO rfl (AQ _) (Ad _)) (AO rfl (BC _) (BV _)) (AO rfl (A7 _) (Ar _)) (AO rfl (AQ _) (Ad _)) (AO rfl (Ci _) (Bi _)) (AO rfl (AQ _) (Ad _)) (BorX.set rfl DTask.o_nr DTask.o_er fun x hx=>AOr) (AO rfl (Cb _) (BH _)),Jp r2,.inl rfl,trivial⟩ APF (by simpa only[go_sem] using JJ w r2 t.ts hf)) ?_
    simp only[go_sem,F,aa,gw2,ag,aj,ab,ae,hz2];exact AMq
   simp only[go_sem,g01];have hA:Hm w t t.l.length=Ag w r1 t.ts++Ag w r2 t.ts:=by simp[Hm,hl1]
   have hAB:iQ Dn (Ag w r1 t.ts++Ag w r2 t.ts):=hA▸NV hf hL2;have hK:Fz w t=kept w (Ag w r1 t.ts++Ag w r2 t.ts) t.ts:=by rw[Fz,hA]
   have hKB:=QM hf hL2;rw[hK] at hKB ⊢;first | refine ACZ _ _ (InlS.bor (args':=[.agg w.c,.c (.sl ((Ag w r1 t.ts++Ag w r2 t.ts).map DRow.c)),.c (.v (.int .i64 (t.ts)))]) [.own 194 2 ((kept w (Ag w r1 t.ts++Ag w r2 t.ts) t.ts).map DRow.o) true] ⟨Nw (AO rfl (AQ _) (Ad _)) (AO rfl (BC _) (BV _)) (AO rfl (A7 _) (Ar _)) (AO rfl (AQ _) (Ad _)) (AO rfl (Ci _) (Bi _)) (AO rfl (AQ _) (Ad _)) (BorX.set rfl DTask.o_nr DTask.o_er fun x hx=>AOr) (AO rfl (Cb _) (BH _)),AO rfl (by rw[<- bl]; exact Aj _) (by rw[<- bl]; exact D8 _),.inl rfl,trivial⟩ APF (by simpa only[go_sem] using QX w (Ag w r1 t.ts++Ag w r2 t.ts) t.ts hlm hAB)) ?_ | (refine AAR ?_; simp only[go_sem,F,ag,aj,ab,ae,ao,ap]; refine ABz _ _ (InlS.bor (args':=[.agg w.c,.c (.sl ((Ag w r1 t.ts++Ag w r2 t.ts).map DRow.c)),.c (.v (.int .i64 (t.ts)))]) [.own 194 2 ((kept w (Ag w r1 t.ts++Ag w r2 t.ts) t.ts).map DRow.o) true] ⟨Nw (AO rfl (AQ _) (Ad _)) (AO rfl (BC _) (BV _)) (AO rfl (A7 _) (Ar _)) (AO rfl (AQ _) (Ad _)) (AO rfl (Ci _) (Bi _)) (AO rfl (AQ _) (Ad _)) (BorX.set rfl DTask.o_nr DTask.o_er fun x hx=>AOr) (AO rfl (Cb _) (BH _)),AO rfl (by rw[<- bl]; exact Aj _) (by rw[<- bl]; exact D8 _),.inl rfl,trivial⟩ APF (by simpa only[go_sem] using QX w (Ag w r1 t.ts++Ag w r2 t.ts) t.ts hlm hAB)) ?_)
   generalize kept w (Ag w r1 t.ts++Ag w r2 t.ts) t.ts=K at hKB ⊢;simp only[go_sem,F,ag,aj,ab,ae];first | refine ABh (args:=[.c (.sl (w.c0.cols.map intC)),.c (.sl (K.map DRow.c))]) _ AO5 rfl (H9 w.c0.cols K hKB.1) fun _=>?_ | (refine AAP ?_; simp only[go_sem,ag,aj,ab,ae,ao,ap]; refine ACg (args:=[.c (.sl (w.c0.cols.map intC)),.c (.sl (K.map DRow.c))]) _ AO5 rfl (H9 w.c0.cols K hKB.1) ?_)
   rcases q1:DD w.c0.cols K with _ | _
   .rw[aR AOm];simp only[go_sem,ab,ae,ao,ap];refine AA8 (fn:=f207) call207 func207 rfl mixed ntmps207 results207 AQs rfl ?_;simp only[go_sem,ao,ap];refine AA8 (fn:=f264) call264 func264 rfl mixed ntmps264 results264 AQs rfl ?_;simp only[go_sem];first | refine ABh (args:=[.c (.sl (w.b.map DBuf.c)),.c (.v (.int .i64 (t.own-1)))]) _ APG APA (FP w.b (t.own-1) hfbs) fun _=>?_ | (refine AAR ?_; simp only[go_sem,F,ak,hw1,aa,ag,aj,ab,ae,ao,ap]; refine ABj (args:=[.c (.sl (w.b.map DBuf.c)),.c (.v (.int .i64 (t.own-1)))]) _ APG APA (FP w.b (t.own-1) hfbs) ?_)
    simp only[go_sem,F,al,ak,hw1,aa,ag,aj,ab,ae,ao,ap];repeat (refine AAR ?_; simp only[go_sem,F,al,ak,hw1,G,aa,hl1,gx0,gx1,gw1,gw2,g01,ag,aj,ab,ae,ao,ap])
    refine AA8 (fn:=f107) call107 func107 rfl mixed ntmps107 results107 AQs rfl ?_;simp only[go_sem,ao,ap];refine AA8 (fn:=f200) call200 func200 rfl mixed ntmps200 results200 AQs rfl ?_;simp only[go_sem,ao,ap];refine' ACZ _ _ (AB5 (fn:=f210) call210 func210 rfl mixed ntmps210 results210 AQs rfl fun m env=>?_) ?_;rotate_left 2
    .exact ALw
    simp only[go_sem,F,al,ak,aa,aa,ag,aj,ab,ae];repeat (refine AAR ?_; simp only[go_sem,F,al,ak,hw1,G,aa,dm0,dm1,aa,hl1,gx0,gx1,gw1,gw2,g01,ag,aj,ab,ae,ao,ap])
    exact AFA
   rw[aV rfl];have hq1:(t.own-1).toNat=q:=AOl;have hKF:fitS Dn K:=⟨AQN,hKB.2⟩;have hg5:∀ row:List Cl,((w.b.map DBuf.o).set q row)[q]?=some row:=fun row=>aN API;have hsb:(w.b.map DBuf.o).set q (DBuf.o (OJ (Au w.c0.cols K) w.b[q]))=(w.b.modify q (OJ (Au w.c0.cols K))).map DBuf.o:=AQC;simp only[go_sem] at hsb;rw[hq1];have hin1:Ae t.own 1 (w.b.length:Int)=true:=AQQ;simp only[go_sem,F,ag,aj,ab,ae,ao,ap];have hown2:NC w t 2=true:=by exact ALz
   refine AEV (.c (.v (.bool (NC w t 2)))) (InlS.bor (args':=[.agg w.c,.agg t.c,.c (.v (.int .i64 (2)))]) [.val (.c (.v (.bool (NC w t 2))))] ⟨Nw (AO rfl (AQ _) (Ad _)) (AO rfl (BC _) (BV _)) (AO rfl (A7 _) (Ar _)) (AO rfl (AQ _) (Ad _)) (AO rfl (Ci _) (Bi _)) (AO rfl (AQ _) (Ad _)) (BorX.set rfl DTask.o_nr DTask.o_er fun x hx=>AOr) (AO rfl (Cb _) (BH _)),BorR.toL rfl (MW rfl rfl rfl rfl rfl hm hxs),.inl rfl,trivial⟩ rfl (Lc w t 2 hf)) ?_;simp only[go_sem,hown2,ab,ae];refine DrawK.headE (x:=none) (Head.openR 4 q 5 0 _) AQs AQs ?_;refine AOi ?_;refine ABj (args:=[.c (.sl (w.c0.cols.map intC)),.c (.sl (K.map DRow.c))]) _ AO5 AQG (KE w.c0.cols K hKF) ?_;simp only[go_sem,F,al,ak,hw1,G,aa,hg5,ag,aj,ab,ae];repeat (refine AAR ?_; simp only[go_sem,F,al,ak,hw1,G,aa,hg5,hl1,gx0,gx1,gw1,gw2,g01,ag,aj,ab,ae,ao,ap])
   refine EndH.close 8 n0 [11,12,13,14,15] (row':=DTask.o (GI t 5)) rfl (hF _).1 rfl AOu ?_ ?_
   .exact AMV
   simp only[Aa,BR,go_sem,al];refine EndH.close 4 q [24,26] (row':=DBuf.o (OJ (Au w.c0.cols K) w.b[q])) rfl (aN API) rfl AOu ?_ ?_
   .exact AOP
   exact AL3
 exact AM5
