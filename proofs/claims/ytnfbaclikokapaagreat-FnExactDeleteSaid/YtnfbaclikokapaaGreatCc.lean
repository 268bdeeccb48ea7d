/- A part. -/
import Derived.Test.YtnfbaclikokapaaGreatCa
import Derived.Test.YtnfbaclikokapaaGreatZh
set_option linter.unusedSimpArgs false
set_option linter.unusedVariables false
set_option maxHeartbeats 4000000
set_option maxRecDepth 10000
open Go.Proofs.Tryz
namespace Go.Proofs.YtnfbaclikokapaaGreat
open Go.Vm
theorem XW (w:DWorld) (k:Int) (hw0:EU w=true):Ctr prog 121 [.agg w.c,.c (.v (.int .i64 (k)))] [.val (.c (.v (.bool (L_ w k))))]:=by
 have hl:=KQ hw0
 refine CM call121 func121 ntmps121 results121 fun hw=>?_
 unfold L_
 simp only[go_sem]
 try refine DrawK.mk ?_
 try simp only[go_sem]
 first | refine CallF.mk _ (AC k 0 2) ?_ | refine CallK.mk _ (AC k 0 2) fun _=>?_
 rcases h1:Ac k 0 2 with _ | _
 ·simp only[go_sem,h1,ag]
 obtain⟨n,rfl,hn⟩:=gI h1 (by omega)
 have h2:n<w.tasks.length:=by omega
 have h3:n<w.p.length:=by omega
 have e:opAt w (n:Int)=w.tasks[n].op:=by simp[opAt,h2]
 have d2:decide ((n:Int)<(w.tasks.length:Int))=true:=by simp; omega
 have d3:decide ((n:Int)<(w.p.length:Int))=true:=by simp; omega
 simp only[go_sem,h1,ae,h2,h3,d2,d3,AA _ h2,e,ai]
 try refine DrawK.mk ?_
 try simp only[go_sem,ae,h2,h3,d2,d3,AA _ h2]
 first | refine CY (Oq w.tasks[n]) ?_ | refine CW (Oq w.tasks[n]) fun _=>?_
 rcases h4:w.tasks[n].op==0 with _ | _
 ·simp only[go_sem,h4,ag,ae,h2,h3,AA _ h2]
 simp only[go_sem,h4,ae,h2,h3,AA _ h2,ai]
 try refine DrawK.mk ?_
 try simp only[go_sem,ae,h2,h3,h4,AA _ h2]
 first | refine CY (WV w) ?_ | refine CW (WV w) fun _=>?_
 rw[zn hw0]
 rcases h5:uu w with _ | _<;>simp only[go_sem,h5,ae,h2,h3,AA _ h2,aQ,aO]
theorem nrZ {a1 a2 a3 a4 a5 a6 a7 a8 a9 b1 b2 b3 b4 b5 b6 b7 b8 b9:Int} {t1 t2:ByteArray} {c1:Bool} {n1 n2 n3 n4:Value}:Df [[Cl.v (.int .i64 a1),Cl.v (.int .i64 a2),.v n1,Cl.v (.int .i64 a3),Cl.v (.int .i64 a5),Cl.v (.int .i64 a6),Cl.v (.int .i64 a7),Cl.v (.int .i64 a8),Cl.v (.int .i64 a9),Cl.v (.int .i64 b1),Cl.v (.string t1),.v n2,Cl.v (.int .i64 b2),.v n3,.v n4,Cl.v (.int .i64 b3),Cl.v (.bool c1),Cl.v (.int .i64 b4),Cl.v (.int .i64 b5),Cl.v (.string t2),Cl.v (.int .i64 b6),Cl.v (.int .i64 b7),Cl.v (.int .i64 b8),Cl.v (.int .i64 b9),Cl.v (.int .i64 a4)]]=true:=rfl
theorem gK (w:DWorld) (k id:Int) (hf:Aa w):Ctr prog 9 [.agg w.c,.c (.v (.int .i64 (k))),.c (.v (.int .i64 (id)))] [.agg (Du w k id).o,.val (.c (.v (.bool (Fb w k))))]:=by
 refine Ctr.mkH call9 func9 rfl mixed ntmps9 results9 (by kernel_rfl) rfl fun hw=>?_
 simp only[go_sem]
 refine CW (Z9 w hf) fun _=>?_
 rcases h1:EU w with _ | _
 ·have e1:Fb w k=false:=by simp only[Fb,h1]; rfl
  have e2:Du w k id=w:=by simp[Du,e1]
  simp only[go_sem,h1,e1,e2,aO]
  try refine DrawK.mkE ?_
  try simp only[go_sem]
  refine CW (IQ w hf) fun _=>?_
  simp only[go_sem]
  exact EndH.self (by simp only[go_sem]; simp[AU,AO])
 simp only[go_sem,h1,aQ]
 refine InlK.mk (fn:=f46) call46 func46 rfl mixed ntmps46 results46 (by kernel_rfl) rfl ?_
 simp only[go_sem]
 refine CW (XW w k h1) fun _=>?_
 rcases h2:L_ w k with _ | _
 ·have e1:Fb w k=false:=by simp only[Fb,h1,h2]; rfl
  have e2:Du w k id=w:=by simp[Du,e1]
  simp only[go_sem,h2,e1,e2,aO]
  try refine DrawK.mkE ?_
  try simp only[go_sem]
  refine CW (IQ w hf) fun _=>?_
  simp only[go_sem]
  exact EndH.self (by simp only[go_sem]; simp[AU,AO])
 have e1:Fb w k=true:=by simp only[Fb,h1,h2]; rfl
 have e2:Du w k id=QS w k id:=by simp[Du,e1]
 obtain⟨n,rfl,hn,hlt,hlp,hz,hld⟩:=VX hf h1 (by simp only[L_,ak] at h2; simp only[ak]; exact⟨h2.1,h2.2.1⟩)
 simp only[go_sem,h2,e1,e2,aQ]
 unfold QS
 have hsp:∀ x,(w.p.map intC).set n [.v (.int .i64 x)]=(w.p.set n x).map intC:=fun x=>aa6.symm
 have h40:((4:Int) != 0)=true:=rfl
 rcases h5:decide (id<0) with _ | _
 ·simp only[go_sem,h5]
  refine InlK.mk (fn:=f122) call122 func122 rfl mixed ntmps122 results122 (by kernel_rfl) rfl ?_
  simp only[go_sem]
  refine CW (IQ w hf) fun _=>?_
  simp only[go_sem,ae,bu,aW,bU,X5,Zj,au,hlt,hlp,hld,nrZ,hsp,h40,W_,AA _ hlt,AA _ hlp,DTask.o_eq w.tasks[n]]
  repeat (refine DrawK.mkE ?_; simp only[go_sem,ae,bu,aW,bU,X5,Zj,au,hlt,hlp,hld,nrZ,hsp,h40,W_,AA _ hlt,AA _ hlp,DTask.o_eq w.tasks[n]])
  refine EndH.close 14 n [] (row':=DTask.o (Ky w (Ap id))) rfl (abv (by simpa using hlt)) rfl (by decide) ?_ ?_
  ·simp only[go_sem,DTask.o_eq,DQuery.o_eq,DPred.o_eq,Ky,Ap]
   simp[AO,Ih,Me,DPred.kind,DPred.col,DPred.op,DPred.v,DPred.l]
  simp only[Ee,Q3,go_sem,cu]
  refine EndH.close 18 (w.deeds.map DDeed.o).length [] (row':=DDeed.o (SN w n (Ap id) (B_ id))) rfl abm rfl (by decide) ?_ ?_
  ·simp only[go_sem,DDeed.o_eq,DQuery.o_eq,DPred.o_eq,DResult.o_eq,SN,B_,Ap]
   simp[AO,Ih,Me,NC,DPred.kind,DPred.col,DPred.op,DPred.v,DPred.l]
  simp only[Ee,Q3,go_sem,BJ]
  refine EndH.self ?_
  have e3:w.deeds.map DDeed.o ++ [DDeed.o (SN w n (Ap id) (B_ id))]=(w.deeds ++ [SN w n (Ap id) (B_ id)]).map DDeed.o:=by simp
  have e4:Je w n (Ap id) (B_ id) 0=⟨w.c0,IntKind.i64.wrap (w.time+1),w.t,w.e,w.d,w.b,w.m,w.x,w.p,w.tasks.set n (Ky w (Ap id)),w.deeds ++ [SN w n (Ap id) (B_ id)]⟩:=by simp[Je]; rfl
  have e5:(w.tasks.map DTask.o).set n (DTask.o (Ky w (Ap id)))=(w.tasks.set n (Ky w (Ap id))).map DTask.o:=aa6.symm
  simp only[go_sem] at e3 e5
  simp only[go_sem,e3,e4,e5]
  simp[AO]
  rfl
 simp only[go_sem,h5]
 refine InlK.mk (fn:=f122) call122 func122 rfl mixed ntmps122 results122 (by kernel_rfl) rfl ?_
 simp only[go_sem]
 refine CW (IQ w hf) fun _=>?_
 simp only[go_sem,ae,bu,aW,bU,X5,Zj,au,hlt,hlp,hld,nrZ,hsp,h40,W_,AA _ hlt,AA _ hlp,DTask.o_eq w.tasks[n]]
 repeat (refine DrawK.mkE ?_; simp only[go_sem,ae,bu,aW,bU,X5,Zj,au,hlt,hlp,hld,nrZ,hsp,h40,W_,AA _ hlt,AA _ hlp,DTask.o_eq w.tasks[n]])
 refine EndH.close 18 (w.deeds.map DDeed.o).length [] (row':=DDeed.o (GZ w n)) rfl abm rfl (by decide) ?_ ?_
 ·simp only[go_sem,DDeed.o_eq,DQuery.o_eq,DPred.o_eq,DResult.o_eq,GZ]
  simp[AO,Ih,Me,NC,DPred.kind,DPred.col,DPred.op,DPred.v,DPred.l]
 simp only[Ee,Q3,go_sem,BJ]
 refine EndH.self ?_
 have e3:w.deeds.map DDeed.o ++ [DDeed.o (GZ w n)]=(w.deeds ++ [GZ w n]).map DDeed.o:=by simp
 have e4:Je w n (Ap 0) (B_ (-1)) 4=⟨w.c0,IntKind.i64.wrap (w.time+1),w.t,w.e,w.d,w.b,w.m,w.x,w.p.set n (-1),w.tasks,w.deeds ++ [GZ w n]⟩:=by simp[Je,Ap,B_,GZ]
 simp only[go_sem] at e3
 simp only[go_sem,e3,e4]
 simp[AO]
 try rfl
end Go.Proofs.YtnfbaclikokapaaGreat
namespace Go.Vm
theorem Ctr.fz2 {P:Program} {f:FuncId} {args:List AV} {cl ys:List Cl} {v:AV} (h:Ctr P f args [.agg cl,.val v]) (he:J_ cl=ys):Ctr P f args [.val (.agg ys),.val v]:=by
 subst he
 exact h.frz
end Go.Vm
namespace Go.Proofs.YtnfbaclikokapaaGreat
open Go.Vm
theorem dE {w:DWorld} {n:Nat} {t:DTask} {d:DDeed} {code:Int} (h00:0≤Il w 1048576) (hw:EU w=true) (ht:Ef t) (hd:ED d) (ct:∀ k,FQ k (Ky w t)≤k+67108928) (cd:∀ (k a b c e f:Int),Em k ⟨a,n,d.r,d.id,d.q,d.res,b,d.stamp,c,e,f⟩≤k+67108928):Aa (Je w n t d code)∧FX 1 (Je w n t d code)≤4000000000000000000:=by
 obtain⟨g1,g2,g3,g4⟩:=lK h00
 have hf:=(PK w 1048576 h00 (by omega)).1
 have hl:=(KQ hw).1
 have hf0:=hf
 rw[BI] at hf
 obtain⟨f1,f2,f3,f4,f5,f6,f7,f8⟩:=hf
 have htf:Ef (Ky w t):=by rw[Di] at ht ⊢; exact ht
 have hd':∀ (a b c e f:Int),ED ⟨a,n,d.r,d.id,d.q,d.res,b,d.stamp,c,e,f⟩:=fun a b c e f=>by rw[FP] at hd ⊢; exact hd
 have hT:fitS Ef (w.tasks.set n (Ky w t)):=⟨by simpa using f7.1,fun x hx=>by
  rcases aaH hx with h | h
  ·exact f7.2 x h
  ·rw[h]; exact htf⟩
 have hT2:∀ x∈w.tasks.set n (Ky w t),∀ k,FQ k x≤k+67108928:=fun x hx=>by
  rcases aaH hx with h | h
  ·exact g3 x h
  ·rw[h]; exact ct
 have hD:∀ x,ED x→fitS ED (w.deeds ++ [x]):=fun x hx=>⟨by simp; omega,fun y hy=>by
  rcases yU.1 hy with h | h
  ·exact f8.2 y h
  ·rw[aaT.1 h]; exact hx⟩
 have hD2:∀ x,(∀ k,Em k x≤k+67108928)→∀ y∈w.deeds ++ [x],∀ k,Em k y≤k+67108928:=fun x hx y hy=>by
  rcases yU.1 hy with h | h
  ·exact g4 y h
  ·rw[aaT.1 h]; exact hx
 unfold Je
 split
 ·have hx:Aa ⟨w.c0,IntKind.i64.wrap (w.time+1),w.t,w.e,w.d,w.b,w.m,w.x,w.p,w.tasks.set n (Ky w t),w.deeds ++ [⟨t.op,n,d.r,d.id,d.q,d.res,d.code,d.stamp,w.time,-1,-1⟩]⟩:=by
   rw[BI]; exact⟨f1,f2,f3,f4,f5,f6,hT,hD _ (hd' _ _ _ _ _)⟩
  exact⟨hx,rE _ hx g2 hT2 (hD2 _ fun k=>cd k _ _ _ _ _)⟩
 ·have hx:Aa ⟨w.c0,IntKind.i64.wrap (w.time+1),w.t,w.e,w.d,w.b,w.m,w.x,w.p.set n (-1),w.tasks,w.deeds ++ [⟨t.op,n,d.r,d.id,d.q,d.res,code,d.stamp,w.time,w.time,w.time⟩]⟩:=by
   rw[BI]; exact⟨f1,f2,f3,f4,f5,by simpa using f6,f7,hD _ (hd' _ _ _ _ _)⟩
  exact⟨hx,rE _ hx g2 g3 (hD2 _ fun k=>cd k _ _ _ _ _)⟩
theorem rG (w:DWorld) (k id:Int) (h00:0≤Il w 1048576):Aa (Du w k id)∧FX 1 (Du w k id)≤4000000000000000000:=by
 have hf:=(PK w 1048576 h00 (by omega)).1
 unfold Du
 split
 ·rename_i h
  have hw:EU w=true:=by simp only[Fb,ak] at h; exact h.1
  unfold QS
  split
  ·exact dE h00 hw (ACD w 0) (vO w 0 (Ap 0) (-1)) (fun k=>by simp only[LD,LV,BQ,D5,Ei,Ag,Ky,Ap,Ih,Me,DPred.l,Dz]; omega) fun k a b c e f=>by simp only[LG,Af,G8,Ej,Ah,B_,Ih,Me,NC,DPred.l,Dz]; omega
  ·exact dE h00 hw (ACD w id) (vO w 0 (Ap 0) id) (fun k=>by simp only[LD,LV,BQ,D5,Ei,Ag,Ky,Ap,Ih,Me,DPred.l,Dz]; omega) fun k a b c e f=>by simp only[LG,Af,G8,Ej,Ah,B_,Ih,Me,NC,DPred.l,Dz]; omega
 ·obtain⟨_,g2,g3,g4⟩:=lK h00
  exact⟨hf,rE w hf g2 g3 g4⟩
theorem XX (w:DWorld) (k id:Int):Ctr prog 3 [.agg w.c,.c (.v (.int .i64 (k))),.c (.v (.int .i64 (id)))] [.val (.c (.v (.bool (true))))]:=by
 refine CM call3 func3 ntmps3 results3 fun hw=>?_
 simp only[go_sem]
 refine CW (iH w 1048576 (by omega)) fun _=>?_
 simp only[go_sem]
 refine cndC.mk (fun h=>?_) (fun h=>?_)
 ·simp only[go_sem]
 have h00:0≤Il w 1048576:=by simp at h; omega
 obtain⟨hf,hle⟩:=PK w 1048576 h00 (by omega)
 obtain⟨hf2,hb2⟩:=rG w k id h00
 have hs:Ctr prog 7 [.agg w.c,.c (.v (.int .i64 (k))),.c (.v (.int .i64 (id)))] [.val (.agg (Du w k id).c),.val (.c (.v (.bool (Fb w k))))]:=(gJ w k id hf).fz2 (Du w k id).o_er
 have hi:=gK w k id hf
 generalize Du w k id=X at *
 generalize Fb w k=b at *
 have hb1:=sG w 1 1048576 h00 (by omega)
 have hl1:=Xw 1 w
 have hl2:=Xw 1 X
 have hn1:decide (FX 1 w<0)=false:=by simp; omega
 have hn2:decide (FX 1 X<0)=false:=by simp; omega
 have e0:∀ b:Bool,(!(b==b))=false:=fun b=>by cases b<;>rfl
 simp only[go_sem]
 first | refine CW (GN w hf) fun _=>?_ | refine CZ (GN w hf) ?_ | (refine DrawK.mkE ?_; simp only[go_sem]; refine CZ (GN w hf) ?_)
 simp only[go_sem]
 first | refine CW (hs) fun _=>?_ | refine CZ (hs) ?_ | (refine DrawK.mkE ?_; simp only[go_sem]; refine CZ (hs) ?_)
 simp only[go_sem]
 refine CW (X3 w hf) fun _=>?_
 simp only[go_sem]
 first | refine BorK.mk (args:=[.agg w.c,.c (.v (.int .i64 (k))),.c (.v (.int .i64 (id)))]) [.agg X.o,.val (.c (.v (.bool (b))))] (by simp only[KY,Iz,Iw,KZ,NE,HY]; rfl) (by simp only[bK,Pi,Rf,dm,aS]) hi fun _=>?_ | (refine DrawK.mkE ?_; simp only[go_sem]; refine BorE.mk (args:=[.agg w.c,.c (.v (.int .i64 (k))),.c (.v (.int .i64 (id)))]) [.agg X.o,.val (.c (.v (.bool (b))))] (by simp only[KY,Iz,Iw,KZ,NE,HY]; rfl) (by simp only[bK,Pi,Rf,dm,aS]) hi ?_)
 simp only[go_sem]
 refine BorK.mk (args:=[.agg X.c,.agg X.c]) _ (by simp only[KY,Iz,Iw,KZ,NE,HY,go_sem]) rfl (KU _) fun _=>?_
 simp only[go_sem,e0]
 refine DrawK.mk ?_
 simp only[go_sem]
 refine CY (GN w hf) ?_
 simp only[go_sem]
 refine BorF.mk (args:=[.agg w.c,.agg w.c]) _ (by simp only[KY,Iz,Iw,KZ,NE,HY,go_sem]) rfl (KU w) ?_
 simp only[go_sem]
 refine MutK.mk true (zs:=[.ref 2,.v (.int .i64 w.c0.slots),.v (.int .i64 w.c0.bufs),.v (.int .i64 w.time),.v (.int .i64 w.t),.v (.int .i64 w.e),.v (.int .i64 w.d.ver),.ref 3,.ref 4,.ref 5,.ref 6,.ref 7,.ref 8,.ref 9])
  (cl:=[.ow 3 1 (w.c0.cols.map intC),.v (.int .i64 w.c0.slots),.v (.int .i64 w.c0.bufs),.v (.int .i64 w.time),.v (.int .i64 w.t),.v (.int .i64 w.e),.v (.int .i64 w.d.ver),.ow 196 5 (w.d.l.map DRef.c),.ow 160 5 (w.b.map DBuf.o),.ow 3 1 (w.m.map intC),.ow 163 3 (w.x.map DDead.c),.ow 3 1 (w.p.map intC),.ow 142 25 (w.tasks.map DTask.o),.ow 153 25 (w.deeds.map DDeed.o)])
  (TN w 1 (by omega) hf (by omega)) rfl ⟨rfl,rfl,rfl,rfl,Am _,by simp,rfl,rfl,rfl,rfl,rfl,rfl,rfl,rfl,rfl,rfl,rfl,rfl,rfl,rfl,rfl,rfl,ER _,by simp,rfl,rfl,rfl,rfl,DY _,by simp,rfl,rfl,rfl,rfl,Am _,by simp,rfl,rfl,rfl,rfl,Jh _,by simp,rfl,rfl,rfl,rfl,Am _,by simp,rfl,rfl,rfl,rfl,FZ _,by simp,rfl,rfl,rfl,rfl,Iy _,by simp,trivial⟩ rfl (.inl rfl) fun cl' rs hM=>?_
 obtain⟨rfl,rfl⟩:=hM
 refine⟨⟨rfl,⟨rfl,rfl⟩,rfl,rfl,rfl,rfl,rfl,rfl,⟨rfl,rfl⟩,⟨rfl,rfl⟩,⟨rfl,rfl⟩,⟨rfl,rfl⟩,⟨rfl,rfl⟩,⟨rfl,rfl⟩,⟨rfl,rfl⟩,trivial⟩, ?_⟩
 simp only[go_sem,hn1]
 refine BorK.mk (args:=[.agg X.c,.agg X.c]) _ (by simp only[KY,Iz,Iw,KZ,NE,HY,go_sem]) rfl (KU _) fun _=>?_
 simp only[go_sem,hn1,e0]
 refine MutK.mk true (zs:=[.ref 11,.v (.int .i64 X.c0.slots),.v (.int .i64 X.c0.bufs),.v (.int .i64 X.time),.v (.int .i64 X.t),.v (.int .i64 X.e),.v (.int .i64 X.d.ver),.ref 12,.ref 13,.ref 14,.ref 15,.ref 16,.ref 17,.ref 18])
  (cl:=[.ow 3 1 (X.c0.cols.map intC),.v (.int .i64 X.c0.slots),.v (.int .i64 X.c0.bufs),.v (.int .i64 X.time),.v (.int .i64 X.t),.v (.int .i64 X.e),.v (.int .i64 X.d.ver),.ow 196 5 (X.d.l.map DRef.c),.ow 160 5 (X.b.map DBuf.o),.ow 3 1 (X.m.map intC),.ow 163 3 (X.x.map DDead.c),.ow 3 1 (X.p.map intC),.ow 142 25 (X.tasks.map DTask.o),.ow 153 25 (X.deeds.map DDeed.o)])
  (TN X 1 (by omega) hf2 (by omega)) rfl ⟨rfl,rfl,rfl,rfl,Am _,by simp,rfl,rfl,rfl,rfl,rfl,rfl,rfl,rfl,rfl,rfl,rfl,rfl,rfl,rfl,rfl,rfl,ER _,by simp,rfl,rfl,rfl,rfl,DY _,by simp,rfl,rfl,rfl,rfl,Am _,by simp,rfl,rfl,rfl,rfl,Jh _,by simp,rfl,rfl,rfl,rfl,Am _,by simp,rfl,rfl,rfl,rfl,FZ _,by simp,rfl,rfl,rfl,rfl,Iy _,by simp,trivial⟩ rfl (.inl rfl) fun cl' rs hM=>?_
 obtain⟨rfl,rfl⟩:=hM
 refine⟨⟨rfl,⟨rfl,rfl⟩,rfl,rfl,rfl,rfl,rfl,rfl,⟨rfl,rfl⟩,⟨rfl,rfl⟩,⟨rfl,rfl⟩,⟨rfl,rfl⟩,⟨rfl,rfl⟩,⟨rfl,rfl⟩,⟨rfl,rfl⟩,trivial⟩, ?_⟩
 simp only[go_sem]
 refine BorK.mk (args:=[.agg (QZ 1 X).c,.c (.v (.int .i64 1))]) _ (by simp only[KY,Iz,Iw,KZ,NE,HY,go_sem]; rfl) rfl (PR X 1 (by omega) hf2 (by omega)) fun _=>?_
 simp only[go_sem,hn2,au]
 first | refine CW (GN w hf) fun _=>?_ | refine CZ (GN w hf) ?_ | (refine DrawK.mkE ?_; simp only[go_sem]; refine CZ (GN w hf) ?_)
 simp only[go_sem]
 first | refine CW (hi) fun _=>?_ | refine CZ (hi) ?_ | (refine DrawK.mkE ?_; simp only[go_sem]; refine CZ (hi) ?_)
 simp only[go_sem]
 refine BorK.mk (args:=[.agg X.c,.agg X.c]) _ (by simp only[KY,Iz,Iw,KZ,NE,HY,go_sem]) rfl (KU _) fun _=>?_
 simp only[go_sem,e0]
 refine BorK.mk (args:=[.agg (QZ 1 X).c,.c (.v (.int .i64 1))]) _ (by simp only[KY,Iz,Iw,KZ,NE,HY,go_sem]; rfl) rfl (PR X 1 (by omega) hf2 (by omega)) fun _=>?_
 simp only[go_sem,hn2,au]
end Go.Proofs.YtnfbaclikokapaaGreat
