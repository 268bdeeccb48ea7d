/- A part. -/
import Derived.Test.YthmifbbmgnhddaaGreatIa
import Derived.Test.YthmifbbmgnhddaaGreatCs
import Derived.Test.YthmifbbmgnhddaaGreatXb
set_option linter.unusedSimpArgs false
set_option linter.unusedVariables false
set_option maxHeartbeats 8000000
set_option maxRecDepth 10000
namespace Go.Vm
section
variable {p q r:Prop}
theorem ASn(h:p:=by kernel_rfl):p:=h
end
theorem Ctr.fz2 {P:Program} {f:FuncId} {args:List AV} {cl ys:List Cl} {v:AV} (h:Ctr P f args [.agg cl,.val v]) (he:Lu cl=ys):Ctr P f args [.val (.agg ys),.val v]:=by
 subst he
 exact h.frz
end Go.Vm
open Go.Proofs.Tryz
namespace Go.Proofs.YthmifbbmgnhddaaGreat
open Go.Vm
theorem dG {α:Type} {f:α→Int→Int}:∀ (xs:List α) (_:∀ x∈xs,∀ l,0≤f x l→l≤1048576→f x l≤l) (l:Int),0≤Z5 f xs l→l≤1048576→∀ x∈xs,∃ l',l'≤1048576∧0≤f x l'
 | [],_,_,_,_,_,h=>ARa
 | y::ys,hf,l,h0,hl,x,hx=>by
  simp only[Z5] at h0
  obtain⟨h1,h2,h3⟩:=Aa h0
  rcases Rx.1 hx with rfl | hx
  ·exact⟨l,hl,h1⟩
  ·exact dG ys (fun z hz=>hf z (by simp[hz])) _ h2 (by have:=hf y AQ3 l h1 hl; omega) x hx
theorem ACG {α:Type} {f:α→Int→Int} (xs:List α) (hf:∀ x∈xs,∀ l,0≤f x l→l≤1048576→f x l≤l) {l:Int} (h:0≤DD f xs l) (hl:l≤1048576):DD f xs l≤l-xs.length:=by
 unfold DD at h ⊢
 obtain⟨a1,b1,c1⟩:=Aa h
 have h3:¬ l-xs.length<0:=by intro h3; rw[AHO h3] at a1; omega
 rw[c1]
 have c2:=(qL xs (F:=fun _=>True) (fun x hx l a b=>⟨trivial,hf x hx l a b⟩) _ b1 (by rw[ACM h3]; omega)).2
 rw[ACM h3] at c2 ⊢
 exact c2
theorem AHK {xs:List DBuf} {l:Int} (h0:0≤DD Iy xs l) (hl:l≤1048576):∀ x∈xs,∀ k,KO k x≤k+67108928:=fun x hx k=>by
 unfold DD at h0
 obtain⟨h1,h2,_⟩:=Aa h0
 obtain⟨l',g1,g2⟩:=dG xs (fun x _ l a b=>(Pz x l a b).2) _ h2 (by have:=(C9 h1 hl).2; omega) x hx
 have:=wM x k l' g2 g1
 omega
theorem AFE {xs:List DTask} {l:Int} (h0:0≤DD I4 xs l) (hl:l≤1048576):∀ x∈xs,∀ k,G5 k x≤k+67108928:=fun x hx k=>by
 unfold DD at h0
 obtain⟨h1,h2,_⟩:=Aa h0
 obtain⟨l',g1,g2⟩:=dG xs (fun x _ l a b=>(OL x l a b).2) _ h2 (by have:=(C9 h1 hl).2; omega) x hx
 have:=UL x k l' g2 g1
 omega
theorem AFF {xs:List DDeed} {l:Int} (h0:0≤DD Jv xs l) (hl:l≤1048576):∀ x∈xs,∀ k,GY k x≤k+67108928:=fun x hx k=>by
 unfold DD at h0
 obtain⟨h1,h2,_⟩:=Aa h0
 obtain⟨l',g1,g2⟩:=dG xs (fun x _ l a b=>(OM x l a b).2) _ h2 (by have:=(C9 h1 hl).2; omega) x hx
 have:=UN x k l' g2 g1
 omega
theorem fA {w:DWorld} (h0:0≤ER w 1048576):w.deeds.length+w.tasks.length≤1048576∧(∀ x∈w.b,∀ k,KO k x≤k+67108928)∧(∀ x∈w.tasks,∀ k,G5 k x≤k+67108928)∧(∀ x∈w.deeds,∀ k,GY k x≤k+67108928):=by
 rw[QY] at h0
 obtain⟨a0,b0,_⟩:=Aa h0
 have w0:=(VQ w.c0 _ a0 AQ2).2
 obtain⟨a1,b1,_⟩:=Aa b0
 have w1:=(YB w.d _ a1 AQ2).2
 obtain⟨a2,b2,_⟩:=Aa b1
 have w2:=(Dk w.b (fun x _=>Pz x) a2 AQ2).2
 obtain⟨a3,b3,_⟩:=Aa b2
 have w3:=(C9 a3 AQ2).2
 obtain⟨a4,b4,_⟩:=Aa b3
 have w4:=(C9 a4 AQ2).2
 obtain⟨a5,b5,_⟩:=Aa b4
 have w5:=(C9 a5 AQ2).2
 obtain⟨a6,b6,_⟩:=Aa b5
 have w6:=ACG w.tasks (fun x _ l a b=>(OL x l a b).2) a6 AQ2
 obtain⟨a7,b7,_⟩:=Aa b6
 have w7:=ACG w.deeds (fun x _ l a b=>(OM x l a b).2) a7 AQ2
 exact⟨AQ2,AHK a2 AQ2,AFE a6 AQ2,AFF a7 AQ2⟩
theorem pq (w:DWorld) (hf:AZ w) (hb:∀ x∈w.b,∀ k,KO k x≤k+67108928) (ht:∀ x∈w.tasks,∀ k,G5 k x≤k+67108928) (hd:∀ x∈w.deeds,∀ k,GY k x≤k+67108928):DV 1 w≤4000000000000000000:=by
 rw[Ai,Es,LM] at hf
 obtain⟨f1,f2,f3,f4,f5,f6,f7,f8⟩:=hf
 have f3:=f3.1
 have f7:=f7.1
 have f8:=f8.1
 have g1:H9 1 w≤1+w.c0.cols.length*64:=Ib (c:=NH) 64 AQ2 w.c0.cols (fun x _ k=>PZ k x) 1
 have g2:H_ 1 w≤H9 1 w+w.d.l.length*64:=Ib (c:=Jf) 64 AQ2 w.d.l (fun x _ k=>gV k x) _
 have g3:IA 1 w≤H_ 1 w+w.b.length*67108928:=Ib (c:=KO) 67108928 AQ2 w.b hb _
 have g4:IB 1 w≤IA 1 w+w.m.length*64:=Ib (c:=NH) 64 AQ2 w.m (fun x _ k=>PZ k x) _
 have g5:IC 1 w≤IB 1 w+w.x.length*64:=Ib (c:=JV) 64 AQ2 w.x (fun x _ k=>nO k x) _
 have g6:IE 1 w≤IC 1 w+w.p.length*64:=Ib (c:=NH) 64 AQ2 w.p (fun x _ k=>PZ k x) _
 have g7:IG 1 w≤IE 1 w+w.tasks.length*67108928:=Ib (c:=G5) 67108928 AQ2 w.tasks ht _
 have g8:Np 1 w≤IG 1 w+w.deeds.length*67108928:=Ib (c:=GY) 67108928 AQ2 w.deeds hd _
 show Np 1 w≤_
 omega
theorem nD {w:DWorld} {n:Nat} {t:DTask} {d:DDeed} {code:Int} (h00:0≤ER w 1048576) (hw:D_ w=true) (ht:Ff t) (hd:C_ d) (ct:∀ k,G5 k (Hg w t)≤k+67108928) (cd:∀ (k a b c e f:Int),GY k ⟨a,n,d.r,d.id,d.q,d.res,b,d.stamp,c,e,f⟩≤k+67108928):AZ (FQ w n t d code)∧DV 1 (FQ w n t d code)≤4000000000000000000:=by
 obtain⟨g1,g2,g3,g4⟩:=fA h00
 have hf:=(J8 w 1048576 h00 AQ2).1
 have hl:=(Nh hw).1
 have hf0:=hf
 rw[Ai] at hf
 obtain⟨f1,f2,f3,f4,f5,f6,f7,f8⟩:=hf
 have htf:Ff (Hg w t):=by rw[ED] at ht ⊢; exact ht
 have hd':∀ (a b c e f:Int),C_ ⟨a,n,d.r,d.id,d.q,d.res,b,d.stamp,c,e,f⟩:=fun a b c e f=>by rw[ES] at hd ⊢; exact hd
 have hT:fitS Ff (w.tasks.set n (Hg w t)):=⟨by simpa using f7.1,fun x hx=>by
  rcases abd hx with h | h
  ·exact f7.2 x h
  ·rw[h]; exact htf⟩
 have hT2:∀ x∈w.tasks.set n (Hg w t),∀ k,G5 k x≤k+67108928:=fun x hx=>by
  rcases abd hx with h | h
  ·exact g3 x h
  ·rw[h]; exact ct
 have hD:∀ x,C_ x→fitS C_ (w.deeds ++ [x]):=fun x hx=>⟨AQ5,fun y hy=>by
  rcases lN.1 hy with h | h
  ·exact f8.2 y h
  ·rw[aay.1 h]; exact hx⟩
 have hD2:∀ x,(∀ k,GY k x≤k+67108928)→∀ y∈w.deeds ++ [x],∀ k,GY k y≤k+67108928:=fun x hx y hy=>by
  rcases lN.1 hy with h | h
  ·exact g4 y h
  ·rw[aay.1 h]; exact hx
 unfold FQ
 split
 ·have hx:AZ ⟨w.c0,IntKind.i64.wrap (w.time+1),w.t,w.e,w.d,w.b,w.m,w.x,w.p,w.tasks.set n (Hg w t),w.deeds ++ [⟨t.op,n,d.r,d.id,d.q,d.res,d.code,d.stamp,w.time,-1,-1⟩]⟩:=by
   rw[Ai]; exact⟨f1,f2,f3,f4,f5,f6,hT,hD _ (hd' _ _ _ _ _)⟩
  exact⟨hx,pq _ hx g2 hT2 (hD2 _ fun k=>cd k _ _ _ _ _)⟩
 ·have hx:AZ ⟨w.c0,IntKind.i64.wrap (w.time+1),w.t,w.e,w.d,w.b,w.m,w.x,w.p.set n (-1),w.tasks,w.deeds ++ [⟨t.op,n,d.r,d.id,d.q,d.res,code,d.stamp,w.time,w.time,w.time⟩]⟩:=by
   rw[Ai]; exact⟨f1,f2,f3,f4,f5,by simpa using f6,f7,hD _ (hd' _ _ _ _ _)⟩
  exact⟨hx,pq _ hx g2 g3 (hD2 _ fun k=>cd k _ _ _ _ _)⟩
theorem VM {α:Type} {f:α→Int→Int} {l:Int} (h:0≤l):DD f [] l=l:=by
 simp[DD,FY,Z5,sq]; omega
theorem vg {l:Int} (h:0≤l):BV JH l=l:=by
 have h0:FY 0 l=l:=ASe
 have h1:¬ l<0:=AQ2
 simp[Iw,Ic,F9,JH,NW,DPred.v,DPred.l,VM h,h0,sq,h1]
def Be (l:List DVal):DTask:=⟨1,0,0,l,0,JH,0,0,[],0,0,0,0,0,false,[]⟩
def DK (l:List DVal):DDeed:=⟨1,0,l,-1,JH,H8,0,0,0,0,0⟩
def Jn (w:DWorld) (n:Nat) (l:List DVal):DDeed:=⟨1,n,l,-1,JH,H8,4,0,w.time,w.time,w.time⟩
noncomputable def Ei (w:DWorld) (k:Int) (l:List DVal):DWorld:=if CU w k=true then FQ w k.toNat (Be l) (DK l) (if fits w.c0.cols l=true then 0 else 4) else w
theorem Y0 (l:List DVal) (hl:fitS Ee l) (w:DWorld):Ff (Hg w (Be l)):=by
 rw[ED]
 exact⟨hl,⟨nJ,by simp[Hg,Be,JH]⟩,by simp[Hg,Be],OJ⟩
theorem Y1 (l:List DVal) (hl:fitS Ee l) (w:DWorld) (k:Int) (t:DTask):C_ (KI w k t (DK l)):=by
 rw[ES]
 exact⟨hl,⟨nJ,by simp[KI,DK,JH]⟩,OJ,by simp[KI,DK,H8,Ee]⟩
theorem pz (w:DWorld) (k:Int) (l:List DVal) (hf:AZ w) (hl:fitS Ee l):Ctr prog 10 [.agg w.c,.c (.v (.int .i64 (k))),.c (.sl (l.map DVal.c))] [.agg (Ei w k l).o,.val (.c (.v (.bool (CU w k))))]:=by
 have hc:w.c0.cols.length≤1048576:=ASC
 refine AEJ call10 func10 rfl mixed ntmps10 results10 ASn rfl fun hw=>?_
 simp only[go_sem]
 refine CW (WC w hf) fun _=>?_
 simp only[go_sem]
 refine CW (Lt w hf) fun _=>?_
 rcases h1:D_ w with _ | _
 ·have e1:CU w k=false:=by simp only[CU,h1]; rfl
  have e2:Ei w k l=w:=ASZ
  simp only[go_sem,h1,e1,e2]
  exact ALA
 simp only[go_sem,h1]
 refine CW (fO w k h1) fun _=>?_
 rcases h2:Ad k 0 2&&(opAt w k==0) with _ | _
 ·have e1:CU w k=false:=by simp only[CU,JK,h1,← Bool.and_assoc,h2]; rfl
  have e2:Ei w k l=w:=ASZ
  simp only[go_sem,h1,h2,e1,e2]
  exact ALA
 simp only[go_sem,h1,h2]
 refine InlK.mkS _ _ (ACJ w rfl) ?_
 rcases h3:xy w with _ | _
 ·have e1:CU w k=false:=by simp only[CU,JK,h3,aK]
  have e2:Ei w k l=w:=ASZ
  simp only[go_sem,h1,h2,h3,e1,e2]
  exact ALA
 have e1:CU w k=true:=by simp only[CU,JK,h1,← Bool.and_assoc,h2,h3]; rfl
 obtain⟨n,rfl,hn,hlt,hlp,hz,hld⟩:=O9 hf h1 h2
 have e2:Ei w n l=FQ w n (Be l) (DK l) (if fits w.c0.cols l=true then 0 else 4):=ASZ
 have hgt:∀ row,((w.tasks.map DTask.o).set n row)[n]?=some row:=fun row=>aa1 AR1
 have hgd:∀ row,(w.deeds.map DDeed.o ++ [row])[w.deeds.length]?=some row:=fun row=>AQ3
 have hsd:∀ row row2:List Cl,(w.deeds.map DDeed.o ++ [row]).set w.deeds.length row2=w.deeds.map DDeed.o ++ [row2]:=fun row row2=>AQ3
 have hh:(Hg w (Be l)).h=(w.deeds.length:Int):=rfl
 have hgp:=AA intC hlp
 have hsp:∀ x,(w.p.map intC).set n [.v (.int .i64 x)]=(w.p.set n x).map intC:=fun x=>yI.symm
 simp only[go_sem,h1,h2,h3,e1,e2]
 refine AD9 (fn:=f43) call43 func43 rfl mixed ntmps43 results43 ASn rfl ?_
 simp only[go_sem]
 refine AD9 (fn:=f116) call116 func116 rfl mixed ntmps116 results116 ASn rfl ?_
 simp only[go_sem,ae]
 refine AAR ?_
 simp only[go_sem]
 refine ABO _ (QW (Hg w (Be l)) (Y0 l hl _)) ?_
 simp only[go_sem,ae,hlt,AA _ hlt,DTask.o_eq w.tasks[n]]
 refine AAR ?_
 simp only[go_sem,ae,hlt]
 refine ABO _ (Nc (KI w n (Be l) (DK l)) (Y1 l hl _ _ _)) ?_
 simp only[go_sem,ae,bi,aN,bz,bV,Ry,hlt,hlp,hgt,hgd,hsd,hh,hgp,hsp,bD,hld,nrD,ay]
 first | refine ABQ (args:=[.c (.sl (w.c0.cols.map intC)),.c (.sl (l.map DVal.c))]) _ ARC rfl (Jz w.c0.cols l) fun _=>?_ | (refine AAO ?_; simp only[go_sem]; refine AEF (args:=[.c (.sl (w.c0.cols.map intC)),.c (.sl (l.map DVal.c))]) _ ARC rfl (Jz w.c0.cols l) ?_)
 rcases h5:fits w.c0.cols l with _ | _
 ·simp only[go_sem,h5,aH]
  refine AD9 (fn:=f118) call118 func118 rfl mixed ntmps118 results118 ASn rfl ?_
  simp only[go_sem,ae,bi,aN,bz,bV,Ry,hlt,hlp,hgt,hgd,hsd,hh,hgp,hsp,bD]
  repeat (refine AAR ?_; simp only[go_sem,ae,bi,aN,bz,bV,Ry,hlt,hlp,hgt,hgd,hsd,hh,hgp,hsp,bD])
  refine AD9 (fn:=f119) call119 func119 rfl mixed ntmps119 results119 ASn rfl ?_
  simp only[go_sem,ae,bi,aN,bz,bV,Ry,hlt,hlp,hgt,hgd,hsd,hh,hgp,hsp,bD]
  repeat (refine AAR ?_; simp only[go_sem,ae,bi,aN,bz,bV,Ry,hlt,hlp,hgt,hgd,hsd,hh,hgp,hsp,bD])
  simp only[dh]
  refine EndH.close 8 n [] (row':=DTask.o IX) rfl (aa1 AR1) rfl ARJ ?_ ?_
  ·simp only[go_sem,DTask.o_eq,DQuery.o_eq,DPred.o_eq,IX]
   exact AOc
  simp only[Dl,KZ,go_sem,dh]
  refine EndH.close 24 (w.deeds.map DDeed.o).length [19,20,21,22] (row':=DDeed.o (Jn w n l)) rfl aaL rfl ARJ ?_ ?_
  ·simp only[go_sem,DDeed.o_eq,DQuery.o_eq,DPred.o_eq,DResult.o_eq,KI,DK,Be,Hg,Jn]
   exact AM1
  simp only[Dl,KZ,go_sem,Ae]
  refine EndH.self ?_
  have hT:w.tasks.set n IX=w.tasks:=by
   obtain⟨h,e⟩:=aP.1 hz
   rw[← e]; exact List.set_getElem_self h
  have e3:w.deeds.map DDeed.o ++ [DDeed.o (Jn w n l)]=(w.deeds ++ [Jn w n l]).map DDeed.o:=AQ3
  have e4:FQ w n (Be l) (DK l) 4=⟨w.c0,IntKind.i64.wrap (w.time+1),w.t,w.e,w.d,w.b,w.m,w.x,w.p.set n (-1),w.tasks,w.deeds ++ [Jn w n l]⟩:=by simp[FQ,Be,DK,Jn]
  have e5:(w.tasks.map DTask.o).set n (DTask.o IX)=w.tasks.map DTask.o:=by rw[← yI,hT]
  simp only[go_sem] at e3 e5
  simp only[go_sem,ay,aY,e3,e4,e5]
  exact AM3
 simp only[go_sem,h5,aO]
 refine EndH.close 8 n [14,15,16,17,18] (row':=DTask.o (Hg w (Be l))) rfl (aa1 AR1) rfl ARJ ?_ ?_
 ·simp only[go_sem,DTask.o_eq,DQuery.o_eq,DPred.o_eq]
  simp[AC,hh]
 simp only[Dl,KZ,go_sem,dh]
 refine EndH.close 24 (w.deeds.map DDeed.o).length [19,20,21,22] (row':=DDeed.o (KI w n (Be l) (DK l))) rfl aaL rfl ARJ ?_ ?_
 ·exact AQe
 exact AI5
theorem AHL {a b:Value} {n:Nat} {r:List Cl}:D7 [Cl.v a::Cl.v b::Cl.ref n::r]=false:=rfl
theorem p_ (w:DWorld) (k:Int) (l:List DVal) (hf:AZ w) (hl:fitS Ee l):Ctr prog 13 [.agg w.c,.c (.v (.int .i64 (k))),.c (.sl (l.map DVal.c))] [.agg (Ei w k l).o,.val (.c (.v (.bool (CU w k))))]:=by
 have hc:w.c0.cols.length≤1048576:=ASC
 refine AEJ call13 func13 rfl mixed ntmps13 results13 ASn rfl fun hw=>?_
 simp only[go_sem]
 refine CW (Ls w hf) fun _=>?_
 rcases h1:D_ w with _ | _
 ·have e1:CU w k=false:=by simp only[CU,h1]; rfl
  have e2:Ei w k l=w:=ASZ
  simp only[go_sem,h1,e1,e2,aH]
  try refine AAR ?_
  try simp only[go_sem]
  refine CW (EY w hf) fun _=>?_
  simp only[go_sem]
  exact ALA
 simp only[go_sem,h1,aO]
 refine AD9 (fn:=f54) call54 func54 rfl mixed ntmps54 results54 ASn rfl ?_
 simp only[go_sem]
 refine CW (SG w k h1) fun _=>?_
 rcases h2:JK w k with _ | _
 ·have e1:CU w k=false:=by simp only[CU,h1,h2]; rfl
  have e2:Ei w k l=w:=ASZ
  simp only[go_sem,h2,e1,e2,aH]
  try refine AAR ?_
  try simp only[go_sem]
  refine CW (EY w hf) fun _=>?_
  simp only[go_sem]
  exact ALA
 have e1:CU w k=true:=by simp only[CU,h1,h2]; rfl
 obtain⟨n,rfl,hn,hlt,hlp,hz,hld⟩:=O9 hf h1 (by simp only[JK,az] at h2; simp only[az]; exact⟨h2.1,h2.2.1⟩)
 have e2:Ei w n l=FQ w n (Be l) (DK l) (if fits w.c0.cols l=true then 0 else 4):=ASZ
 have hsp:∀ x,(w.p.map intC).set n [.v (.int .i64 x)]=(w.p.set n x).map intC:=fun x=>yI.symm
 have h40:((4:Int) != 0)=true:=rfl
 simp only[go_sem,h2,e1,e2,aO]
 first | refine AAN _ (G6 w.c0.cols l) fun _=>?_ | (refine AAO ?_; simp only[go_sem]; refine AAS _ (G6 w.c0.cols l) ?_) | refine ABQ (args:=[.c (.sl (w.c0.cols.map intC)),.c (.sl (l.map DVal.c))]) _ ARC rfl (G6 w.c0.cols l) fun _=>?_ | (refine AAO ?_; simp only[go_sem]; refine AEF (args:=[.c (.sl (w.c0.cols.map intC)),.c (.sl (l.map DVal.c))]) _ ARC rfl (G6 w.c0.cols l) ?_)
 rcases h5:fits w.c0.cols l with _ | _
 ·simp only[go_sem,h5,aH]
  refine AAR ?_
  simp only[go_sem]
  refine ABO _ (DZ l hl.1) ?_
  simp only[go_sem]
  refine ABO _ (DZ l hl.1) ?_
  simp only[go_sem]
  refine' AE3 _ _ (AEc (fn:=f142) call142 func142 rfl mixed ntmps142 results142 ASn rfl fun m env=>?_) ?_
  rotate_left 2
  ·exact AL6
  simp only[go_sem]
  refine EndH.close 20 (w.deeds.map DDeed.o).length [4] (row':=DDeed.o (Jn w n l)) rfl aaL rfl ARJ ?_ ?_
  ·simp only[go_sem,DDeed.o_eq,DQuery.o_eq,DPred.o_eq,DResult.o_eq,Jn]
   exact AM1
  simp only[Dl,KZ,go_sem,Ae]
  refine EndH.self ?_
  have e3:w.deeds.map DDeed.o ++ [DDeed.o (Jn w n l)]=(w.deeds ++ [Jn w n l]).map DDeed.o:=AQ3
  have e4:FQ w n (Be l) (DK l) 4=⟨w.c0,IntKind.i64.wrap (w.time+1),w.t,w.e,w.d,w.b,w.m,w.x,w.p.set n (-1),w.tasks,w.deeds ++ [Jn w n l]⟩:=by simp[FQ,Be,DK,Jn]
  simp only[go_sem] at e3
  simp only[go_sem,ay,aY,e3,e4]
  exact AM3
 simp only[go_sem,h5,aO]
 refine AAR ?_
 simp only[go_sem]
 refine ABO _ (DZ l hl.1) ?_
 simp only[go_sem]
 refine ABO _ (DZ l hl.1) ?_
 simp only[go_sem]
 refine' AE3 _ _ (AEc (fn:=f142) call142 func142 rfl mixed ntmps142 results142 ASn rfl fun m env=>?_) ?_
 rotate_left 2
 ·exact AL6
 simp only[go_sem]
 refine EndH.close 16 n [5] (row':=DTask.o (Hg w (Be l))) rfl (aa1 AR1) rfl ARJ ?_ ?_
 ·simp only[go_sem,DTask.o_eq,DQuery.o_eq,DPred.o_eq,Hg,Be]
  exact AOc
 simp only[Dl,KZ,go_sem,dh]
 refine EndH.close 20 (w.deeds.map DDeed.o).length [4] (row':=DDeed.o (KI w n (Be l) (DK l))) rfl aaL rfl ARJ ?_ ?_
 ·simp only[go_sem,DDeed.o_eq,DQuery.o_eq,DPred.o_eq,DResult.o_eq,KI,DK,Be]
  exact AM1
 exact AI5
theorem fB {l:List DVal} {L:Int} (h:0≤DD Aj l L) (w:DWorld):0≤I4 (Hg w (Be l)) L:=by
 have h1:¬ DD Aj l L<0:=AQ2
 have h0:FY 0 (DD Aj l L)=DD Aj l L:=ASe
 simp[N9,Hg,Be,sq,h1,vg h,h0,VM h,h]
theorem fC {l:List DVal} {L:Int} (h:0≤DD Aj l L) (a b c d e f g:Int):0≤Jv ⟨a,b,(DK l).r,(DK l).id,(DK l).q,(DK l).res,c,d,e,f,g⟩ L:=by
 have h1:¬ DD Aj l L<0:=AQ2
 have h0:FY 0 (DD Aj l L)=DD Aj l L:=ASe
 simp[N_,DK,sq,h1,vg h,h0,VM h,H8,J7,F9,h]
theorem AAe (w:DWorld) (k:Int) (l:List DVal) (h00:0≤ER w 1048576) (hle:ER w 1048576≤1048576) (h01:0≤DD Aj l (ER w 1048576)) (hl:fitS Ee l):AZ (Ei w k l)∧DV 1 (Ei w k l)≤4000000000000000000:=by
 have hf:=(J8 w 1048576 h00 AQ2).1
 unfold Ei
 split
 ·rename_i h
  have hw:D_ w=true:=by simp only[CU,az] at h; exact h.1
  have h2:DD Aj l (ER w 1048576)≥0:=h01
  exact nD h00 hw (Y0 l hl w) (Y1 l hl w 0 (Be l)) (fun k=>by have:=UL _ k _ (fB h01 w) hle; have:=fB h01 w; omega) fun j a b c e f=>by have:=UN _ j _ (fC h01 a k.toNat b (DK l).stamp c e f) hle; have:=fC h01 a k.toNat b (DK l).stamp c e f; omega
 ·obtain⟨_,g2,g3,g4⟩:=fA h00
  exact⟨hf,pq w hf g2 g3 g4⟩
theorem fD (w:DWorld) (k:Int) (l:List DVal):Ctr prog 3 [.agg w.c,.c (.v (.int .i64 (k))),.c (.sl (l.map DVal.c))] [.val (.c (.v (.bool (true))))]:=by
 refine CM call3 func3 ntmps3 results3 fun hw=>?_
 simp only[go_sem]
 refine CW (Ql w 1048576 AQ2) fun _=>?_
 refine AQx (fun h=>?_) fun h=>?_
 ·exact AIu
 have h00:0≤ER w 1048576:=ARD
 obtain⟨hf,hle⟩:=J8 w 1048576 h00 AQ2
 simp only[go_sem]
 refine CW (MN l (ER w 1048576) h00) fun _=>?_
 refine AQx (fun h=>?_) fun h=>?_
 ·exact AIu
 have h01:0≤DD Aj l (ER w 1048576):=ARD
 obtain⟨hl,_⟩:=Dk l (fun x _=>DL x) h01 hle
 obtain⟨hf2,hb2⟩:=AAe w k l h00 hle h01 hl
 have hs:Ctr prog 10 [.agg w.c,.c (.v (.int .i64 (k))),.c (.sl (l.map DVal.c))] [.val (.agg (Ei w k l).c),.val (.c (.v (.bool (CU w k))))]:=(pz w k l hf hl).fz2 (Ei w k l).o_er
 have hi:=p_ w k l hf hl
 generalize Ei w k l=X at *
 generalize CU w k=b at *
 have hb1:=gy w 1 1048576 h00 AQ2
 have hl1:=Qo 1 w
 have hl2:=Qo 1 X
 have hn1:decide (DV 1 w<0)=false:=AQ5
 have hn2:decide (DV 1 X<0)=false:=AQ5
 have hbl:Eh FI (DV 1 w) l≤4000000000000000000:=by
  have:=Js (c:=FI) l (fun y _ k l a b=>⟨SN y k l a b,(DL y l a b).2⟩) (DV 1 w) h01 hle
  omega
 have e0:∀ b:Bool,(!(b==b))=false:=fun b=>by cases b<;>rfl
 simp only[go_sem]
 first | refine CW (Bf w hf) fun _=>?_ | refine CZ (Bf w hf) ?_ | (refine AAR ?_; simp only[go_sem]; refine CZ (Bf w hf) ?_)
 simp only[go_sem]
 first | refine CW (H5 l hl) fun _=>?_ | refine CZ (H5 l hl) ?_ | (refine AAR ?_; simp only[go_sem]; refine CZ (H5 l hl) ?_)
 simp only[go_sem]
 first | refine CW (hs) fun _=>?_ | refine CZ (hs) ?_ | (refine AAR ?_; simp only[go_sem]; refine CZ (hs) ?_)
 simp only[go_sem]
 refine CW (VW w hf) fun _=>?_
 simp only[go_sem]
 refine AAN _ (LU l hl.1 fun x hx=>I7 x (hl.2 x hx)) fun _=>?_
 simp only[go_sem]
 first | refine ABQ (args:=[.agg w.c,.c (.v (.int .i64 (k))),.c (.sl (l.map DVal.c))]) [.agg X.o,.val (.c (.v (.bool (b))))] ARL ASH hi fun _=>?_ | (refine AAR ?_; simp only[go_sem]; refine BorE.mk (args:=[.agg w.c,.c (.v (.int .i64 (k))),.c (.sl (l.map DVal.c))]) [.agg X.o,.val (.c (.v (.bool (b))))] ARL ASH hi ?_)
 simp only[go_sem]
 refine ABQ (args:=[.agg X.c,.agg X.c]) _ ART rfl (Et _) fun _=>?_
 simp only[go_sem,e0]
 refine AAO ?_
 simp only[go_sem]
 refine CY (Bf w hf) ?_
 simp only[go_sem]
 refine AEF (args:=[.agg w.c,.agg w.c]) _ ART rfl (Et w) ?_
 simp only[go_sem]
 try refine AAO ?_
 try simp only[go_sem]
 first | refine CW (H5 l hl) fun _=>?_ | refine CY (H5 l hl) ?_
 simp only[go_sem]
 first | refine AEF (args:=[.c (.sl (l.map DVal.c)),.c (.sl (l.map DVal.c))]) _ (by simp only[ET,go_sem]) rfl (H6 l) ?_ | refine ABQ (args:=[.c (.sl (l.map DVal.c)),.c (.sl (l.map DVal.c))]) _ (by simp only[ET,go_sem]) rfl (H6 l) fun _=>?_ | refine AAS _ (H6 l) ?_ | refine AAN _ (H6 l) fun _=>?_
 simp only[go_sem]
 refine ACg true (zs:=[.ref 2,.v (.int .i64 w.c0.slots),.v (.int .i64 w.c0.bufs),.v (.int .i64 w.time),.v (.int .i64 w.t),.v (.int .i64 w.e),.v (.int .i64 w.d.ver),.ref 3,.ref 4,.ref 5,.ref 6,.ref 7,.ref 8,.ref 9])
  (cl:=[.ow 3 1 (w.c0.cols.map intC),.v (.int .i64 w.c0.slots),.v (.int .i64 w.c0.bufs),.v (.int .i64 w.time),.v (.int .i64 w.t),.v (.int .i64 w.e),.v (.int .i64 w.d.ver),.ow 204 5 (w.d.l.map DRef.c),.ow 170 5 (w.b.map DBuf.o),.ow 3 1 (w.m.map intC),.ow 173 3 (w.x.map DDead.c),.ow 3 1 (w.p.map intC),.ow 132 25 (w.tasks.map DTask.o),.ow 162 25 (w.deeds.map DDeed.o)])
  (Nq w 1 AQ2 hf AQ2) rfl ⟨rfl,rfl,rfl,rfl,AX _,AQ3,rfl,rfl,rfl,rfl,rfl,rfl,rfl,rfl,rfl,rfl,rfl,rfl,rfl,rfl,rfl,rfl,E_ _,AQ3,rfl,rfl,rfl,rfl,D5 _,AQ3,rfl,rfl,rfl,rfl,AX _,AQ3,rfl,rfl,rfl,rfl,Jo _,AQ3,rfl,rfl,rfl,rfl,AX _,AQ3,rfl,rfl,rfl,rfl,GU _,AQ3,rfl,rfl,rfl,rfl,IJ _,AQ3,trivial⟩ rfl (.inl rfl) fun cl' rs hM=>?_
 obtain⟨rfl,rfl⟩:=hM
 refine⟨⟨rfl,⟨rfl,rfl⟩,rfl,rfl,rfl,rfl,rfl,rfl,⟨rfl,rfl⟩,⟨rfl,rfl⟩,⟨rfl,rfl⟩,⟨rfl,rfl⟩,⟨rfl,rfl⟩,⟨rfl,rfl⟩,⟨rfl,rfl⟩,trivial⟩, ?_⟩
 simp only[go_sem,hn1]
 refine ABp (l:=11) (MM l (DV 1 w) AQ2 hl hbl) rfl ⟨rfl,rfl,rfl,rfl,BH _,AQ3,trivial⟩ ?_
 have hbn:decide (Eh FI (DV 1 w) l<0)=false:=by have:=Ed KN l (DV 1 w); simp; omega
 simp only[go_sem,hn1,hbn]
 refine ABQ (args:=[.agg X.c,.agg X.c]) _ ART rfl (Et _) fun _=>?_
 simp only[go_sem,hn1,hbn,e0]
 refine ACg true (zs:=[.ref 12,.v (.int .i64 X.c0.slots),.v (.int .i64 X.c0.bufs),.v (.int .i64 X.time),.v (.int .i64 X.t),.v (.int .i64 X.e),.v (.int .i64 X.d.ver),.ref 13,.ref 14,.ref 15,.ref 16,.ref 17,.ref 18,.ref 19])
  (cl:=[.ow 3 1 (X.c0.cols.map intC),.v (.int .i64 X.c0.slots),.v (.int .i64 X.c0.bufs),.v (.int .i64 X.time),.v (.int .i64 X.t),.v (.int .i64 X.e),.v (.int .i64 X.d.ver),.ow 204 5 (X.d.l.map DRef.c),.ow 170 5 (X.b.map DBuf.o),.ow 3 1 (X.m.map intC),.ow 173 3 (X.x.map DDead.c),.ow 3 1 (X.p.map intC),.ow 132 25 (X.tasks.map DTask.o),.ow 162 25 (X.deeds.map DDeed.o)])
  (Nq X 1 AQ2 hf2 AQ2) rfl ⟨rfl,rfl,rfl,rfl,AX _,AQ3,rfl,rfl,rfl,rfl,rfl,rfl,rfl,rfl,rfl,rfl,rfl,rfl,rfl,rfl,rfl,rfl,E_ _,AQ3,rfl,rfl,rfl,rfl,D5 _,AQ3,rfl,rfl,rfl,rfl,AX _,AQ3,rfl,rfl,rfl,rfl,Jo _,AQ3,rfl,rfl,rfl,rfl,AX _,AQ3,rfl,rfl,rfl,rfl,GU _,AQ3,rfl,rfl,rfl,rfl,IJ _,AQ3,trivial⟩ rfl (.inl rfl) fun cl' rs hM=>?_
 obtain⟨rfl,rfl⟩:=hM
 refine⟨⟨rfl,⟨rfl,rfl⟩,rfl,rfl,rfl,rfl,rfl,rfl,⟨rfl,rfl⟩,⟨rfl,rfl⟩,⟨rfl,rfl⟩,⟨rfl,rfl⟩,⟨rfl,rfl⟩,⟨rfl,rfl⟩,⟨rfl,rfl⟩,trivial⟩, ?_⟩
 simp only[go_sem]
 refine ABQ (args:=[.agg (PI 1 X).c,.c (.v (.int .i64 1))]) _ (by simp only[D8,CO,Cf,DF,D9,FB,DU,go_sem]; rfl) rfl (KR X 1 AQ2 hf2 AQ2) fun _=>?_
 simp only[go_sem,hn2,ax]
 first | refine CW (Bf w hf) fun _=>?_ | refine CZ (Bf w hf) ?_ | (refine AAR ?_; simp only[go_sem]; refine CZ (Bf w hf) ?_)
 simp only[go_sem]
 first | refine CW (H5 l hl) fun _=>?_ | refine CZ (H5 l hl) ?_ | (refine AAR ?_; simp only[go_sem]; refine CZ (H5 l hl) ?_)
 simp only[go_sem]
 first | refine CW (hi) fun _=>?_ | refine CZ (hi) ?_ | (refine AAR ?_; simp only[go_sem]; refine CZ (hi) ?_)
 exact AL2
end Go.Proofs.YthmifbbmgnhddaaGreat
