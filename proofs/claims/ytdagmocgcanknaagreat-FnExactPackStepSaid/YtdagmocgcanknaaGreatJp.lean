/- A part. -/
import Derived.Test.YtdagmocgcanknaaGreatMa
import Derived.Test.YtdagmocgcanknaaGreatVq
import Derived.Test.YtdagmocgcanknaaGreatJc
set_option linter.unusedSimpArgs false
set_option linter.unusedVariables false
set_option maxHeartbeats 8000000
set_option maxRecDepth 10000
namespace Go.Vm
theorem Ctr.fz2 {P:Program} {f:FuncId} {args:List AV} {cl ys:List Cl} {v:AV} (h:Ctr P f args [.agg cl,.val v]) (he:Kq cl=ys):Ctr P f args [.val (.agg ys),.val v]:=by subst he;exact h.frz
end Go.Vm
open Go.Proofs.Tryz
namespace Go.Proofs.YtdagmocgcanknaaGreat
open Go.Vm
theorem ZO {α:Type} {f:α->Int->Int}:∀ (xs:List α) (_:∀ x∈xs,∀ l,0<=f x l->l<=1048576->f x l<=l) (l:Int),0<=YB f xs l->l<=1048576->∀ x∈xs,∃ l',l'<=1048576/\0<=f x l'
 | [],_,_,_,_,_,h=>APN
 | y::ys,hf,l,h0,hl,x,hx=>by
  simp only[YB] at h0;obtain⟨h1,h2,h3⟩:=Ac h0;rcases TM.1 hx with rfl | hx
  .exact⟨l,hl,h1⟩
  .exact ZO ys (fun z hz=>hf z (by simp[hz])) _ h2 (by have:=hf y AOm l h1 hl; omega) x hx
theorem nN {α:Type} {f:α->Int->Int} (xs:List α) (hf:∀ x∈xs,∀ l,0<=f x l->l<=1048576->f x l<=l) {l:Int} (h:0<=Dj f xs l) (hl:l<=1048576):Dj f xs l<=l-xs.length:=by
 unfold Dj at h ⊢;obtain⟨a1,b1,c1⟩:=Ac h;have h3:¬ l-xs.length<0:=by intro h3; rw[zg h3] at a1; omega
 rw[c1];have c2:=(lh xs (F:=fun _=>True) (fun x hx l a b=>⟨trivial,hf x hx l a b⟩) _ b1 (by rw[lg h3]; omega)).2;rw[lg h3] at c2 ⊢;exact c2
theorem AEt {xs:List DBuf} {l:Int} (h0:0<=Dj Hz xs l) (hl:l<=1048576):∀ x∈xs,∀ k,Hr k x<=k+67108928:=fun x hx k=>by unfold Dj at h0;obtain⟨h1,h2,_⟩:=Ac h0;obtain⟨l',g1,g2⟩:=ZO xs (fun x _ l a b=>(Ky x l a b).2) _ h2 (by have:=(CJ h1 hl).2; omega) x hx;have:=ql x k l' g2 g1;omega
theorem AC6 {xs:List DTask} {l:Int} (h0:0<=Dj JO xs l) (hl:l<=1048576):∀ x∈xs,∀ k,DT k x<=k+67108928:=fun x hx k=>by unfold Dj at h0;obtain⟨h1,h2,_⟩:=Ac h0;obtain⟨l',g1,g2⟩:=ZO xs (fun x _ l a b=>(Jl x l a b).2) _ h2 (by have:=(CJ h1 hl).2; omega) x hx;have:=XI x k l' g2 g1;omega
theorem AC7 {xs:List DDeed} {l:Int} (h0:0<=Dj Ku xs l) (hl:l<=1048576):∀ x∈xs,∀ k,FI k x<=k+67108928:=fun x hx k=>by unfold Dj at h0;obtain⟨h1,h2,_⟩:=Ac h0;obtain⟨l',g1,g2⟩:=ZO xs (fun x _ l a b=>(NZ x l a b).2) _ h2 (by have:=(CJ h1 hl).2; omega) x hx;have:=jX x k l' g2 g1;omega
theorem sW {w:DWorld} (h0:0<=Ig w 1048576):w.deeds.length+w.tasks.length<=1048576/\(∀ x∈w.b,∀ k,Hr k x<=k+67108928)/\(∀ x∈w.tasks,∀ k,DT k x<=k+67108928)/\(∀ x∈w.deeds,∀ k,FI k x<=k+67108928):=by rw[Kv] at h0;obtain⟨a0,b0,_⟩:=Ac h0;have w0:=(Na w.c0 _ a0 AOl).2;obtain⟨a1,b1,_⟩:=Ac b0;have w1:=(PK w.d _ a1 AOl).2;obtain⟨a2,b2,_⟩:=Ac b1;have w2:=(Dv w.b (fun x _=>Ky x) a2 AOl).2;obtain⟨a3,b3,_⟩:=Ac b2;have w3:=(CJ a3 AOl).2;obtain⟨a4,b4,_⟩:=Ac b3;have w4:=(CJ a4 AOl).2;obtain⟨a5,b5,_⟩:=Ac b4;have w5:=(CJ a5 AOl).2;obtain⟨a6,b6,_⟩:=Ac b5;have w6:=nN w.tasks (fun x _ l a b=>(Jl x l a b).2) a6 AOl;obtain⟨a7,b7,_⟩:=Ac b6;have w7:=nN w.deeds (fun x _ l a b=>(NZ x l a b).2) a7 AOl;exact⟨AOl,AEt a2 AOl,AC6 a6 AOl,AC7 a7 AOl⟩
theorem AC8 (w:DWorld) (hf:AU w) (hb:∀ x∈w.b,∀ k,Hr k x<=k+67108928) (ht:∀ x∈w.tasks,∀ k,DT k x<=k+67108928) (hd:∀ x∈w.deeds,∀ k,FI k x<=k+67108928):GH 1 w<=4000000000000000000:=by rw[AZ,Jm,GU] at hf;obtain⟨f1,f2,f3,f4,f5,f6,f7,f8⟩:=hf;have f3:=f3.1;have f7:=f7.1;have f8:=f8.1;have g1:GZ 1 w<=1+w.c0.cols.length*64:=Dk (c:=KX) 64 AOl w.c0.cols (fun x _ k=>J8 k x) 1;have g2:Gf 1 w<=GZ 1 w+w.d.l.length*64:=Dk (c:=IJ) 64 AOl w.d.l (fun x _ k=>Q9 k x) _;have g3:Gh 1 w<=Gf 1 w+w.b.length*67108928:=Dk (c:=Hr) 67108928 AOl w.b hb _;have g4:Gi 1 w<=Gh 1 w+w.m.length*64:=Dk (c:=KX) 64 AOl w.m (fun x _ k=>J8 k x) _;have g5:Gj 1 w<=Gi 1 w+w.x.length*64:=Dk (c:=Ir) 64 AOl w.x (fun x _ k=>XH k x) _;have g6:Gl 1 w<=Gj 1 w+w.p.length*64:=Dk (c:=KX) 64 AOl w.p (fun x _ k=>J8 k x) _;have g7:Gm 1 w<=Gl 1 w+w.tasks.length*67108928:=Dk (c:=DT) 67108928 AOl w.tasks ht _;have g8:J9 1 w<=Gm 1 w+w.deeds.length*67108928:=Dk (c:=FI) 67108928 AOl w.deeds hd _;show J9 1 w<=_;omega
theorem ABT {w:DWorld} {n:Nat} {t:DTask} {d:DDeed} {code:Int} (h00:0<=Ig w 1048576) (hw:Dl w=true) (ht:Ei t) (hd:Ej d) (ct:∀ k,DT k (Ph w t)<=k+67108928) (cd:∀ (k a b c e f:Int),FI k ⟨a,n,d.r,d.id,d.q,d.res,b,d.stamp,c,e,f⟩<=k+67108928):AU (O_ w n t d code)/\GH 1 (O_ w n t d code)<=4000000000000000000:=by
 obtain⟨g1,g2,g3,g4⟩:=sW h00;have hf:=(OT w 1048576 h00 AOl).1;have hl:=(JG hw).1;have hf0:=hf;rw[AZ] at hf;obtain⟨f1,f2,f3,f4,f5,f6,f7,f8⟩:=hf;have htf:Ei (Ph w t):=by rw[Dy] at ht ⊢; exact ht
 have hd':∀ (a b c e f:Int),Ej ⟨a,n,d.r,d.id,d.q,d.res,b,d.stamp,c,e,f⟩:=fun a b c e f=>by rw[G8] at hd ⊢; exact hd
 have hT:fitS Ei (w.tasks.set n (Ph w t)):=⟨by simpa using f7.1,fun x hx=>by
  rcases aaK hx with h | h
  .exact f7.2 x h
  .rw[h]; exact htf⟩
 have hT2:∀ x∈w.tasks.set n (Ph w t),∀ k,DT k x<=k+67108928:=fun x hx=>by
  rcases aaK hx with h | h
  .exact g3 x h
  .rw[h]; exact ct
 have hD:∀ x,Ej x->fitS Ej (w.deeds ++ [x]):=fun x hx=>⟨AOn,fun y hy=>by
  rcases yF.1 hy with h | h
  .exact f8.2 y h
  .rw[aaX.1 h]; exact hx⟩
 have hD2:∀ x,(∀ k,FI k x<=k+67108928)->∀ y∈w.deeds ++ [x],∀ k,FI k y<=k+67108928:=fun x hx y hy=>by
  rcases yF.1 hy with h | h
  .exact g4 y h
  .rw[aaX.1 h]; exact hx
 unfold O_;split
 .have hx:AU ⟨w.c0,IntKind.i64.wrap (w.time+1),w.t,w.e,w.d,w.b,w.m,w.x,w.p,w.tasks.set n (Ph w t),w.deeds ++ [⟨t.op,n,d.r,d.id,d.q,d.res,d.code,d.stamp,w.time,-1,-1⟩]⟩:=by rw[AZ]; exact⟨f1,f2,f3,f4,f5,f6,hT,hD _ (hd' _ _ _ _ _)⟩
  exact⟨hx,AC8 _ hx g2 hT2 (hD2 _ fun k=>cd k _ _ _ _ _)⟩
 .have hx:AU ⟨w.c0,IntKind.i64.wrap (w.time+1),w.t,w.e,w.d,w.b,w.m,w.x,w.p.set n (-1),w.tasks,w.deeds ++ [⟨t.op,n,d.r,d.id,d.q,d.res,code,d.stamp,w.time,w.time,w.time⟩]⟩:=by rw[AZ]; exact⟨f1,f2,f3,f4,f5,by simpa using f6,f7,hD _ (hd' _ _ _ _ _)⟩
  exact⟨hx,AC8 _ hx g2 g3 (hD2 _ fun k=>cd k _ _ _ _ _)⟩
theorem ABU {st:List Ob} {b:DBuf} {a c y1 y2 z1 z2:Nat} {u1 u2 v1 v2:Bool} (h1:DF st a=some ⟨y1,z1,b.c0.l.map DSlot.o,u1,v1⟩) (h2:DF st c=some ⟨y2,z2,b.g.map byteC,u2,v2⟩):BorR st [.v (.int .i64 b.gen),.v (.int .i64 b.kind),.v (.int .i64 b.c0.next),.ref a,.ref c] (DBuf.c b):=by have g:∀ (x:Value),o8 st (.v x) (.v x):=fun x=>.inr ⟨rfl,rfl⟩;simp only[go_sem,BorR];exact⟨g _,g _,g _,.inl ⟨a,_,rfl,h1,Gq _,by rw[VZ]⟩,.inl ⟨c,_,rfl,h2,CQ _,by rw[AAH]⟩⟩
def Tv (w:DWorld) (k op:Int):Bool:=Ae k 0 4&&((opAt w k==op)&&V9 w)
theorem E5 (w:DWorld) (k op:Int) (hw0:Dl w=true):Ctr prog 102 [.agg w.c,.c (.v (.int .i64 (k))),.c (.v (.int .i64 (op)))] [.val (.c (.v (.bool (Tv w k op))))]:=by
 have hl:=JG hw0;refine CM call102 func102 ntmps102 results102 fun hw=>?_;unfold Tv;simp only[go_sem];try refine AAP ?_
 try simp only[go_sem]
 first | refine AAt _ (AL k 0 4) ?_ | refine AAO _ (AL k 0 4) fun _=>?_
 rcases h1:Ae k 0 4 with _ | _
 .exact AL1
 obtain⟨n,rfl,hn⟩:=Zh h1 AOl;have h2:n<w.tasks.length:=AOl;have h3:n<w.p.length:=AOl;have e:opAt w (n:Int)=w.tasks[n].op:=by simp[opAt,h2]
 have d2:decide ((n:Int)<(w.tasks.length:Int))=true:=AOn;have d3:decide ((n:Int)<(w.p.length:Int))=true:=AOn;simp only[go_sem,h1,aa,h2,h3,d2,d3,AA _ h2,e,ah];rcases h4:w.tasks[n].op==op with _ | _
 .simp only[go_sem,h4,ac,aa,h2,h3,AA _ h2]
 simp only[go_sem,h4,aa,h2,h3,AA _ h2,ah];try refine AAP ?_
 try simp only[go_sem,aa,h2,h3,h4,AA _ h2]
 first | refine CY (Yi w) ?_ | refine CW (Yi w) fun _=>?_
 rw[ACA hw0];rcases h5:V9 w with _ | _<;>simp only[go_sem,h5,aa,h2,h3,AA _ h2,aD,aH]
def Bz:DTask:=⟨4,0,0,[],0,J5,0,0,[],0,0,0,0,0,false,[]⟩
def Ea:DDeed:=⟨4,0,[],-1,J5,Zg,0,0,0,0,0⟩
noncomputable def NI (w:DWorld):Bool:=V9 w&&(((BN w).2 != 0)&&(QO w.b != 0))
theorem VX (w:DWorld):Ei (Ph w Bz):=by rw[Dy];exact⟨Rz,⟨kT,by simp[Ph,Bz,J5]⟩,by simp[Ph,Bz],Rz⟩
theorem VY (w:DWorld) (k:Int) (t:DTask):Ej (Xo w k t Ea):=by rw[G8];exact⟨Rz,⟨kT,by simp[Xo,Ea,J5]⟩,Rz,by simp[Xo,Ea,Zg,G7]⟩
def RS (w:DWorld) (t:DTask) (i:Int) (l:List DRef):DTask:=⟨t.op,2,t.h,t.r,t.id,t.q,t.ts,w.d.ver,l,i,t.j,t.s,t.at0,t.own,t.won,t.got⟩
def IV (t:DTask) (ts:Int):DTask:=⟨t.op,3,t.h,t.r,t.id,t.q,ts,t.ver,t.l,t.i,t.j,t.s,t.at0,t.own,t.won,t.got⟩
noncomputable def Me (w:DWorld):List DRef:=(w.d.l.drop (BN w).1.toNat).take (BN w).2.toNat
noncomputable def Hm (w:DWorld) (t:DTask) (k:Nat):List DRow:=((t.l.take k).map fun r=>Ag w r t.ts).flatten
noncomputable def Fz (w:DWorld) (t:DTask):List DRow:=kept w (Hm w t t.l.length) t.ts
def OJ (g:List Int) (b:DBuf):DBuf:=⟨b.gen,b.kind,b.c0,g⟩
def Fb (w:DWorld) (n:Nat) (t:DTask):DWorld:=codeW (Kr w t) n (DU t 0 9) 5
def sZ (l:List DRef):Int:=l.foldl (fun a r=>IntKind.i64.wrap (a+r.many)) 0
def EL (w:DWorld) (t:DTask):DRef:=⟨t.own-1,((w.b[(t.own-1).toNat]?).map DBuf.gen).getD 0,2,(l0 t).first,sZ t.l⟩
def jk (w:DWorld) (l:List DRef):List DDead:=l.map fun r=>⟨r.buf,r.gen,w.e⟩
def Oc (w:DWorld) (t:DTask) (d:DDir):DWorld:=⟨w.c0,w.time,w.t,w.e,d,w.b,w.m,w.x++jk w t.l,w.p,w.tasks,w.deeds⟩
def G_ (w:DWorld) (t:DTask):Bool:=((t.l.length:Int)==1)&&(((l0 t).kind==1) && !KF (AHg w (l0 t)) (Ah w))
noncomputable def CP (w:DWorld) (n:Nat) (t:DTask):DWorld:=
 if(t.pc==0)=true then Xp w n t else
 if(t.pc==1)=true then(if((BN w).2==0)=true then codeW w n t 2 else setT w n (RS w t (BN w).1 (Me w))) else
 if(t.pc==2)=true then(if G_ w t=true then codeW w n (IV t (Ah w)) 2 else setT w n (IV t (Ah w))) else
 if(t.pc==3)=true then(if Gt w.b<0 then codeW w n t 3 else setT (FK w (Qr w.b)) n (DU t (Gt w.b+1) 4)) else
 if(t.pc==4)=true then(if DD w.c0.cols (Fz w t)=true then setT (FK w (w.b.modify (t.own-1).toNat (OJ (Au w.c0.cols (Fz w t))))) n (GI t 5) else Fb w n t) else
 if(t.pc==5)=true then(if(t.ver != w.d.ver)=true then Fb w n t else
  if Gn w.d t.i t.l.length (EL w t)=true then codeW (Oc w t (EZ w.d t.i.toNat t.l.length (EL w t))) n (DU t 0 9) 1 else Fb w n t) else
 endW w n t.h.toNat
noncomputable def O4 (w:DWorld) (k:Int):Bool:=Ae k 3 4&&(V9 w&&(!(opAt w k==0)||NI w))
noncomputable def Eg (w:DWorld) (k:Int):Bool:=Dl w&&O4 w k
noncomputable def KH (w:DWorld) (k:Int):DWorld:=if Eg w k=true then(if(opAt w k==0)=true then O_ w k.toNat Bz Ea 0 else He (CP w k.toNat (Bv w k))) else w
theorem Jb {w:DWorld} {k:Int} (h:Eg w k=false):KH w k=w:=by simp[KH,h]
theorem nO {w:DWorld} {n:Nat} (h1:Dl w=true) (hlt:n<w.tasks.length) (hn:3<=n):w.tasks[n].op=0\/w.tasks[n].op=4:=by
 unfold Dl at h1;simp only[ar] at h1;obtain⟨_,_,_,_,_,_,_,_,_,_,ht,_⟩:=h1;have g:=Tt.1 ht n hlt;simp only[P5,Ie,Jf,ar] at g;have g:=g.1.2.1;have hk:decide ((n:Int)<3)=false:=AOn;rw[hk] at g;rcases e:w.tasks[n].op==0 with _ | _
 .rw[e] at g; exact .inr (by simpa using g)
 .exact .inl (by simpa using e)
theorem YU (w:DWorld) (t:DTask) (hf:AU w):∀ k,k<=t.l.length->(Hm w t k).length<=k*1048576/\∀ r∈Hm w t k,Dn r
 | 0,_=>by simp[Hm]
 | k+1,h=>by
  obtain⟨h1,h2⟩:=YU w t hf k AOl;have h3:=IE w t.l[k] t.ts hf;have h4:Hm w t (k+1)=Hm w t k++Ag w t.l[k] t.ts:=by unfold Hm;rw[abE,am AOl,bl,aaD];simp
  rw[h4,aP];refine⟨by have:=h3.1; omega,fun r hr=>?_⟩;rcases yF.1 hr with hr | hr
  .exact h2 r hr
  .exact h3.2 r hr
theorem NV {w:DWorld} {t:DTask} (hf:AU w) (h:t.l.length<=2):iQ Dn (Hm w t t.l.length):=by obtain⟨h1,h2⟩:=YU w t hf t.l.length (aG _);exact⟨AOl,h2⟩
theorem QM {w:DWorld} {t:DTask} (hf:AU w) (h:t.l.length<=2):iQ Dn (Fz w t):=
 ⟨abI (abp _ _) (NV hf h).1,fun x hx=>(NV hf h).2 x (List.mem_filter.1 hx).1⟩
theorem Np {w:DWorld} {n:Nat} (hf:AU w) (h1:Dl w=true) (hlt:n<w.tasks.length) (h4:w.tasks[n].op≠0):AtWork w n w.tasks[n] w.tasks[n].op:=by
 have hl:=JG h1;unfold Dl at h1;simp only[ar] at h1;obtain⟨_,_,_,_,_,_,_,_,_,_,ht,_⟩:=h1;have g:=Tt.1 ht n hlt;simp only[P5,ar,aaN] at g;obtain⟨g1,g2,g3⟩:=g
 have g3:gZ w n w.tasks[n]=true:=by
  rcases g3 with g3 | g3
  .exact absurd (by simpa using g3) h4
  .exact g3
 unfold gZ at g3;rcases hd:w.deeds[w.tasks[n].h.toNat]? with _ | d
 .rw[hd] at g3; cases g3
 rw[hd] at g3;obtain⟨hh,rfl⟩:=az.1 hd;simp only[ar] at g3;have hnn:0<=w.tasks[n].h:=by simp only[Ie,ar] at g1;have:=aC.1 g1.2.2.2.2.1 w.tasks[n].h (by simp[numsL]);simpa [DC] using this
 rw[AZ,GU] at hf;obtain⟨f1,f2,f3,f4,f5,f6,f7,f8⟩:=hf;exact⟨hlt,AOl,rfl,hh,AOl,g3.2.1,g3.2.2.1,g3.2.2.2,rfl,g1,f8.1,f4,f3.1,f2,hl.1⟩
theorem Jn {w:DWorld} {t:DTask} {d:DDeed} (h:swB w t d=true) (h2:t.op=4) (h3:Ae t.pc 2 5=true):1<=t.l.length/\t.l.length<=2:=by
 have e1:(t.op==1)=false:=by rw[h2]; rfl
 have e2:(t.op==2)=false:=by rw[h2]; rfl
 have e3:(t.op==3)=false:=by rw[h2]; rfl
 simp only[swB,e1,e2,e3,ax,aL,wM,h3,aD,be] at h;simp only[Ae,ar,aQ] at h;omega
theorem ZP {w:DWorld} {t:DTask} (h:ownB w t=true) (h2:t.op=4) (h3:Ae t.pc 4 5=true):∃ (q:Nat) (hq:q<w.b.length),t.own=(q:Int)+1/\(w.b[q].kind==2)=true:=by
 have e0:((t.op==1)&&(t.pc==8))=false:=by rw[h2]; rfl
 have e1:((t.op==4)&&Ae t.pc 4 5)=true:=by rw[h2,h3]; rfl
 simp only[ownB,e0,e1,aO,ax,aL,NC] at h;simp only[ar,Ae,aQ] at h;obtain⟨⟨h4,h5⟩,h6⟩:=h;have hq:(t.own-1).toNat<w.b.length:=AOl;rw[am hq] at h6;exact⟨(t.own-1).toNat,hq,AOl,h6⟩
theorem RU {w:DWorld} {r:DRef} (h:there w r=true) (hk:(r.kind==1)=true):∃ (q:Nat) (hq:q<w.b.length),r.buf=(q:Int)/\AHg w r=w.b[q].c0:=by
 obtain⟨q,hq,hb,hat⟩ | ⟨_,hat⟩:=DZ w r.buf
 .exact⟨q,hq,hb,by simp[AHg,hb,hq]⟩
 .simp only[there,hat] at h; cases h
theorem PW {l:List DRef} (h1:1<=l.length) (h2:l.length<=2):(∃ r,l = [r])\/∃ r1 r2,l = [r1,r2]:=by
 rcases l with _ | ⟨a,_ | ⟨b,_ | ⟨c,l⟩⟩⟩
 .simp at h1
 .exact .inl ⟨a,rfl⟩
 .exact .inr ⟨a,b,rfl⟩
 .simp at h2
theorem RV {w:DWorld} (h:((BN w).2==0)=false):∃ (i m:Nat),BN w=((i:Int),(m:Int))/\1<=m/\m<=2/\i+m<=w.d.l.length:=by
 unfold BN at h ⊢;cases e:(List.range w.d.l.length).find? (pw1 w) with
 | some i =>
  have hi:=List.mem_of_find?_eq_some e
  exact⟨i,1,rfl,aG _,AOl,by have:=abj.1 hi; omega⟩
 | none =>
  rw[e] at h
  simp only at h ⊢
  cases e2:(List.range w.d.l.length).find? (ku w) with
  | some i =>
   have hi:=List.find?_some e2
   simp only[ku,ar,aQ] at hi
   exact⟨i,2,rfl,AOl,aG _,by have:=hi.1; omega⟩
  | none=>rw[e2] at h; simp at h
theorem XP {α:Type} {c:Int->α->Int} (hc:∀ (k a:Int) (x:α),c (k+a) x=c k x+a):∀ (l:List α) (k a:Int),EU c (k+a) l=EU c k l+a
 | [],k,a=>rfl
 | x::xs,k,a=>by simp only[EU]; rw[hc,XP hc xs]
theorem su (k a:Int) (x:DRow):H6 (k+a) x=H6 k x+a:=by have h:=XP (c:=FH) (fun k a x=>by unfold FH; omega) x.l (k+1) a;show EU FH (k+a+1) x.l=EU FH (k+1) x.l+a;rw[<- h,show k+a+1=k+1+a from AOl]
theorem tC {α:Type} {f:α->Int->Int}:∀ (xs:List α) (_:∀ x∈xs,∀ l,0<=f x l->l<=1048576->f x l<=l) (l:Int),0<=YB f xs l->l<=1048576->∀ x∈xs,∃ l',l'<=l/\0<=f x l'
 | [],_,_,_,_,_,h=>APN
 | y::ys,hf,l,h0,hl,x,hx=>by
  simp only[YB] at h0;obtain⟨h1,h2,h3⟩:=Ac h0;have h4:=hf y AOm l h1 hl;rcases TM.1 hx with rfl | hx
  .exact⟨l,aa7 _,h1⟩
  .obtain⟨l',a,b⟩:=tC ys (fun z hz=>hf z (by simp[hz])) _ h2 AOl x hx;exact⟨l',AOl,b⟩
theorem ABV {xs:List DTask} {l:Int} (h0:0<=Dj JO xs l) (hl:l<=1048576):∀ x∈xs,∀ k,DT k x<=k+67108864:=fun x hx k=>by
 unfold Dj at h0;obtain⟨h1,h2,_⟩:=Ac h0;have hp:0<xs.length:=List.length_pos_of_mem hx;have h3:Fq xs.length l<=1048575:=by unfold Fq;split<;>omega
 obtain⟨l',g1,g2⟩:=tC xs (fun x _ l a b=>(Jl x l a b).2) _ h2 AOl x hx;have:=XI x k l' g2 AOl;omega
theorem AC9 {w:DWorld} (h0:0<=Ig w 1048576):∀ x∈w.tasks,∀ k,DT k x<=k+67108864:=by rw[Kv] at h0;obtain⟨a0,b0,_⟩:=Ac h0;have w0:=(Na w.c0 _ a0 AOl).2;obtain⟨a1,b1,_⟩:=Ac b0;have w1:=(PK w.d _ a1 AOl).2;obtain⟨a2,b2,_⟩:=Ac b1;have w2:=(Dv w.b (fun x _=>Ky x) a2 AOl).2;obtain⟨a3,b3,_⟩:=Ac b2;have w3:=(CJ a3 AOl).2;obtain⟨a4,b4,_⟩:=Ac b3;have w4:=(CJ a4 AOl).2;obtain⟨a5,b5,_⟩:=Ac b4;have w5:=(CJ a5 AOl).2;obtain⟨a6,b6,_⟩:=Ac b5;exact ABV a6 AOl
def LeB (x y:DBuf):Prop:=(Ef y->Ef x)/\∀ k,Hr k x<=Hr k y
def LeD (x y:DDeed):Prop:=(Ej y->Ej x)/\∀ k,FI k x<=FI k y
def LeT (x y:DTask):Prop:=(Ei y->Ei x)/\∀ k,DT k x<=DT k y+5
def Ii {α:Type} (R:α->α->Prop) (xs ys:List α):Prop:=xs.length=ys.length/\∀ x∈xs,∃ y∈ys,R x y
theorem Dh {α:Type} {R:α->α->Prop} (h:∀ x,R x x) (xs:List α):Ii R xs xs:=⟨rfl,fun x hx=>⟨x,hx,h x⟩⟩
theorem Lh {α:Type} {R:α->α->Prop} (h:∀ x,R x x) {xs:List α} {n:Nat} {y:α} (hn:n<xs.length) (hy:R y xs[n]):Ii R (xs.set n y) xs:=⟨ak ..,fun x hx=>by
 rcases aaK hx with g | rfl
 .exact⟨x,g,h x⟩
 .exact⟨_,an hn,hy⟩⟩
theorem ZQ {α:Type} {R:α->α->Prop} (h:∀ x,R x x) {xs ys:List α} (hxy:Ii R xs ys) (tr:∀ x y z,R x y->R y z->R x z) {n:Nat} {g:α->α} (hg:∀ x,R (g x) x):Ii R (xs.modify n g) ys:=by
 by_cases hn:n<xs.length
 .rw[Ew g hn];refine⟨by rw[ak]; exact hxy.1,fun x hx=>?_⟩;rcases aaK hx with a | rfl
  .exact hxy.2 x a
  .obtain⟨y,hy,hr⟩:=hxy.2 _ (an hn);exact⟨y,hy,tr _ _ _ (hg _) hr⟩
 .have e:xs.modify n g=xs:=by exact ANI
  rw[e]; exact hxy
theorem LeB.rfl' (x:DBuf):LeB x x:=⟨id,fun _=>aa7 _⟩
theorem LeD.rfl' (x:DDeed):LeD x x:=⟨id,fun _=>aa7 _⟩
theorem LeT.rfl' (x:DTask):LeT x x:=⟨id,fun _=>AOl⟩
theorem LeB.tr {x y z:DBuf} (a:LeB x y) (b:LeB y z):LeB x z:=⟨fun h=>a.1 (b.1 h),fun k=>Int.le_trans (a.2 k) (b.2 k)⟩
theorem LeD.tr {x y z:DDeed} (a:LeD x y) (b:LeD y z):LeD x z:=⟨fun h=>a.1 (b.1 h),fun k=>Int.le_trans (a.2 k) (b.2 k)⟩
theorem cO (w:DWorld) (c:Int) (d:DDeed):LeD (BK w c d) d:=⟨id,fun _=>aa7 _⟩
theorem AEu (w:DWorld) (d:DDeed):LeD (ACB w d) d:=⟨id,fun _=>aa7 _⟩
theorem tH (t:DTask):LeT EQ t:=by
 refine⟨fun _=>?_,fun k=>?_⟩
 .rw[Dy];exact⟨⟨by simp[EQ],fun x hx=>by simp[EQ] at hx⟩,⟨by rw[Bc]; exact⟨by simp[G7,DPred.v,J5,O0,EQ],by simp[EQ,J5,O0,DPred.l],fun x hx=>by simp[EQ,J5,O0,DPred.l] at hx⟩,by simp[EQ,J5]⟩,by simp[EQ],⟨by simp[EQ],fun x hx=>by simp[EQ] at hx⟩⟩
 .have h:=ZL k t;have e:DT k EQ=k+3+8+1+2+6:=rfl;have e2:DT k t=Nh k t:=rfl;omega
def OutS (w w':DWorld):Prop:=w'.c0=w.c0/\w'.d=w.d/\w'.x=w.x/\Ii LeB w'.b w.b/\w'.m.length=w.m.length/\w'.p.length=w.p.length/\Ii LeT w'.tasks w.tasks/\Ii LeD w'.deeds w.deeds
theorem OutS.self (w:DWorld):OutS w w:=⟨rfl,rfl,rfl,Dh LeB.rfl' _,rfl,rfl,Dh LeT.rfl' _,Dh LeD.rfl' _⟩
theorem OutS.setT {w w1:DWorld} {n:Nat} {t:DTask} (h:OutS w w1) (e:w1.tasks=w.tasks) (hn:n<w.tasks.length) (hL:LeT t w.tasks[n]):OutS w (setT w1 n t):=by exact AMk
theorem OutS.codeW {w w1:DWorld} {n:Nat} {t:DTask} {c:Int} (h:OutS w w1) (e:w1.tasks=w.tasks) (hn:n<w.tasks.length) (hL:LeT (GI t 9) w.tasks[n]):OutS w (codeW w1 n t c):=by exact ALv
def LeP (x y:DBuf):Prop:=(Ef y->Ef x)/\∀ k,Hr k x<=Hr k y+67109888
theorem LeP.rfl' (x:DBuf):LeP x x:=⟨id,fun _=>AOl⟩
theorem LeP.of {x y:DBuf} (h:LeB x y):LeP x y:=⟨h.1,fun k=>by have:=h.2 k; omega⟩
theorem jl {α:Type} {R:α->α->Prop} (h:∀ x,R x x) {xs:List α} {n:Nat} {g:α->α} (hg:∀ hn:n<xs.length,R (g xs[n]) xs[n]):Ii R (xs.modify n g) xs:=by
 by_cases hn:n<xs.length
 .rw[Ew g hn]; exact Lh h hn (hg hn)
 .have e:xs.modify n g=xs:=by exact ANI
  rw[e]; exact Dh h _
theorem AC_ (g:Int) (b:DBuf):LeP (gone g) b:=by
 refine⟨fun _=>?_,fun k=>?_⟩
 .rw[GR,CO];exact⟨⟨by simp[gone],fun x hx=>by simp[gone] at hx⟩,by simp[gone]⟩
 .have h1:Hr k (gone g)=k+3:=rfl;have h2:=Nb k b;omega
theorem AEv (l:List DBuf) (i:Int):Ii LeP (Pi l i) l:=by
 unfold Pi;split
 .rename_i h1;split
  .exact Lh LeP.rfl' h1.2 (AC_ _ _)
  .exact Dh LeP.rfl' _
 .exact Dh LeP.rfl' _
theorem AEw (w:DWorld) (hf:AU w) (hb:∀ x∈w.b,∀ k,Hr k x<=k+1073741824) (ht:∀ x∈w.tasks,∀ k,DT k x<=k+1073741824) (hd:∀ x∈w.deeds,∀ k,FI k x<=k+1073741824):GH 1 w<=4000000000000000000:=by rw[AZ,Jm,GU] at hf;obtain⟨f1,f2,f3,f4,f5,f6,f7,f8⟩:=hf;have f3:=f3.1;have f7:=f7.1;have f8:=f8.1;have g1:GZ 1 w<=1+w.c0.cols.length*64:=Dk (c:=KX) 64 AOl w.c0.cols (fun x _ k=>J8 k x) 1;have g2:Gf 1 w<=GZ 1 w+w.d.l.length*64:=Dk (c:=IJ) 64 AOl w.d.l (fun x _ k=>Q9 k x) _;have g3:Gh 1 w<=Gf 1 w+w.b.length*1073741824:=Dk (c:=Hr) 1073741824 AOl w.b hb _;have g4:Gi 1 w<=Gh 1 w+w.m.length*64:=Dk (c:=KX) 64 AOl w.m (fun x _ k=>J8 k x) _;have g5:Gj 1 w<=Gi 1 w+w.x.length*64:=Dk (c:=Ir) 64 AOl w.x (fun x _ k=>XH k x) _;have g6:Gl 1 w<=Gj 1 w+w.p.length*64:=Dk (c:=KX) 64 AOl w.p (fun x _ k=>J8 k x) _;have g7:Gm 1 w<=Gl 1 w+w.tasks.length*1073741824:=Dk (c:=DT) 1073741824 AOl w.tasks ht _;have g8:J9 1 w<=Gm 1 w+w.deeds.length*1073741824:=Dk (c:=FI) 1073741824 AOl w.deeds hd _;show J9 1 w<=_;omega
def OutP (w w':DWorld):Prop:=w'.c0=w.c0/\w'.x=w.x/\w'.d.l.length<=1048576/\Ii LeP w'.b w.b/\w'.m.length<=1048576/\w'.p.length=w.p.length/\Ii LeT w'.tasks w.tasks/\Ii LeD w'.deeds w.deeds
theorem OutP.setT {w w1:DWorld} {n:Nat} {t:DTask} (h:OutP w w1) (e:w1.tasks=w.tasks) (hn:n<w.tasks.length) (hL:LeT t w.tasks[n]):OutP w (setT w1 n t):=by exact AMk
theorem OutP.codeW {w w1:DWorld} {n:Nat} {t:DTask} {c:Int} (h:OutP w w1) (e:w1.tasks=w.tasks) (hn:n<w.tasks.length) (hL:LeT (GI t 9) w.tasks[n]):OutP w (codeW w1 n t c):=by exact ALv
theorem OutP.pool {w:DWorld} {b:List DBuf} (h:OutP w w) (hb:Ii LeP b w.b):OutP w (FK w b):=⟨rfl,rfl,h.2.2.1,hb,h.2.2.2.2.1,rfl,Dh LeT.rfl' _,Dh LeD.rfl' _⟩
theorem AEx {w:DWorld} (h0:0<=Ig w 1048576):w.x.length+w.tasks.length<=1048576:=by
 rw[Kv] at h0;obtain⟨a0,b0,_⟩:=Ac h0;have w0:=(Na w.c0 _ a0 AOl).2;obtain⟨a1,b1,_⟩:=Ac b0;have w1:=(PK w.d _ a1 AOl).2;obtain⟨a2,b2,_⟩:=Ac b1;have w2:=(Dv w.b (fun x _=>Ky x) a2 AOl).2;obtain⟨a3,b3,_⟩:=Ac b2;have w3:=(CJ a3 AOl).2;obtain⟨a4,b4,_⟩:=Ac b3
 have w4:Fq w.x.length (Fq w.m.length (Dj Hz w.b (H5 w.d (Ee w.c0 1048576))))<=Fq w.m.length (Dj Hz w.b (H5 w.d (Ee w.c0 1048576)))-w.x.length:=by
  have h3:¬ Fq w.m.length (Dj Hz w.b (H5 w.d (Ee w.c0 1048576)))-w.x.length<0:=by intro h3; rw[zg h3] at a4; omega
  rw[lg h3]; omega
 obtain⟨a5,b5,_⟩:=Ac b4;have w5:=(CJ a5 AOl).2;obtain⟨a6,b6,_⟩:=Ac b5;have w6:=nN w.tasks (fun x _ l a b=>(Jl x l a b).2) a6 AOl;omega
def LeK (x y:DTask):Prop:=(Ei y->Ei x)/\∀ k,DT k x<=DT k y+128
theorem LeK.rfl' (x:DTask):LeK x x:=⟨id,fun _=>AOl⟩
theorem ADA {t t':DTask} (he:t'.r=t.r) (hq:t'.q=t.q) (hl:t'.l.length<=2) (hg:t'.got=t.got) (k:Int):DT k t'<=DT k t+128:=by
 have e:Dz k t'=Dz k t:=by unfold Dz GM Aw; rw[he,hq]
 have g:EU IJ (Dz k t'+2) t'.l<=Dz k t'+2+t'.l.length*64:=Dk (c:=IJ) 64 AOl t'.l (fun x _ k=>Q9 k x) _;have g1:BI k t'=EU IJ (Dz k t'+2) t'.l:=rfl;have g2:Dz k t+2<=BI k t:=Eu Nc _ _;have g3:=XP su t.got (BI k t+6) (BI k t'-BI k t);show EU H6 (BI k t'+6) t'.got<=EU H6 (BI k t+6) t.got+128;rw[hg,show BI k t'+6=BI k t+6+(BI k t'-BI k t) from AOl,g3];omega
theorem ADB {w:DWorld} {t:DTask} {i:Int} {l:List DRef} (h:l.length<=2):LeK (RS w t i l) t:=⟨fun hf=>by rw[Dy] at hf ⊢; exact⟨hf.1,hf.2.1,by show l.length<=_; omega,hf.2.2.2⟩,ADA rfl rfl h rfl⟩
theorem ADC (t:DTask):LeK EQ t:=⟨(tH t).1,fun k=>by have:=(tH t).2 k; omega⟩
theorem AIj {b:DBuf} {g:List Int} (h:g.length<=1048576):LeP (OJ g b) b:=by refine⟨fun hf=>by rw[GR] at hf ⊢; exact⟨hf.1,h⟩,fun k=>?_⟩;have h1:EU KX (JY k b) g<=JY k b+g.length*64:=Dk (c:=KX) 64 AOl g (fun x _ k=>J8 k x) _;have h2:JY k b<=EU KX (JY k b) b.g:=Eu (fun k x=>by unfold KX; omega) _ _;show EU KX (JY k b) g<=EU KX (JY k b) b.g+67109888;omega
theorem AEy (b:DBuf):LeP (Nz b) b:=by
 refine⟨fun _=>?_,fun k=>?_⟩
 .rw[GR,CO];exact⟨⟨by simp[Nz],fun x hx=>by simp[Nz] at hx⟩,by simp[Nz]⟩
 .have h1:Hr k (Nz b)<=k+3+64:=J8 (k+3) 0;have h2:=Nb k b;omega
theorem nP (cs:List Int) (l:List DRow):(Au cs l).length<=1048576:=by
 rcases h:DD cs l with _ | _
 .have e:Au cs l = []:=aR (by rw[h]; simp);simp[e]
 obtain⟨f1,f2,f3⟩:=IU h;rw[RI h,aP];have hnl:=NW (l.map DRow.id);have hnb:=Di ((l.map DRow.id).length:Int);have hnl2:(JM (l.map DRow.id)).length<=65:=by exact AOY
 split
 .simp; omega
 .have:=Nl (fun(k:Nat)=>WA (Ha l (k:Int))) 1006 (List.range cs.length) fun x _=>bU _;rw[List.length_range] at this;omega
theorem ADE (l:List DBuf):Ii LeP (Qr l) l:=by
 unfold Qr;split
 .exact Dh LeP.rfl' _
 .exact jl LeP.rfl' fun _=>AEy _
def OutK (w w':DWorld):Prop:=w'.c0=w.c0/\w'.x.length<=1048576/\w'.d.l.length<=1048576/\Ii LeP w'.b w.b/\w'.m.length=w.m.length/\w'.p.length=w.p.length/\Ii LeK w'.tasks w.tasks/\Ii LeD w'.deeds w.deeds
theorem jm {w w':DWorld} (h00:0<=Ig w 1048576) (h:OutK w w'):AU w'/\GH 1 w'<=4000000000000000000:=by
 obtain⟨g1,g2,_,g4⟩:=sW h00;have g3:=AC9 h00;have hf:=(OT w 1048576 h00 AOl).1;rw[AZ] at hf;obtain⟨f1,f2,f3,f4,f5,f6,f7,f8⟩:=hf;obtain⟨a1,a3,a2,a4,a5,a6,a7,a8⟩:=h;have hx:AU w':=by rw[AZ,a1,a5,a6];exact⟨f1,by rw[GU]; exact a2,⟨by rw[a4.1]; exact f3.1,fun x hx=>by obtain⟨y,hy,hr⟩:=a4.2 x hx; exact hr.1 (f3.2 y hy)⟩,f4,a3,f6,⟨by rw[a7.1]; exact f7.1,fun x hx=>by obtain⟨y,hy,hr⟩:=a7.2 x hx; exact hr.1 (f7.2 y hy)⟩,⟨by rw[a8.1]; exact f8.1,fun x hx=>by obtain⟨y,hy,hr⟩:=a8.2 x hx; exact hr.1 (f8.2 y hy)⟩⟩
 refine⟨hx,AEw _ hx (fun x hx k=>?_) (fun x hx k=>?_) fun x hx k=>?_⟩
 .obtain⟨y,hy,hr⟩:=a4.2 x hx; have:=hr.2 k; have:=g2 y hy k; omega
 .obtain⟨y,hy,hr⟩:=a7.2 x hx; have:=hr.2 k; have:=g3 y hy k; omega
 .obtain⟨y,hy,hr⟩:=a8.2 x hx; have:=hr.2 k; have:=g4 y hy k; omega
theorem OutK.setT {w w1:DWorld} {n:Nat} {t:DTask} (h:OutK w w1) (e:w1.tasks=w.tasks) (hn:n<w.tasks.length) (hL:LeK t w.tasks[n]):OutK w (setT w1 n t):=by obtain⟨a1,a2,a3,a4,a5,a6,a7,a8⟩:=h;exact⟨a1,a2,a3,a4,a5,a6,by show Ii LeK (w1.tasks.set n t) _; rw[e]; exact Lh LeK.rfl' hn hL,a8⟩
theorem OutK.codeW {w w1:DWorld} {n:Nat} {t:DTask} {c:Int} (h:OutK w w1) (e:w1.tasks=w.tasks) (hn:n<w.tasks.length) (hL:LeK (GI t 9) w.tasks[n]):OutK w (codeW w1 n t c):=by obtain⟨a1,a2,a3,a4,a5,a6,a7,a8⟩:=h;exact⟨a1,a2,a3,a4,a5,a6,by show Ii LeK (w1.tasks.set n _) _; rw[e]; exact Lh LeK.rfl' hn hL,ZQ LeD.rfl' a8 (fun _ _ _=>LeD.tr) (cO _ _)⟩
theorem OutK.pool {w:DWorld} {b:List DBuf} (h:OutK w w) (hb:Ii LeP b w.b):OutK w (FK w b):=⟨rfl,h.2.1,h.2.2.1,hb,rfl,rfl,Dh LeK.rfl' _,Dh LeD.rfl' _⟩
theorem xu {w:DWorld} {n:Nat} {t:DTask} (hf:AU w) (hx:w.x.length+2<=1048576) (hd8:w.d.l.length<=8) (h5:(t.pc==5)=true->t.l.length<=2) (hn:n<w.tasks.length) (ht:w.tasks[n]=t):OutK w (CP w n t):=by
 subst ht;rw[AZ,GU] at hf;obtain⟨_,f2,f3,f4,f5,_,f7,_⟩:=hf;have hs:OutK w w:=⟨rfl,f5,f2,Dh LeP.rfl' _,rfl,rfl,Dh LeK.rfl' _,Dh LeD.rfl' _⟩;have hpc:∀ pc,LeK (GI w.tasks[n] pc) w.tasks[n]:=fun _=>⟨id,fun _=>APg⟩;have hts:∀ ts,LeK (IV w.tasks[n] ts) w.tasks[n]:=fun _=>⟨id,fun _=>APg⟩;have htp:∀ ts,LeK (GI (IV w.tasks[n] ts) 9) w.tasks[n]:=fun _=>⟨id,fun _=>APg⟩;have how:∀ o pc,LeK (DU w.tasks[n] o pc) w.tasks[n]:=fun _ _=>⟨id,fun _=>APg⟩;have hop:∀ o pc,LeK (GI (DU w.tasks[n] o pc) 9) w.tasks[n]:=fun _ _=>⟨id,fun _=>APg⟩;have hgv:=hs.pool (AEv w.b (w.tasks[n].own-1));have hlost:OutK w (Fb w n w.tasks[n]):=hgv.codeW rfl hn (hop _ _);unfold CP;repeat' split
 .exact⟨rfl,f5,f2,Dh LeP.rfl' _,rfl,ak ..,Lh LeK.rfl' hn (hpc _),Dh LeD.rfl' _⟩
 .exact hs.codeW rfl hn (hpc _)
 .rename_i h;obtain⟨i,m,e,_,h2,_⟩:=RV (abk.2 h);exact hs.setT rfl hn (ADB (by simp only[Me,e,aU,aZ]; omega))
 .exact hs.codeW rfl hn (htp _)
 .exact hs.setT rfl hn (hts _)
 .exact hs.codeW rfl hn (hpc _)
 .exact(hs.pool (ADE _)).setT rfl hn (how _ _)
 .exact(hs.pool (jl LeP.rfl' fun _=>AIj (nP _ _))).setT rfl hn (hpc _)
 .exact hlost
 .exact hlost
 .rename_i h6 _ _;have h8:=XK w.d w.tasks[n].i.toNat w.tasks[n].l.length (EL w w.tasks[n]);have h9:=h5 h6;refine OutK.codeW ⟨rfl, ?_, ?_,Dh LeP.rfl' _,rfl,rfl,Dh LeK.rfl' _,Dh LeD.rfl' _⟩ rfl hn (hop _ _)
  .simp only[Oc,jk,aP,aa]; omega
  .show (EZ w.d w.tasks[n].i.toNat w.tasks[n].l.length (EL w w.tasks[n])).l.length<=_; omega
 .exact hlost
 .exact⟨rfl,f5,f2,Dh LeP.rfl' _,rfl,ak ..,Lh LeK.rfl' hn (ADC _),ZQ LeD.rfl' (Dh LeD.rfl' _) (fun _ _ _=>LeD.tr) (AEu _)⟩
theorem nR (w:DWorld) (k:Int) (h00:0<=Ig w 1048576):AU (KH w k)/\GH 1 (KH w k)<=4000000000000000000:=by
 have hf:=(OT w 1048576 h00 AOl).1;unfold KH;split
 .rename_i h;simp only[Eg,O4,ar] at h;obtain⟨h1,h2,_,_⟩:=h;split
  .exact ABT h00 h1 (VX w) (VY w 0 Bz) (fun k=>by simp only[PP,Nh,BI,Dz,GM,Aw,Ph,Bz,J5,O0,DPred.l,EU]; omega) fun k a b c e f=>by simp only[PR,Az,JP,G9,A_,Ea,J5,O0,Zg,DPred.l,EU]; omega
  .rename_i h0;obtain⟨n,rfl,hn⟩:=Zh h2 AOl;have hl5:=(JG h1).1;have hlt:n<w.tasks.length:=AOl;have hop:opAt w (n:Int)=w.tasks[n].op:=by simp[opAt,hlt]
   have h3:w.tasks[n].op=4:=(nO h1 hlt AOw).resolve_left fun e=>h0 (by rw[hop,e]; rfl);have A:=Np hf h1 hlt AQE;have ea:Bv w (n:Int)=w.tasks[n]:=by simp[Bv,hlt]
   have hd:=AEx h00;refine jm h00 ?_;show OutK w (CP w n (Bv w (n:Int)));rw[ea]
   exact xu hf AOl (Pj h1) (fun h5=>by
    have e:w.tasks[n].pc=5:=by simpa using h5
    exact(Jn A.sw h3 (by rw[e]; rfl)).2) A.lt A.at_
 .refine jm h00 ?_;rw[AZ,GU] at hf;exact⟨rfl,hf.2.2.2.2.1,hf.2.1,Dh LeP.rfl' _,rfl,rfl,Dh LeK.rfl' _,Dh LeD.rfl' _⟩
