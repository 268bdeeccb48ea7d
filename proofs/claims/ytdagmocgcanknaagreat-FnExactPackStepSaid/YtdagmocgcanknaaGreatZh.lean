/- A part. -/
import Derived.Test.YtdagmocgcanknaaGreatZk
import Derived.Test.YtdagmocgcanknaaGreatZd
import Derived.Test.YtdagmocgcanknaaGreatXf
set_option linter.unusedSimpArgs false
set_option linter.unusedVariables false
set_option maxHeartbeats 4000000
set_option maxRecDepth 10000
open Go.Proofs.Tryz
namespace Go.Proofs.YtdagmocgcanknaaGreat
open Go.Vm
def DY (r:DRef) (id:Int):Bool:=decide (r.first>=0)&&(decide (id>=r.first)&&decide (IntKind.i64.wrap (id-r.first)<r.many))
noncomputable def Py (w:DWorld) (b:DBuf):Bool:=gV w.c0.cols b&&b.c0.l.all fun s=>!decide (s.ins>w.t)
def Pz (t m:Int):Bool:=PG m && !decide (m>t)
noncomputable def lM (w:DWorld) (r:DRef):List DRow:=if(r.kind==2&&there w r)=true then Dc w r else []
noncomputable def SX (w:DWorld) (r:DRef):Bool:=there w r&&(!((r.kind==1)&&(r.many != w.c0.slots))&&(lM w r).all fun x=>DY r x.id)
def ML (w:DWorld) (d:DDead):Bool:=match UF w d.buf with
 | none=>false
 | some b=>(b.gen==d.gen)&&Ae d.at0 0 w.e
def qH (w:DWorld) (i:Nat):Nat:=w.x.countP (fun d=>d.buf==(i:Int))+w.tasks.countP (fun t=>t.own==(i:Int)+1)
def Ql (n:Int) (b:DBuf):Bool:=!(((b.kind==0)&&decide (n>0))||((b.kind != 0)&&(n != 1)))
def Qm (l:List DRef) (i:Nat):Nat:=l.countP (fun r=>r.buf==(i:Int))
def Qn (w:DWorld) (i:Nat) (b:DBuf):Bool:=Ql ((Qm w.d.l i+qH w i:Nat):Int) b
def deed1 (w:DWorld) (d:DDeed):Bool:=Fv d&&(!decide (d.inv>=w.time)&&(!decide (d.lin>=w.time) && !decide (d.ret>=w.time)))
def looks (t:DTask):Bool:=(t.op != 0)&&decide (t.pc>=1)
def l0 (t:DTask):DRef:=t.l.headD ⟨0,0,0,0,0⟩
def AER (w:DWorld) (t:DTask) (d:DDeed):Bool:=fits w.c0.cols t.r&&(N8 t.r d.r&&((!Ae t.pc 2 4 && !Ae t.pc 6 7)||(((t.l.length:Int)==1)&&(((l0 t).kind==1)&&((t.pc==2)||decide (t.i<(l0 t).many))))))
def wK (w:DWorld) (t:DTask) (d:DDeed):Bool:=(t.id==d.id)&&(!Ae t.pc 2 7||(((t.l.length:Int)==1)&&(DY (l0 t) t.id&&(decide (t.id<(w.m.length:Int))&&(!Ae t.pc 3 4||((l0 t).kind==1))))))
noncomputable def qI (w:DWorld) (t:DTask) (r:DRef):Bool:=if(r.kind==1)=true then decide (t.j<r.many)&&(decide (t.pc<6)||decide (IntKind.i64.wrap (r.first+t.j)<(w.m.length:Int))) else
 decide (t.pc>=6)&&(match (Dc w r)[t.j.toNat]? with
  | none=>false
  | some x=>decide (x.id<(w.m.length:Int)))
noncomputable def wL (w:DWorld) (t:DTask) (d:DDeed):Bool:=CE w.c0.cols t.q&&(Wl t.q d.q&&(!decide (t.ts>w.t)&&(!Ae t.pc 3 8||(!decide (t.i>(t.l.length:Int))&&((t.pc==3)||(match t.l[t.i.toNat]? with
 | none=>false
 | some r=>qI w t r))))))
def wM (t:DTask):Bool:=!Ae t.pc 2 5||Ae (t.l.length:Int) 1 2
noncomputable def swB (w:DWorld) (t:DTask) (d:DDeed):Bool:=if(t.op==1)=true then AER w t d else if(t.op==2)=true then wK w t d else if(t.op==3)=true then wL w t d else wM t
def NC (w:DWorld) (t:DTask) (kind:Int):Bool:=Ae t.own 1 w.b.length&&(match w.b[(t.own-1).toNat]? with
 | none=>false
 | some b=>b.kind==kind)
def gX (w:DWorld) (t:DTask):Int:=match w.b[(t.own-1).toNat]? with
 | none=>0
 | some b=>b.c0.l.length
def ownB (w:DWorld) (t:DTask):Bool:=if((t.op==1)&&(t.pc==8))=true then NC w t 1&&(gX w t==w.c0.slots) else if((t.op==4)&&Ae t.pc 4 5)=true then NC w t 2 else t.own==0
def gY (k:Int) (t:DTask) (d:DDeed):Bool:=(d.task==k)&&((d.op==t.op)&&(d.ret == -1))
noncomputable def gZ (w:DWorld) (k:Int) (t:DTask):Bool:=match w.deeds[t.h.toNat]? with
 | none=>false
 | some d=>gY k t d&&(t.l.all (there w)&&(ownB w t&&swB w t d))
noncomputable def P5 (w:DWorld) (k:Int) (t:DTask) (p:Int):Bool:=Ie t k&&(((p != -1)==looks t)&&((t.op==0)||gZ w k t))
noncomputable def lN (w:DWorld):Bool:=((w.b.length:Int)==w.c0.bufs)&&w.b.all (Py w)
def SY (w:DWorld):Bool:=w.m.all (Pz w.t)&&((w.m.length:Int)==endOf w.d)
noncomputable def gm (w:DWorld):Bool:=w.d.l.all (SX w)
def gp (w:DWorld):Bool:=w.x.all (ML w)
noncomputable def Si {α:Type} (l:List α) (p:Nat->α->Bool):Bool:=@decide (∀ k (h:k<l.length),p k l[k]=true) (Classical.propDecidable _)
theorem Je {α:Type} {l:List α} {p:Nat->α->Bool} {k:Nat} (h:k<l.length) (hp:p k l[k]=false):Si l p=false:=by simp only[Si,aaA];grind
def wO {α:Type} (l:List α) (p:Nat->α->Bool) (n:Nat):Prop:=n<=l.length/\∀ k (h:k<l.length),k<n->p k l[k]=true
theorem qJ {α:Type} {l:List α} {p:Nat->α->Bool}:wO l p 0:=⟨aq _,fun _ _ h=>AOl⟩
theorem Oy {α:Type} {l:List α} {p:Nat->α->Bool} {k:Nat} (hk:k<l.length) (h:wO l p k) (hc:p k l[k]=true):wO l p (k+1):=⟨hk,fun i h2 h3=>by
 by_cases e:i=k
 .grind
 .exact h.2 i h2 AOl⟩
theorem Tq {α:Type} {l:List α} {p:Nat->α->Bool} (h:wO l p l.length):Si l p=true:=by simp only[Si,aQ];exact fun k hk=>h.2 k hk hk
theorem Tt {α:Type} {l:List α} {p:Nat->α->Bool}:Si l p=true↔∀ k (h:k<l.length),p k l[k]=true:=by simp only[Si,aQ]
noncomputable def qK (w:DWorld):Bool:=Si w.tasks fun k t=>P5 w k t (w.p[k]?.getD 0)
def X6 (w:DWorld):Bool:=w.deeds.all (deed1 w)
noncomputable def Wh (w:DWorld):Bool:=Si w.b (Qn w)
def headB (w:DWorld):Bool:=OG w.c0&&(Ae w.time 0 1000000&&(Ae w.t 1 1000000&&Ae w.e 0 1000000))
noncomputable def Dl (w:DWorld):Bool:=headB w&&(J4 w.d&&(!decide (w.d.ver>1000000)&&(lN w&&(SY w&&(gm w&&(gp w&&(((w.tasks.length:Int)==5)&&(((w.p.length:Int)==5)&&(PH w.p w.e&&(qK w&&(X6 w&&Wh w)))))))))))
theorem gq (n:Nat):∀ (l:List DRef) (e:Int) (seen:List DRef),Jr e seen l=true->(FC seen n=true->Qm l n=0)/\Qm l n<=1
 | [],_,_,_=>⟨fun _=>rfl,aq _⟩
 | r::l,e,seen,h=>by
  rw[Jr] at h;simp only[ar,aa8] at h;obtain⟨_,_,h3,h4⟩:=h;obtain⟨g1,g2⟩:=gq n l _ _ h4;have ha:FC (seen ++ [r]) n=(FC seen n||(r.buf==(n:Int))):=by simp[FC]
  rw[ha] at g1;unfold Qm at g1 g2 ⊢;grind
theorem AF3 (l:List DRef) (n:Nat):(0<Qm l n)↔FC l n=true:=by unfold Qm FC;simp_all
theorem ACQ {d:DDir} (h:J4 d=true) (n:Nat):Qm d.l n=if FC d.l n=true then 1 else 0:=by simp only[J4,ar] at h;have h1:=(gq n _ _ _ h.2.2).2;grind [AF3]
theorem gu:∀ (l:List DRef) (e:Int) (seen:List DRef),Jr e seen l=true->0<=e->e+l.length*1000000000<=9000000000000->∀ r∈l,Eh r=true/\0<=r.first/\r.first<=9000000000000
 | [],_,_,_,_,_=>AOm
 | r::l,e,seen,h,h0,hb=>by
  rw[Jr] at h;simp only[ar,qX] at h;obtain⟨h1,h2,h3,h4⟩:=h;have hm:1<=r.many/\r.many<=1000000000:=by simp only[Eh,Ae,ar,aQ] at h1;exact h1.2.2.2
  have hl:((r::l).length:Int)=l.length+1:=AOm;rw[hl] at hb;have hw:IntKind.i64.wrap (e+r.many)=e+r.many:=wrap_i64 AOl AOl;rw[hw] at h4;intro x hx;rcases TM.1 hx with rfl | hx
  .grind
  .exact gu l _ _ h4 AOl AOl x hx
theorem ACR {d:DDir} (h:J4 d=true) {r:DRef} (hr:r∈d.l):Eh r=true/\0<=r.first/\r.first<=9000000000000:=by simp only[J4,ar,aa8,aaA] at h;grind [gu]
def U1 (w:DWorld) (i:Nat) (b:DBuf):Bool:=Ql (((if FC w.d.l i=true then 1 else 0)+qH w i:Nat):Int) b
theorem wP {w:DWorld} (h:J4 w.d=true) (i:Nat) (b:DBuf):U1 w i b=Qn w i b:=by unfold U1 Qn;rw[ACQ h]
theorem ACS {r:DRef} (h:Eh r=true) (h0:0<=r.first) (h1:r.first<=9000000000000) (id:Int) (hid : -9223372036854775808<=id/\id<=9223372036854775807):DY r id=Ae id r.first (IntKind.i64.wrap (IntKind.i64.wrap (r.first+r.many)-1)):=by
 have hm:1<=r.many/\r.many<=1000000000:=by simp only[Eh,Ae,ar,aQ] at h;exact h.2.2.2
 rw[wrap_i64 (n:=r.first+r.many) AOl AOl,wrap_i64 (n:=r.first+r.many-1) AOl AOl];unfold DY Ae;grind [wrap_i64]
theorem AJu (n:Int):(!Ae n 2 4 && !Ae n 6 7)=(!Ae n 2 7||(n==5)):=by unfold Ae;grind
theorem AHr (n:Int) (h:Ae n 2 7=true) (b:Bool):(!Ae n 3 4||b)=(decide (n>4)||((n==2)||b)):=by simp only[Ae,ar,aQ] at h;have h:n=2\/n=3\/n=4\/n=5\/n=6\/n=7:=AOl;rcases h with h | h | h | h | h | h<;>subst h<;>cases b<;>rfl
theorem Hy (r:DRef) (id:Int):Ctr prog 185 [.agg r.c,.c (.v (.int .i64 (id)))] [.val (.c (.v (.bool (DY r id))))]:=by
 refine CM call185 func185 ntmps185 results185 fun hw=>?_;rcases h1:decide (r.first>=0) with _ | _
 .simp only[go_sem,h1,DY,ac]
 rcases h2:decide (id>=r.first) with _ | _
 .simp only[go_sem,h1,h2,DY,ac,ah]
 simp only[go_sem,h1,h2,DY,ah]
theorem P6 {w:DWorld} (hf:AU w) {k:Nat} (hk:k<w.b.length):Ef w.b[k]:=by rw[AZ] at hf;exact hf.2.2.1.2 _ (an hk)
theorem Wi {w:DWorld} (hf:AU w):w.tasks.length<=1048576:=by rw[AZ] at hf;exact hf.2.2.2.2.2.2.1.1
theorem wQ {w:DWorld} (hf:AU w):w.b.length<=1048576:=by rw[AZ] at hf;exact hf.2.2.1.1
theorem AJv {w:DWorld} (hf:AU w) {k:Nat} (hk:k<w.b.length):w.b[k].c0.l.length<=1048576:=by have:=P6 hf hk;rw[GR,CO] at this;exact this.1.1
theorem AJw {w:DWorld} (hf:AU w):w.m.length<=1048576:=by rw[AZ] at hf;exact hf.2.2.2.1
theorem AHs {w:DWorld} (hf:AU w):w.x.length<=1048576:=by rw[AZ] at hf;exact hf.2.2.2.2.1
theorem AF4 {w:DWorld} (hf:AU w):w.p.length<=1048576:=by rw[AZ] at hf;exact hf.2.2.2.2.2.1
theorem lenD {w:DWorld} (hf:AU w):w.d.l.length<=1048576:=by rw[AZ,GU] at hf;exact hf.2.1
theorem AA5 {w:DWorld} (hf:AU w):w.deeds.length<=1048576:=by rw[AZ] at hf;exact hf.2.2.2.2.2.2.2.1
theorem gy (w:DWorld) (hf:AU w):Ctr prog 89 [.agg w.c] [.val (.c (.v (.bool (lN w))))]:=by
 refine CM call89 func89 ntmps89 results89 fun hw=>?_;have hb:=wQ hf;unfold lN;rcases h0:((w.b.length:Int)==w.c0.bufs) with _ | _
 .exact ANU
 have g0:((w.b.length:Int) != w.c0.bufs)=false:=by simp only[bne,h0,aD]
 simp only[go_sem,g0,ah];refine AAe 1 (A:=Nat) (fun x=>[(17,.c (.v (.int .i64 (x))))]) (fun _=>[⟨44,14,[w.c],true,true⟩]) (FW w.b (Py w)) (fun x=>w.b.length-x) 0 ⟨⟨rfl,rfl⟩,rfl,D9⟩ ?_;intro k hk;refine AOd (fun h=>?_) fun h=>?_
 .have hk':k<w.b.length:=by simpa using h
  simp only[go_sem,AA _ hk',hk'];refine CW (wJ w.c0.cols w.b[k] (P6 hf hk') (TL hw.1 hk')) fun _=>?_;rcases h1:gV w.c0.cols w.b[k] with _ | _
  .simp only[go_sem,h1,Ba (p:=Py w) hk' (by simp only[Py,h1,ac])]
  simp only[go_sem,h1];have hs:=AJv hf hk';refine AAe 2 (A:=Nat) (fun x=>[(31,.c (.v (.int .i64 (x))))]) (fun _=>[⟨44,14,[w.c],true,true⟩,⟨145,5,[w.b[k].c],true,true⟩]) (FW w.b[k].c0.l fun s=>!decide (s.ins>w.t)) (fun x=>w.b[k].c0.l.length-x) 0 ⟨⟨rfl,rfl⟩,rfl,D9⟩ ?_;intro j hj;refine AOd (fun h=>?_) fun h=>?_
  .have hj':j<w.b[k].c0.l.length:=by simpa using h
   rcases h2:decide (w.b[k].c0.l[j].ins>w.t) with _ | _
   .simp only[go_sem,AA _ hj',hj',h2,wrap_i64 (n:=(j:Int)+1) AOl AOl];exact⟨j+1,⟨rfl,rfl⟩,rfl,CB hj' hj (by simp only[h2,aH]),AOl⟩
   .have hno:=Ba (p:=fun s:DSlot=>!decide (s.ins>w.t)) hj' (by simp only[h2,aD]);simp only[go_sem,AA _ hj',hj',h2,Ba (p:=Py w) hk' (by simp only[Py,hno,ay])]
  .have hj':j=w.b[k].c0.l.length:=by have:=hj.1; simp at h; omega
   subst hj';have hyes:=DX hj;simp only[go_sem,wrap_i64 (n:=(k:Int)+1) AOl AOl];exact⟨k+1,⟨rfl,rfl⟩,rfl,CB hk' hk (by simp only[Py,h1,hyes,aw]),AOl⟩
 .have hk':k=w.b.length:=by have:=hk.1; simp at h; omega
  subst hk';simp only[go_sem,DX hk]
theorem Y1 (w:DWorld) (hf:AU w):Ctr prog 90 [.agg w.c] [.val (.c (.v (.bool (SY w))))]:=by
 refine CM call90 func90 ntmps90 results90 fun hw=>?_;have hb:=AJw hf;unfold SY;simp only[go_sem];refine AAe 1 (A:=Nat) (fun x=>[(8,.c (.v (.int .i64 (x))))]) (fun _=>[⟨44,14,[w.c],true,true⟩]) (FW w.m (Pz w.t)) (fun x=>w.m.length-x) 0 ⟨⟨rfl,rfl⟩,rfl,D9⟩ ?_;intro k hk;refine AOd (fun h=>?_) fun h=>?_
 .have hk':k<w.m.length:=by simpa using h
  simp only[go_sem,AA _ hk',hk'];refine AAO _ (WW w.m[k]) fun _=>?_;rcases h1:PG w.m[k] with _ | _
  .simp only[go_sem,h1,Ba (p:=Pz w.t) hk' (by simp only[Pz,h1,ac]),ac]
  rcases h2:decide (w.m[k]>w.t) with _ | _
  .simp only[go_sem,h1,h2,wrap_i64 (n:=(k:Int)+1) AOl AOl];exact AOK
  .simp only[go_sem,h1,h2,Ba (p:=Pz w.t) hk' (by simp only[Pz,h1,h2]; rfl),ac]
 .have hk':k=w.m.length:=by have:=hk.1; simp at h; omega
  subst hk';simp only[go_sem,DX hk,ah];try refine AAP ?_
  try simp only[go_sem]
  first | refine CY (Ov w.d (lenD hf)) ?_ | refine CW (Ov w.d (lenD hf)) fun _=>?_
  exact AJC
theorem Y2 (w:DWorld) (hf:AU w):Ctr prog 68 [.agg w.c] [.val (.c (.v (.bool (SY w))))]:=by
 refine CM call68 func68 ntmps68 results68 fun hw=>?_;have hb:=AJw hf;unfold SY;simp only[go_sem];refine AAe 1 (A:=Nat) (fun x=>[(3,.c (.v (.int .i64 (x))))]) (fun _=>[⟨44,14,[w.c],true,true⟩]) (FW w.m (Pz w.t)) (fun x=>w.m.length-x) 0 ⟨⟨rfl,rfl⟩,rfl,D9⟩ ?_;intro k hk;refine AOd (fun h=>?_) fun h=>?_
 .have hk':k<w.m.length:=by simpa using h
  simp only[go_sem,AA _ hk',hk'];try refine AAP ?_
  try simp only[go_sem,AA _ hk',hk']
  first | refine AAt _ (Qi w.m[k]) ?_ | refine AAO _ (Qi w.m[k]) fun _=>?_
  rcases h1:PG w.m[k] with _ | _
  .simp only[go_sem,h1,Ba (p:=Pz w.t) hk' (by simp only[Pz,h1,ac]),ac]
  rcases h2:decide (w.m[k]>w.t) with _ | _
  .simp only[go_sem,AA _ hk',hk',h1,h2,wrap_i64 (n:=(k:Int)+1) AOl AOl];exact AOK
  .simp only[go_sem,AA _ hk',hk',h1,h2,Ba (p:=Pz w.t) hk' (by simp only[Pz,h1,h2]; rfl),ac]
 .have hk':k=w.m.length:=by have:=hk.1; simp at h; omega
  subst hk';simp only[go_sem,DX hk,ah];try refine AAP ?_
  try simp only[go_sem]
  first | refine CY (Ox w.d (lenD hf)) ?_ | refine CW (Ox w.d (lenD hf)) fun _=>?_
  exact AJC
theorem wR {w:DWorld} {n:Int} {k:Nat} (h:n=k) (hk:k<w.b.length):UF w n=some w.b[k]:=by subst h;simp[UF,hk]
theorem gz (w:DWorld) (hf:AU w):Ctr prog 92 [.agg w.c] [.val (.c (.v (.bool (gp w))))]:=by
 refine CM call92 func92 ntmps92 results92 fun hw=>?_;have hb:=AHs hf;have hlb:=wQ hf;unfold gp;simp only[go_sem];refine AAe 1 (A:=Nat) (fun x=>[(8,.c (.v (.int .i64 (x))))]) (fun _=>[⟨44,14,[w.c],true,true⟩]) (FW w.x (ML w)) (fun x=>w.x.length-x) 0 ⟨⟨rfl,rfl⟩,rfl,D9⟩ ?_;intro k hk;refine AOd (fun h=>?_) fun h=>?_
 .have hk':k<w.x.length:=by simpa using h
  simp only[go_sem,AA _ hk',hk'];refine AAP ?_;rcases DZ w w.x[k].buf with ⟨m,hm,hbm,hat⟩ | ⟨hbm,hat⟩
  .have e1:decide ((m:Int)<0)=false:=by simp
   have e2:decide ((m:Int)>=w.b.length)=false:=AOn;rcases h1:w.b[m].gen==w.x[k].gen with _ | _
   .have g1:(w.b[m].gen != w.x[k].gen)=true:=by simp[bne,h1]
    simp only[go_sem,AA _ hk',hk',hbm,e1,e2,AA _ hm,hm,g1,Ba (p:=ML w) hk' (by simp only[ML,hat,h1,ac])]
   have g1:(w.b[m].gen != w.x[k].gen)=false:=AQf;simp only[go_sem,AA _ hk',hk',hbm,e1,e2,AA _ hm,hm,g1];refine AAt _ (AL w.x[k].at0 0 w.e) ?_;rcases h2:Ae w.x[k].at0 0 w.e with _ | _
   .simp only[go_sem,h2,Ba (p:=ML w) hk' (by simp only[ML,hat,h1,h2,ay])]
   .simp only[go_sem,h2,wrap_i64 (n:=(k:Int)+1) AOl AOl];exact⟨k+1,⟨rfl,rfl⟩,rfl,CB hk' hk (by simp only[ML,hat,h1,h2,aw]),AOl⟩
  .have hno:=Ba (p:=ML w) hk' (by simp only[ML,hat]);rcases h0:decide (w.x[k].buf<0) with _ | _
   .have e2:decide (w.x[k].buf>=(w.b.length:Int))=true:=by simp at h0 ⊢; omega
    simp only[go_sem,AA _ hk',hk',h0,e2,hno]
   .simp only[go_sem,AA _ hk',hk',h0,hno]
 .have hk':k=w.x.length:=by have:=hk.1; simp at h; omega
  subst hk';simp only[go_sem,DX hk]
theorem g_ (t:DTask):Ctr prog 188 [.agg t.c] [.val (.c (.v (.bool (t.op==0))))]:=by refine CM call188 func188 ntmps188 results188 fun hw=>?_;exact AJC
theorem Y3 (t:DTask):Ctr prog 187 [.agg t.c] [.val (.c (.v (.bool (looks t))))]:=by refine CM call187 func187 ntmps187 results187 fun hw=>?_;rcases h1:t.op != 0 with _ | _<;>simp only[go_sem,h1,looks,ac,ah]
theorem Y4 (t:DTask):Ctr prog 155 [.agg t.c] [.val (.c (.v (.bool (looks t))))]:=by refine CM call155 func155 ntmps155 results155 fun hw=>?_;rcases h1:t.op != 0 with _ | _<;>simp only[go_sem,h1,looks,ac,ah]
def MM (c:DChunk) (i:Int):Bool:=decide (i>=0)&&decide (i<(c.l.length:Int))
theorem IX (c:DChunk) (i:Int):Ctr prog 255 [.agg c.c,.c (.v (.int .i64 (i)))] [.val (.c (.v (.bool (MM c i))))]:=by refine CM call255 func255 ntmps255 results255 fun hw=>?_;rcases h1:decide (i>=0) with _ | _<;>simp only[go_sem,h1,MM,ac,ah]
theorem AA6 {w:DWorld} {n:Int} (hb:w.b.length<=1048576) (h:Ae n 1 w.b.length=true):∃ m:Nat,∃ hm:m<w.b.length,IntKind.i64.wrap (n-1)=(m:Int)/\(n-1).toNat=m:=by simp only[Ae,ar,aQ] at h;refine⟨(n-1).toNat,AOl, ?_,rfl⟩;rw[wrap_i64 AOl AOl];omega
theorem Lc (w:DWorld) (t:DTask) (kind:Int) (hf:AU w):Ctr prog 189 [.agg w.c,.agg t.c,.c (.v (.int .i64 (kind)))] [.val (.c (.v (.bool (NC w t kind))))]:=by
 refine CM call189 func189 ntmps189 results189 fun hw=>?_;unfold NC;simp only[go_sem];refine AAO _ (AL t.own 1 w.b.length) fun _=>?_;rcases h1:Ae t.own 1 w.b.length with _ | _
 .exact AL1
 obtain⟨m,hm,e1,e2⟩:=AA6 (wQ hf) h1;simp only[go_sem,h1,e1,e2,AA _ hm,hm,am hm,ah]
theorem X7 {w:DWorld} {r:DRef} (h:there w r=true) (hk:(r.kind==1)=true):∃ m:Nat,∃ hm:m<w.b.length,r.buf=(m:Int)/\(w.b[m].c0.l.length:Int)=r.many:=by
 unfold there at h;obtain⟨m,hm,hb,hat⟩ | ⟨hb,hat⟩:=DZ w r.buf
 .rw[hat] at h;refine⟨m,hm,hb, ?_⟩;have hk1:r.kind=1:=APQ;simp only[QL,hk1,ar,aaN] at h;rcases h.2.2 with h2 | h2
  .simp at h2
  .simpa using h2
 .rw[hat] at h;cases h
theorem AA7 {t:DTask} (h:((t.l.length:Int)==1)=true):∃ h0:0<t.l.length,l0 t=t.l[0]:=by have h1:(t.l.length:Int)=1:=qX.1 h;refine⟨AOl, ?_⟩;unfold l0;rw[List.headD_eq_head?_getD,List.head?_eq_getElem?,am AOl];rfl
theorem X8 {w:DWorld} {l:List DRef} (h:l.all (there w)=true) {k:Nat} (hk:k<l.length):there w l[k]=true:=aC.1 h _ (an hk)
structure TaskIn (w:DWorld) (t:DTask) (d:DDeed) (m:Nat):Prop where
 hm:m<w.deeds.length
 hd:w.deeds[m]=d
 ht:t.h=m
 ft:Ei t
 fd:Ej d
 th:t.l.all (there w)=true
 i0:0<=t.i
 j0:0<=t.j
 fr:∀ r∈t.l,Eh r=true
theorem Ls (w:DWorld) (t:DTask) (d:DDeed) {m:Nat} (hf:AU w) (H:TaskIn w t d m):Ctr prog 190 [.agg w.c,.agg t.c] [.val (.c (.v (.bool (AER w t d))))]:=by
 obtain⟨hm,hd,ht,hft,hfd,hth,hi,hj,hfr⟩:=H;refine CM call190 func190 ntmps190 results190 fun hw=>?_;rw[Dy] at hft;rw[G8] at hfd;unfold AER;simp only[go_sem];try refine AAP ?_
 try simp only[go_sem]
 first | refine AAt _ (QH w.c0.cols t.r) ?_ | refine AAO _ (QH w.c0.cols t.r) fun _=>?_
 rcases h1:fits w.c0.cols t.r with _ | _
 .exact AL1
 simp only[go_sem,h1,ht,AA _ hm,hm,hd,ah];try refine AAP ?_
 try simp only[go_sem,h1,ht,AA _ hm,hm,hd]
 first | refine AAt _ (SB t.r d.r hft.1.1 hfd.1.1) ?_ | refine AAO _ (SB t.r d.r hft.1.1 hfd.1.1) fun _=>?_
 rcases h2:N8 t.r d.r with _ | _
 .simp only[go_sem,h2,ac]
 simp only[go_sem,h2,ah];try refine AAP ?_
 try simp only[go_sem]
 first | refine AAt _ (AL t.pc 2 4) ?_ | refine AAO _ (AL t.pc 2 4) fun _=>?_
 by_cases hq:(!Ae t.pc 2 4 && !Ae t.pc 6 7)=true
 .rw[hq,P7];simp only[ar,aa8] at hq;simp only[go_sem,hq.1];try refine AAP ?_
  try simp only[go_sem,hq.1]
  first | refine AAt _ (AL t.pc 6 7) ?_ | refine AAO _ (AL t.pc 6 7) fun _=>?_
  simp only[go_sem,hq.2]
 have hq2:(!Ae t.pc 2 4 && !Ae t.pc 6 7)=false:=API;rw[hq2,be]
 have hc:Ae t.pc 2 4=true\/(Ae t.pc 2 4=false/\Ae t.pc 6 7=true):=by
  rcases h3:Ae t.pc 2 4 with _ | _
  .rw[h3] at hq2;exact .inr ⟨rfl,by simpa using hq2⟩
  .exact .inl rfl
 rcases hc with h3 | ⟨h3,h4⟩;rotate_left;simp only[go_sem,h3];try refine AAP ?_
 try simp only[go_sem,h3]
 first | refine AAt _ (AL t.pc 6 7) ?_ | refine AAO _ (AL t.pc 6 7) fun _=>?_
 simp only[go_sem,h4];rotate_left;simp only[go_sem,h3]
 all_goals
  rcases h5:((t.l.length:Int)==1) with _ | _
  .exact AKh
  have g5:((t.l.length:Int) != 1)=false:=AQb
  obtain⟨h0,hl0⟩:=AA7 h5
  rw[hl0,ah]
  rcases h6:t.l[0].kind==1 with _ | _
  .exact AML
  have g6:(t.l[0].kind != 1)=false:=by simp[bne,h6]
  obtain⟨q,hq,hqb,hqm⟩:=X7 (X8 hth h0) h6
  have hsl:MM w.b[q].c0 t.i=decide (t.i<t.l[0].many):=by
   have e:decide (t.i>=0)=true:=by simpa using hi
   unfold MM;rw[e,hqm,ah]
  simp only[go_sem,g5,g6,AA _ h0,h0,ah]
  try refine AAP ?_
  try simp only[go_sem,g5,g6,AA _ h0,h0]
  rcases h7:t.pc==2 with _ | _
  .simp only[go_sem,h7,AA _ h0,h0,hqb,AA _ hq,hq,be]
   try refine AAP ?_
   try simp only[go_sem,h7,AA _ h0,h0,hqb,AA _ hq,hq]
   first | refine CY (IX w.b[q].c0 t.i) ?_ | refine CW (IX w.b[q].c0 t.i) fun _=>?_
   simp only[go_sem,hsl]
  .simp only[go_sem,h7,P7]
   try refine AAP ?_
   try simp only[go_sem,h7]
theorem Sj (w:DWorld) (t:DTask) (d:DDeed) {m:Nat} (hf:AU w) (H:TaskIn w t d m):Ctr prog 191 [.agg w.c,.agg t.c] [.val (.c (.v (.bool (wK w t d))))]:=by
 obtain⟨hm,hd,ht,hft,hfd,hth,hi,hj,hfr⟩:=H;refine CM call191 func191 ntmps191 results191 fun hw=>?_;unfold wK;rcases h1:t.id==d.id with _ | _
 .have g1:(t.id != d.id)=true:=by simp[bne,h1]
  simp only[go_sem,ht,AA _ hm,hm,hd,g1,ac];try refine AAP ?_
  try simp only[go_sem,ht,AA _ hm,hm,hd,g1]
 have g1:(t.id != d.id)=false:=AQf;simp only[go_sem,ht,AA _ hm,hm,hd,g1,ah];try refine AAP ?_
 try simp only[go_sem,ht,AA _ hm,hm,hd,g1]
 try refine AAP ?_
 try simp only[go_sem]
 first | refine AAt _ (AL t.pc 2 7) ?_ | refine AAO _ (AL t.pc 2 7) fun _=>?_
 rcases h2:Ae t.pc 2 7 with _ | _
 .simp only[go_sem,h2,aH,P7]
 simp only[go_sem,h2,aD,be];rcases h5:((t.l.length:Int)==1) with _ | _
 .exact AKh
 have g5:((t.l.length:Int) != 1)=false:=AQb;obtain⟨h0,hl0⟩:=AA7 h5;rw[hl0,ah];try refine AAP ?_
 try simp only[go_sem,g5,AA _ h0,h0]
 first | refine CY (Hy t.l[0] t.id) ?_ | refine CW (Hy t.l[0] t.id) fun _=>?_
 rcases h6:DY t.l[0] t.id with _ | _
 .simp only[go_sem,h6,ac]
 rcases h7:decide (t.id<(w.m.length:Int)) with _ | _
 .have g7:decide (t.id>=(w.m.length:Int))=true:=by simp at h7 ⊢; omega
  simp only[go_sem,h6,g7,ac,ah]
 have g7:decide (t.id>=(w.m.length:Int))=false:=by simp at h7 ⊢; omega
 simp only[go_sem,h6,g7,ah];try refine AAP ?_
 try simp only[go_sem]
 first | refine AAt _ (AL t.pc 3 4) ?_ | refine AAO _ (AL t.pc 3 4) fun _=>?_
 rcases h8:Ae t.pc 3 4 with _ | _
 .simp only[go_sem,h8,aH,P7]
 .simp only[go_sem,h8,AA _ h0,h0,aD,be]
def Qo:DRow:=⟨0,[]⟩
theorem qM (w:DWorld) (r:DRef) {q m:Nat} (hf:AU w) (hq:q<w.b.length) (hb:r.buf=(q:Int)) (hth:there w r=true) (hk:(r.kind==1)=true) (hm:m<w.b[q].c0.l.length) :
  Ctr prog 258 [.agg w.c,.agg r.c,.c (.v (.int .i64 ((m:Int))))] [.agg (DRow.o ⟨IntKind.i64.wrap (r.first+m),w.b[q].c0.l[m].l⟩),.val (.c (.v (.bool (true))))]:=by
 have hat:=wR hb hq
 have hc:BO w r=(w.b[q].c0,true):=by unfold BO;simp only[there,hat] at hth;simp[hat,hth,hk]
 have hco:=Ja w r
 rw[hc] at hco
 have hfl:w.b[q].c0.l[m].l.length<=1048576:=by have:=P6 hf hq;rw[GR,CO] at this;have h2:=this.1.2 _ (an hm);rw[Jk] at h2;exact h2.1
 refine CM call258 func258 ntmps258 results258 fun hw=>?_
 simp only[go_sem]
 try refine AAP ?_
 try simp only[go_sem]
 first | refine CY (hco) ?_ | refine CW (hco) fun _=>?_
 simp only[go_sem]
 try refine AAP ?_
 try simp only[go_sem]
 first | refine CY (IX w.b[q].c0 (m:Int)) ?_ | refine CW (IX w.b[q].c0 (m:Int)) fun _=>?_
 have hs:MM w.b[q].c0 (m:Int)=true:=by simp[MM]; exact hm
 simp only[go_sem,hs,AA _ hm,hm]
 refine AAR ?_
 simp only[go_sem,hs,AA _ hm,hm]
 refine ABg _ (F_ w.b[q].c0.l[m].l hfl) ?_
 simp only[go_sem,Ce,AA _ hm,hm]
 try exact AIG
theorem ACT (w:DWorld) (r:DRef) (j:Int) (hf:AU w) (hth:there w r=true) (hk:(r.kind==1)=true) (hm:decide (j<r.many)=false) :
  Ctr prog 258 [.agg w.c,.agg r.c,.c (.v (.int .i64 (j)))] [.val (.agg Qo.c),.val (.c (.v (.bool (false))))]:=by
 obtain⟨q,hq,hb,hmn⟩:=X7 hth hk
 have hat:=wR hb hq
 have hc:BO w r=(w.b[q].c0,true):=by unfold BO;simp only[there,hat] at hth;simp[hat,hth,hk]
 have hco:=Ja w r
 rw[hc] at hco
 have hk2:(r.kind==2)=false:=by have:r.kind=1:=APQ; rw[this]; rfl
 have hgr:=IL w r hf
 rw[hk2,ac] at hgr
 refine CM call258 func258 ntmps258 results258 fun hw=>?_
 simp only[go_sem]
 try refine AAP ?_
 try simp only[go_sem]
 first | refine CY (hco) ?_ | refine CW (hco) fun _=>?_
 simp only[go_sem]
 try refine AAP ?_
 try simp only[go_sem]
 first | refine CY (IX w.b[q].c0 j) ?_ | refine CW (IX w.b[q].c0 j) fun _=>?_
 have hs:MM w.b[q].c0 j=false:=by unfold MM; rw[hmn,hm,ay]
 simp only[go_sem,hs]
 try refine AAP ?_
 try simp only[go_sem,hs]
 first | refine AAt _ (by simpa only[go_sem,ap,ax,aL] using hgr) ?_ | refine AAO _ (by simpa only[go_sem,ap,ax,aL] using hgr) fun _=>?_
 rcases h0:decide (j>=0) with _ | _
 .simp only[go_sem,h0,Qo,ap]
 have e1:decide (j<0)=false:=by simp at h0 ⊢; omega
 have e2:decide (j<(((0:Nat)):Int))=false:=e1
 simp only[go_sem,h0,aj,abH,e1,e2,Qo,ap]
theorem zS (w:DWorld) (r:DRef) (j:Int) (hf:AU w) (hth:there w r=true) (hk:(r.kind==1)=false) (hk2:(r.kind==2)=true) (h0:0<=j) :
  Ctr prog 258 [.agg w.c,.agg r.c,.c (.v (.int .i64 (j)))] (match (Dc w r)[j.toNat]? with
   | none=>[.val (.agg Qo.c),.val (.c (.v (.bool (false))))]
   | some x=>[.val (.agg x.c),.val (.c (.v (.bool (true))))]):=by
 have hc:BO w r=(Gp,false):=by
  unfold BO;split
  .rfl
  .simp[hk]
 have hco:=Ja w r
 rw[hc] at hco
 have hgr:=IL w r hf
 rw[hk2,hth] at hgr
 have hgl:=Oq w r
 refine CM call258 func258 ntmps258 results258 fun hw=>?_
 simp only[go_sem]
 try refine AAP ?_
 try simp only[go_sem]
 first | refine AAt _ (by simpa only[go_sem,Gp,ap] using hco) ?_ | refine AAO _ (by simpa only[go_sem,Gp,ap] using hco) fun _=>?_
 simp only[go_sem]
 try refine AAP ?_
 try simp only[go_sem]
 first | refine AAt _ (by simpa only[go_sem,ah,aO] using hgr) ?_ | refine AAO _ (by simpa only[go_sem,ah,aO] using hgr) fun _=>?_
 have e0:decide (j>=0)=true:=AP0
 rcases bh j.toNat (Dc w r).length with hm | hm
 .obtain⟨m,rfl⟩:=aF h0
  have hm:m<(Dc w r).length:=by simpa using hm
  have e1:decide ((m:Int)<((Dc w r).length:Int))=true:=AOn
  rw[aZ,am hm]
  simp only[go_sem,e0,e1,AA _ hm,hm]
 .have e1:decide (j<((Dc w r).length:Int))=false:=by simp; omega
  rw[jq hm]
  simp only[go_sem,e0,e1,Qo,ap]
