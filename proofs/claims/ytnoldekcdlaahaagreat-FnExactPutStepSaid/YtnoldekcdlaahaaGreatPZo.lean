/- A part. -/
import Derived.Test.YtnoldekcdlaahaaGreatPZk
import Derived.Test.YtnoldekcdlaahaaGreatPZd
import Derived.Test.YtnoldekcdlaahaaGreatPXd
set_option linter.unusedSimpArgs false
set_option linter.unusedVariables false
set_option maxHeartbeats 4000000
set_option maxRecDepth 10000
open Go.Proofs.Tryz
namespace Go.Proofs.YtnoldekcdlaahaaGreat
open Go.Vm
section
variable {p q r:Prop}
theorem ALb(h:p:=by
 refine ACU 13 9 (by kernel_rfl) ?_
 simp only[go_sem,AA _ hk2,hk2,aK,ag,aj]
 refine ACI _ (by simpa only[go_sem,QE,di] using hro) ?_
 rcases h7:decide (t.pc≤5) with _ | _<;>simp only[go_sem,h7,AA _ hk2,hk2,k1]):p:=h
end
def CU (r:DRef) (id:Int):Bool:=decide (r.first≥0)&&(decide (id≥r.first)&&decide (IntKind.i64.wrap (id-r.first)<r.many))
noncomputable def O9 (w:DWorld) (b:DBuf):Bool:=gI w.c0.cols b&&b.c0.l.all fun s=>!decide (s.ins>w.t)
def O_ (t m:Int):Bool:=OX m && !decide (m>t)
noncomputable def kT (w:DWorld) (r:DRef):List DRow:=if(r.kind==2&&there w r)=true then Ej w r else []
noncomputable def RY (w:DWorld) (r:DRef):Bool:=there w r&&(!((r.kind==1)&&(r.many != w.c0.slots))&&(kT w r).all fun x=>CU r x.id)
def Lj (w:DWorld) (d:DDead):Bool:=match O3 w d.buf with
 | none=>false
 | some b=>(b.gen==d.gen)&&Ad d.at0 0 w.e
def pK (w:DWorld) (i:Nat):Nat:=w.x.countP (fun d=>d.buf==(i:Int))+w.tasks.countP (fun t=>t.own==(i:Int)+1)
def QA (n:Int) (b:DBuf):Bool:=!(((b.kind==0)&&decide (n>0))||((b.kind != 0)&&(n != 1)))
def QB (l:List DRef) (i:Nat):Nat:=l.countP (fun r=>r.buf==(i:Int))
def QC (w:DWorld) (i:Nat) (b:DBuf):Bool:=QA ((QB w.d.l i+pK w i:Nat):Int) b
def deed1 (w:DWorld) (d:DDeed):Bool:=Ff d&&(!decide (d.inv≥w.time)&&(!decide (d.lin≥w.time) && !decide (d.ret≥w.time)))
def looks (t:DTask):Bool:=(t.op != 0)&&decide (t.pc≥1)
def l0 (t:DTask):DRef:=t.l.headD ⟨0,0,0,0,0⟩
def ACC (w:DWorld) (t:DTask) (d:DDeed):Bool:=fits w.c0.cols t.r&&(NE t.r d.r&&((!Ad t.pc 2 4 && !Ad t.pc 6 7)||(((t.l.length:Int)==1)&&(((l0 t).kind==1)&&((t.pc==2)||decide (t.i<(l0 t).many))))))
def ve (w:DWorld) (t:DTask) (d:DDeed):Bool:=(t.id==d.id)&&(!Ad t.pc 2 7||(((t.l.length:Int)==1)&&(CU (l0 t) t.id&&(decide (t.id<(w.m.length:Int))&&(!Ad t.pc 3 4||((l0 t).kind==1))))))
noncomputable def pM (w:DWorld) (t:DTask) (r:DRef):Bool:=if(r.kind==1)=true then decide (t.j<r.many)&&(decide (t.pc<6)||decide (IntKind.i64.wrap (r.first+t.j)<(w.m.length:Int))) else
 decide (t.pc≥6)&&(match (Ej w r)[t.j.toNat]? with
  | none=>false
  | some x=>decide (x.id<(w.m.length:Int)))
noncomputable def vg (w:DWorld) (t:DTask) (d:DDeed):Bool:=Bz w.c0.cols t.q&&(V3 t.q d.q&&(!decide (t.ts>w.t)&&(!Ad t.pc 3 8||(!decide (t.i>(t.l.length:Int))&&((t.pc==3)||(match t.l[t.i.toNat]? with
 | none=>false
 | some r=>pM w t r))))))
def AAo (t:DTask):Bool:=!Ad t.pc 2 5||Ad (t.l.length:Int) 1 2
noncomputable def swB (w:DWorld) (t:DTask) (d:DDeed):Bool:=if(t.op==1)=true then ACC w t d else if(t.op==2)=true then ve w t d else if(t.op==3)=true then vg w t d else AAo t
def TV (w:DWorld) (t:DTask) (kind:Int):Bool:=Ad t.own 1 w.b.length&&(match w.b[(t.own-1).toNat]? with
 | none=>false
 | some b=>b.kind==kind)
def gQ (w:DWorld) (t:DTask):Int:=match w.b[(t.own-1).toNat]? with
 | none=>0
 | some b=>b.c0.l.length
def ownB (w:DWorld) (t:DTask):Bool:=if((t.op==1)&&(t.pc==8))=true then TV w t 1&&(gQ w t==w.c0.slots) else if((t.op==4)&&Ad t.pc 4 5)=true then TV w t 2 else t.own==0
def gU (k:Int) (t:DTask) (d:DDeed):Bool:=(d.task==k)&&((d.op==t.op)&&(d.ret == -1))
noncomputable def gV (w:DWorld) (k:Int) (t:DTask):Bool:=match w.deeds[t.h.toNat]? with
 | none=>false
 | some d=>gU k t d&&(t.l.all (there w)&&(ownB w t&&swB w t d))
noncomputable def QL (w:DWorld) (k:Int) (t:DTask) (p:Int):Bool:=G8 t k&&(((p != -1)==looks t)&&((t.op==0)||gV w k t))
noncomputable def kU (w:DWorld):Bool:=((w.b.length:Int)==w.c0.bufs)&&w.b.all (O9 w)
def RZ (w:DWorld):Bool:=w.m.all (O_ w.t)&&((w.m.length:Int)==endOf w.d)
noncomputable def gW (w:DWorld):Bool:=w.d.l.all (RY w)
def gX (w:DWorld):Bool:=w.x.all (Lj w)
noncomputable def Rf {α:Type} (l:List α) (p:Nat→α→Bool):Bool:=@decide (∀ k (h:k<l.length),p k l[k]=true) (Classical.propDecidable _)
theorem JJ {α:Type} {l:List α} {p:Nat→α→Bool} {k:Nat} (h:k<l.length) (hp:p k l[k]=false):Rf l p=false:=by
 simp only[Rf,aaA]
 grind
def vk {α:Type} (l:List α) (p:Nat→α→Bool) (n:Nat):Prop:=n≤l.length∧∀ k (h:k<l.length),k<n→p k l[k]=true
theorem pO {α:Type} {l:List α} {p:Nat→α→Bool}:vk l p 0:=⟨aA _,fun _ _ h=>AOQ⟩
theorem OG {α:Type} {l:List α} {p:Nat→α→Bool} {k:Nat} (hk:k<l.length) (h:vk l p k) (hc:p k l[k]=true):vk l p (k+1):=⟨hk,fun i h2 h3=>by
 by_cases e:i=k
 ·grind
 ·exact h.2 i h2 AOQ⟩
theorem TE {α:Type} {l:List α} {p:Nat→α→Bool} (h:vk l p l.length):Rf l p=true:=by
 simp only[Rf,aZ]
 exact fun k hk=>h.2 k hk hk
theorem XO {α:Type} {l:List α} {p:Nat→α→Bool}:Rf l p=true↔∀ k (h:k<l.length),p k l[k]=true:=by
 simp only[Rf,aZ]
noncomputable def pR (w:DWorld):Bool:=Rf w.tasks fun k t=>QL w k t (w.p[k]?.getD 0)
def XP (w:DWorld):Bool:=w.deeds.all (deed1 w)
noncomputable def V8 (w:DWorld):Bool:=Rf w.b (QC w)
def headB (w:DWorld):Bool:=L8 w.c0&&(Ad w.time 0 1000000&&(Ad w.t 1 1000000&&Ad w.e 0 1000000))
noncomputable def Ec (w:DWorld):Bool:=headB w&&(Il w.d&&(!decide (w.d.ver>1000000)&&(kU w&&(RZ w&&(gW w&&(gX w&&(((w.tasks.length:Int)==5)&&(((w.p.length:Int)==5)&&(OY w.p w.e&&(pR w&&(XP w&&V8 w)))))))))))
theorem gY (n:Nat):∀ (l:List DRef) (e:Int) (seen:List DRef),JU e seen l=true→(E5 seen n=true→QB l n=0)∧QB l n≤1
 | [],_,_,_=>⟨fun _=>rfl,aA _⟩
 | r::l,e,seen,h=>by
  rw[JU] at h
  simp only[ay,aaV] at h
  obtain⟨_,_,h3,h4⟩:=h
  obtain⟨g1,g2⟩:=gY n l _ _ h4
  have ha:E5 (seen ++ [r]) n=(E5 seen n||(r.buf==(n:Int))):=by simp[E5]
  rw[ha] at g1
  unfold QB at g1 g2 ⊢
  grind
theorem AF2 (l:List DRef) (n:Nat):(0<QB l n)↔E5 l n=true:=by
 unfold QB E5
 simp_all
theorem ACD {d:DDir} (h:Il d=true) (n:Nat):QB d.l n=if E5 d.l n=true then 1 else 0:=by
 simp only[Il,ay] at h
 have h1:=(gY n _ _ _ h.2.2).2
 grind [AF2]
theorem gZ:∀ (l:List DRef) (e:Int) (seen:List DRef),JU e seen l=true→0≤e→e+l.length*1000000000≤9000000000000→∀ r∈l,Ef r=true∧0≤r.first∧r.first≤9000000000000
 | [],_,_,_,_,_=>AOR
 | r::l,e,seen,h,h0,hb=>by
  rw[JU] at h
  simp only[ay,iP] at h
  obtain⟨h1,h2,h3,h4⟩:=h
  have hm:1≤r.many∧r.many≤1000000000:=by
   simp only[Ef,Ad,ay,aZ] at h1
   exact h1.2.2.2
  have hl:((r::l).length:Int)=l.length+1:=AOR
  rw[hl] at hb
  have hw:IntKind.i64.wrap (e+r.many)=e+r.many:=wrap_i64 AOQ AOQ
  rw[hw] at h4
  intro x hx
  rcases SK.1 hx with rfl | hx
  ·grind
  ·exact gZ l _ _ h4 AOQ AOQ x hx
theorem ACE {d:DDir} (h:Il d=true) {r:DRef} (hr:r∈d.l):Ef r=true∧0≤r.first∧r.first≤9000000000000:=by
 simp only[Il,ay,aaV,aaA] at h
 grind [gZ]
def UX (w:DWorld) (i:Nat) (b:DBuf):Bool:=QA (((if E5 w.d.l i=true then 1 else 0)+pK w i:Nat):Int) b
theorem vz {w:DWorld} (h:Il w.d=true) (i:Nat) (b:DBuf):UX w i b=QC w i b:=by
 unfold UX QC
 rw[ACD h]
theorem ACF {r:DRef} (h:Ef r=true) (h0:0≤r.first) (h1:r.first≤9000000000000) (id:Int) (hid : -9223372036854775808≤id∧id≤9223372036854775807):CU r id=Ad id r.first (IntKind.i64.wrap (IntKind.i64.wrap (r.first+r.many)-1)):=by
 have hm:1≤r.many∧r.many≤1000000000:=by
  simp only[Ef,Ad,ay,aZ] at h
  exact h.2.2.2
 rw[wrap_i64 (n:=r.first+r.many) AOQ AOQ,wrap_i64 (n:=r.first+r.many-1) AOQ AOQ]
 unfold CU Ad
 grind [wrap_i64]
theorem AJr (n:Int):(!Ad n 2 4 && !Ad n 6 7)=(!Ad n 2 7||(n==5)):=by
 unfold Ad
 grind
theorem AHu (n:Int) (h:Ad n 2 7=true) (b:Bool):(!Ad n 3 4||b)=(decide (n>4)||((n==2)||b)):=by
 simp only[Ad,ay,aZ] at h
 have h:n=2∨n=3∨n=4∨n=5∨n=6∨n=7:=AOQ
 rcases h with h | h | h | h | h | h<;>subst h<;>cases b<;>rfl
theorem G9 (r:DRef) (id:Int):Ctr prog 226 [.agg r.c,.c (.v (.int .i64 (id)))] [.val (.c (.v (.bool (CU r id))))]:=by
 refine CM call226 func226 ntmps226 results226 fun hw=>?_
 rcases h1:decide (r.first≥0) with _ | _
 ·simp only[go_sem,h1,CU,ag]
 rcases h2:decide (id≥r.first) with _ | _
 ·simp only[go_sem,h1,h2,CU,ag,aj]
 simp only[go_sem,h1,h2,CU,aj]
theorem PD {w:DWorld} (hf:Aa w) {k:Nat} (hk:k<w.b.length):E8 w.b[k]:=by
 rw[Ar] at hf
 exact hf.2.2.1.2 _ (ax hk)
theorem V9 {w:DWorld} (hf:Aa w):w.tasks.length≤1048576:=by
 rw[Ar] at hf
 exact hf.2.2.2.2.2.2.1.1
theorem v_ {w:DWorld} (hf:Aa w):w.b.length≤1048576:=by
 rw[Ar] at hf
 exact hf.2.2.1.1
theorem AJs {w:DWorld} (hf:Aa w) {k:Nat} (hk:k<w.b.length):w.b[k].c0.l.length≤1048576:=by
 have:=PD hf hk
 rw[Fa,CE] at this
 exact this.1.1
theorem AJt {w:DWorld} (hf:Aa w):w.m.length≤1048576:=by
 rw[Ar] at hf
 exact hf.2.2.2.1
theorem AHv {w:DWorld} (hf:Aa w):w.x.length≤1048576:=by
 rw[Ar] at hf
 exact hf.2.2.2.2.1
theorem AF3 {w:DWorld} (hf:Aa w):w.p.length≤1048576:=by
 rw[Ar] at hf
 exact hf.2.2.2.2.2.1
theorem lenD {w:DWorld} (hf:Aa w):w.d.l.length≤1048576:=by
 rw[Ar,IG] at hf
 exact hf.2.1
theorem AAp {w:DWorld} (hf:Aa w):w.deeds.length≤1048576:=by
 rw[Ar] at hf
 exact hf.2.2.2.2.2.2.2.1
theorem gm (w:DWorld) (hf:Aa w):Ctr prog 104 [.agg w.c] [.val (.c (.v (.bool (kU w))))]:=by
 refine CM call104 func104 ntmps104 results104 fun hw=>?_
 have hb:=v_ hf
 unfold kU
 rcases h0:((w.b.length:Int)==w.c0.bufs) with _ | _
 ·exact ANG
 have g0:((w.b.length:Int) != w.c0.bufs)=false:=by simp only[bne,h0,aP]
 simp only[go_sem,g0,aj]
 refine ABK 1 (A:=Nat) (fun x=>[(17,.c (.v (.int .i64 (x))))]) (fun _=>[⟨44,14,[w.c],true,true⟩]) (FC w.b (O9 w)) (fun x=>w.b.length-x) 0 ⟨⟨rfl,rfl⟩,rfl,DZ⟩ ?_
 intro k hk
 refine AOJ (fun h=>?_) fun h=>?_
 ·have hk':k<w.b.length:=by simpa using h
  simp only[go_sem,AA _ hk',hk']
  refine CW (vY w.c0.cols w.b[k] (PD hf hk') (Vd hw.1 hk')) fun _=>?_
  rcases h1:gI w.c0.cols w.b[k] with _ | _
  ·simp only[go_sem,h1,BU (p:=O9 w) hk' (by simp only[O9,h1,ag])]
  simp only[go_sem,h1]
  have hs:=AJs hf hk'
  refine ABK 2 (A:=Nat) (fun x=>[(31,.c (.v (.int .i64 (x))))]) (fun _=>[⟨44,14,[w.c],true,true⟩,⟨142,5,[w.b[k].c],true,true⟩]) (FC w.b[k].c0.l fun s=>!decide (s.ins>w.t)) (fun x=>w.b[k].c0.l.length-x) 0 ⟨⟨rfl,rfl⟩,rfl,DZ⟩ ?_
  intro j hj
  refine AOJ (fun h=>?_) fun h=>?_
  ·have hj':j<w.b[k].c0.l.length:=by simpa using h
   rcases h2:decide (w.b[k].c0.l[j].ins>w.t) with _ | _
   ·simp only[go_sem,AA _ hj',hj',h2,wrap_i64 (n:=(j:Int)+1) AOQ AOQ]
    exact⟨j+1,⟨rfl,rfl⟩,rfl,BH hj' hj (by simp only[h2,aS]),AOQ⟩
   ·have hno:=BU (p:=fun s:DSlot=>!decide (s.ins>w.t)) hj' (by simp only[h2,aP])
    simp only[go_sem,AA _ hj',hj',h2,BU (p:=O9 w) hk' (by simp only[O9,hno,aK])]
  ·have hj':j=w.b[k].c0.l.length:=by have:=hj.1; simp at h; omega
   subst hj'
   have hyes:=DN hj
   simp only[go_sem,wrap_i64 (n:=(k:Int)+1) AOQ AOQ]
   exact⟨k+1,⟨rfl,rfl⟩,rfl,BH hk' hk (by simp only[O9,h1,hyes,aN]),AOQ⟩
 ·have hk':k=w.b.length:=by have:=hk.1; simp at h; omega
  subst hk'
  simp only[go_sem,DN hk]
theorem YI (w:DWorld) (hf:Aa w):Ctr prog 105 [.agg w.c] [.val (.c (.v (.bool (RZ w))))]:=by
 refine CM call105 func105 ntmps105 results105 fun hw=>?_
 have hb:=AJt hf
 unfold RZ
 simp only[go_sem]
 refine ABK 1 (A:=Nat) (fun x=>[(8,.c (.v (.int .i64 (x))))]) (fun _=>[⟨44,14,[w.c],true,true⟩]) (FC w.m (O_ w.t)) (fun x=>w.m.length-x) 0 ⟨⟨rfl,rfl⟩,rfl,DZ⟩ ?_
 intro k hk
 refine AOJ (fun h=>?_) fun h=>?_
 ·have hk':k<w.m.length:=by simpa using h
  simp only[go_sem,AA _ hk',hk']
  refine AAM _ (Vw w.m[k]) fun _=>?_
  rcases h1:OX w.m[k] with _ | _
  ·simp only[go_sem,h1,BU (p:=O_ w.t) hk' (by simp only[O_,h1,ag]),ag]
  rcases h2:decide (w.m[k]>w.t) with _ | _
  ·simp only[go_sem,h1,h2,wrap_i64 (n:=(k:Int)+1) AOQ AOQ]
   exact AN5
  ·simp only[go_sem,h1,h2,BU (p:=O_ w.t) hk' (by simp only[O_,h1,h2]; rfl),ag]
 ·have hk':k=w.m.length:=by have:=hk.1; simp at h; omega
  subst hk'
  simp only[go_sem,DN hk,aj]
  try refine AAm ?_
  try simp only[go_sem]
  first | refine CY (RJ w.d (lenD hf)) ?_ | refine CW (RJ w.d (lenD hf)) fun _=>?_
  exact AI5
theorem YJ (w:DWorld) (hf:Aa w):Ctr prog 88 [.agg w.c] [.val (.c (.v (.bool (RZ w))))]:=by
 refine CM call88 func88 ntmps88 results88 fun hw=>?_
 have hb:=AJt hf
 unfold RZ
 simp only[go_sem]
 refine ABK 1 (A:=Nat) (fun x=>[(3,.c (.v (.int .i64 (x))))]) (fun _=>[⟨44,14,[w.c],true,true⟩]) (FC w.m (O_ w.t)) (fun x=>w.m.length-x) 0 ⟨⟨rfl,rfl⟩,rfl,DZ⟩ ?_
 intro k hk
 refine AOJ (fun h=>?_) fun h=>?_
 ·have hk':k<w.m.length:=by simpa using h
  simp only[go_sem,AA _ hk',hk']
  try refine AAm ?_
  try simp only[go_sem,AA _ hk',hk']
  first | refine ABL _ (P8 w.m[k]) ?_ | refine AAM _ (P8 w.m[k]) fun _=>?_
  rcases h1:OX w.m[k] with _ | _
  ·simp only[go_sem,h1,BU (p:=O_ w.t) hk' (by simp only[O_,h1,ag]),ag]
  rcases h2:decide (w.m[k]>w.t) with _ | _
  ·simp only[go_sem,AA _ hk',hk',h1,h2,wrap_i64 (n:=(k:Int)+1) AOQ AOQ]
   exact AN5
  ·simp only[go_sem,AA _ hk',hk',h1,h2,BU (p:=O_ w.t) hk' (by simp only[O_,h1,h2]; rfl),ag]
 ·have hk':k=w.m.length:=by have:=hk.1; simp at h; omega
  subst hk'
  simp only[go_sem,DN hk,aj]
  try refine AAm ?_
  try simp only[go_sem]
  first | refine CY (RN w.d (lenD hf)) ?_ | refine CW (RN w.d (lenD hf)) fun _=>?_
  exact AI5
theorem wB {w:DWorld} {n:Int} {k:Nat} (h:n=k) (hk:k<w.b.length):O3 w n=some w.b[k]:=by
 subst h
 simp[O3,hk]
theorem gp (w:DWorld) (hf:Aa w):Ctr prog 107 [.agg w.c] [.val (.c (.v (.bool (gX w))))]:=by
 refine CM call107 func107 ntmps107 results107 fun hw=>?_
 have hb:=AHv hf
 have hlb:=v_ hf
 unfold gX
 simp only[go_sem]
 refine ABK 1 (A:=Nat) (fun x=>[(8,.c (.v (.int .i64 (x))))]) (fun _=>[⟨44,14,[w.c],true,true⟩]) (FC w.x (Lj w)) (fun x=>w.x.length-x) 0 ⟨⟨rfl,rfl⟩,rfl,DZ⟩ ?_
 intro k hk
 refine AOJ (fun h=>?_) fun h=>?_
 ·have hk':k<w.x.length:=by simpa using h
  simp only[go_sem,AA _ hk',hk']
  refine AAm ?_
  rcases FB w w.x[k].buf with ⟨m,hm,hbm,hat⟩ | ⟨hbm,hat⟩
  ·have e1:decide ((m:Int)<0)=false:=by simp
   have e2:decide ((m:Int)≥w.b.length)=false:=AOS
   rcases h1:w.b[m].gen==w.x[k].gen with _ | _
   ·have g1:(w.b[m].gen != w.x[k].gen)=true:=by simp[bne,h1]
    simp only[go_sem,AA _ hk',hk',hbm,e1,e2,AA _ hm,hm,g1,BU (p:=Lj w) hk' (by simp only[Lj,hat,h1,ag])]
   have g1:(w.b[m].gen != w.x[k].gen)=false:=AP2
   simp only[go_sem,AA _ hk',hk',hbm,e1,e2,AA _ hm,hm,g1]
   refine ABL _ (AL w.x[k].at0 0 w.e) ?_
   rcases h2:Ad w.x[k].at0 0 w.e with _ | _
   ·simp only[go_sem,h2,BU (p:=Lj w) hk' (by simp only[Lj,hat,h1,h2,aK])]
   ·simp only[go_sem,h2,wrap_i64 (n:=(k:Int)+1) AOQ AOQ]
    exact⟨k+1,⟨rfl,rfl⟩,rfl,BH hk' hk (by simp only[Lj,hat,h1,h2,aN]),AOQ⟩
  ·have hno:=BU (p:=Lj w) hk' (by simp only[Lj,hat])
   rcases h0:decide (w.x[k].buf<0) with _ | _
   ·have e2:decide (w.x[k].buf≥(w.b.length:Int))=true:=by simp at h0 ⊢; omega
    simp only[go_sem,AA _ hk',hk',h0,e2,hno]
   ·simp only[go_sem,AA _ hk',hk',h0,hno]
 ·have hk':k=w.x.length:=by have:=hk.1; simp at h; omega
  subst hk'
  simp only[go_sem,DN hk]
theorem gq (t:DTask):Ctr prog 177 [.agg t.c] [.val (.c (.v (.bool (t.op==0))))]:=by
 refine CM call177 func177 ntmps177 results177 fun hw=>?_
 exact AI5
theorem YK (t:DTask):Ctr prog 228 [.agg t.c] [.val (.c (.v (.bool (looks t))))]:=by
 refine CM call228 func228 ntmps228 results228 fun hw=>?_
 rcases h1:t.op != 0 with _ | _<;>simp only[go_sem,h1,looks,ag,aj]
theorem YL (t:DTask):Ctr prog 200 [.agg t.c] [.val (.c (.v (.bool (looks t))))]:=by
 refine CM call200 func200 ntmps200 results200 fun hw=>?_
 rcases h1:t.op != 0 with _ | _<;>simp only[go_sem,h1,looks,ag,aj]
def BX (c:DChunk) (i:Int):Bool:=decide (i≥0)&&decide (i<(c.l.length:Int))
theorem EC (c:DChunk) (i:Int):Ctr prog 261 [.agg c.c,.c (.v (.int .i64 (i)))] [.val (.c (.v (.bool (BX c i))))]:=by
 refine CM call261 func261 ntmps261 results261 fun hw=>?_
 rcases h1:decide (i≥0) with _ | _<;>simp only[go_sem,h1,BX,ag,aj]
theorem AAq {w:DWorld} {n:Int} (hb:w.b.length≤1048576) (h:Ad n 1 w.b.length=true):∃ m:Nat,∃ hm:m<w.b.length,IntKind.i64.wrap (n-1)=(m:Int)∧(n-1).toNat=m:=by
 simp only[Ad,ay,aZ] at h
 refine⟨(n-1).toNat,AOQ, ?_,rfl⟩
 rw[wrap_i64 AOQ AOQ]
 omega
theorem QD (w:DWorld) (t:DTask) (kind:Int) (hf:Aa w):Ctr prog 229 [.agg w.c,.agg t.c,.c (.v (.int .i64 (kind)))] [.val (.c (.v (.bool (TV w t kind))))]:=by
 refine CM call229 func229 ntmps229 results229 fun hw=>?_
 unfold TV
 simp only[go_sem]
 refine AAM _ (AL t.own 1 w.b.length) fun _=>?_
 rcases h1:Ad t.own 1 w.b.length with _ | _
 ·exact ALu
 obtain⟨m,hm,e1,e2⟩:=AAq (v_ hf) h1
 simp only[go_sem,h1,e1,e2,AA _ hm,hm,au hm,aj]
theorem XQ {w:DWorld} {r:DRef} (h:there w r=true) (hk:(r.kind==1)=true):∃ m:Nat,∃ hm:m<w.b.length,r.buf=(m:Int)∧(w.b[m].c0.l.length:Int)=r.many:=by
 unfold there at h
 obtain⟨m,hm,hb,hat⟩ | ⟨hb,hat⟩:=FB w r.buf
 ·rw[hat] at h
  refine⟨m,hm,hb, ?_⟩
  have hk1:r.kind=1:=AO1
  simp only[OU,hk1,ay,r_] at h
  rcases h.2.2 with h2 | h2
  ·simp at h2
  ·simpa using h2
 ·rw[hat] at h
  cases h
theorem AAr {t:DTask} (h:((t.l.length:Int)==1)=true):∃ h0:0<t.l.length,l0 t=t.l[0]:=by
 have h1:(t.l.length:Int)=1:=iP.1 h
 refine⟨AOQ, ?_⟩
 unfold l0
 rw[List.headD_eq_head?_getD,List.head?_eq_getElem?,au AOQ]
 rfl
theorem XR {w:DWorld} {l:List DRef} (h:l.all (there w)=true) {k:Nat} (hk:k<l.length):there w l[k]=true:=aJ.1 h _ (ax hk)
structure TaskIn (w:DWorld) (t:DTask) (d:DDeed) (m:Nat):Prop where
 hm:m<w.deeds.length
 hd:w.deeds[m]=d
 ht:t.h=m
 ft:Gu t
 fd:GK d
 th:t.l.all (there w)=true
 i0:0≤t.i
 j0:0≤t.j
 fr:∀ r∈t.l,Ef r=true
theorem LG (w:DWorld) (t:DTask) (d:DDeed) {m:Nat} (hf:Aa w) (H:TaskIn w t d m):Ctr prog 230 [.agg w.c,.agg t.c] [.val (.c (.v (.bool (ACC w t d))))]:=by
 obtain⟨hm,hd,ht,hft,hfd,hth,hi,hj,hfr⟩:=H
 refine CM call230 func230 ntmps230 results230 fun hw=>?_
 rw[DR] at hft
 rw[IZ] at hfd
 unfold ACC
 simp only[go_sem]
 try refine AAm ?_
 try simp only[go_sem]
 first | refine ABL _ (PH w.c0.cols t.r) ?_ | refine AAM _ (PH w.c0.cols t.r) fun _=>?_
 rcases h1:fits w.c0.cols t.r with _ | _
 ·exact ALu
 simp only[go_sem,h1,ht,AA _ hm,hm,hd,aj]
 try refine AAm ?_
 try simp only[go_sem,h1,ht,AA _ hm,hm,hd]
 first | refine ABL _ (QV t.r d.r hft.1.1 hfd.1.1) ?_ | refine AAM _ (QV t.r d.r hft.1.1 hfd.1.1) fun _=>?_
 rcases h2:NE t.r d.r with _ | _
 ·simp only[go_sem,h2,ag]
 simp only[go_sem,h2,aj]
 try refine AAm ?_
 try simp only[go_sem]
 first | refine ABL _ (AL t.pc 2 4) ?_ | refine AAM _ (AL t.pc 2 4) fun _=>?_
 by_cases hq:(!Ad t.pc 2 4 && !Ad t.pc 6 7)=true
 ·rw[hq,dh]
  simp only[ay,aaV] at hq
  simp only[go_sem,hq.1]
  try refine AAm ?_
  try simp only[go_sem,hq.1]
  first | refine ABL _ (AL t.pc 6 7) ?_ | refine AAM _ (AL t.pc 6 7) fun _=>?_
  simp only[go_sem,hq.2]
 have hq2:(!Ad t.pc 2 4 && !Ad t.pc 6 7)=false:=AOi
 rw[hq2,bZ]
 have hc:Ad t.pc 2 4=true∨(Ad t.pc 2 4=false∧Ad t.pc 6 7=true):=by
  rcases h3:Ad t.pc 2 4 with _ | _
  ·rw[h3] at hq2
   exact .inr ⟨rfl,by simpa using hq2⟩
  ·exact .inl rfl
 rcases hc with h3 | ⟨h3,h4⟩
 rotate_left
 simp only[go_sem,h3]
 try refine AAm ?_
 try simp only[go_sem,h3]
 first | refine ABL _ (AL t.pc 6 7) ?_ | refine AAM _ (AL t.pc 6 7) fun _=>?_
 simp only[go_sem,h4]
 rotate_left
 simp only[go_sem,h3]
 all_goals
  rcases h5:((t.l.length:Int)==1) with _ | _
  ·exact AJ9
  have g5:((t.l.length:Int) != 1)=false:=AP0
  obtain⟨h0,hl0⟩:=AAr h5
  rw[hl0,aj]
  rcases h6:t.l[0].kind==1 with _ | _
  ·exact AMC
  have g6:(t.l[0].kind != 1)=false:=by simp[bne,h6]
  obtain⟨q,hq,hqb,hqm⟩:=XQ (XR hth h0) h6
  have hsl:BX w.b[q].c0 t.i=decide (t.i<t.l[0].many):=by
   have e:decide (t.i≥0)=true:=by simpa using hi
   unfold BX
   rw[e,hqm,aj]
  simp only[go_sem,g5,g6,AA _ h0,h0,aj]
  try refine AAm ?_
  try simp only[go_sem,g5,g6,AA _ h0,h0]
  rcases h7:t.pc==2 with _ | _
  ·simp only[go_sem,h7,AA _ h0,h0,hqb,AA _ hq,hq,bZ]
   try refine AAm ?_
   try simp only[go_sem,h7,AA _ h0,h0,hqb,AA _ hq,hq]
   first | refine CY (EC w.b[q].c0 t.i) ?_ | refine CW (EC w.b[q].c0 t.i) fun _=>?_
   simp only[go_sem,hsl]
  ·simp only[go_sem,h7,dh]
   try refine AAm ?_
   try simp only[go_sem,h7]
theorem Rh (w:DWorld) (t:DTask) (d:DDeed) {m:Nat} (hf:Aa w) (H:TaskIn w t d m):Ctr prog 231 [.agg w.c,.agg t.c] [.val (.c (.v (.bool (ve w t d))))]:=by
 obtain⟨hm,hd,ht,hft,hfd,hth,hi,hj,hfr⟩:=H
 refine CM call231 func231 ntmps231 results231 fun hw=>?_
 unfold ve
 rcases h1:t.id==d.id with _ | _
 ·have g1:(t.id != d.id)=true:=by simp[bne,h1]
  simp only[go_sem,ht,AA _ hm,hm,hd,g1,ag]
  try refine AAm ?_
  try simp only[go_sem,ht,AA _ hm,hm,hd,g1]
 have g1:(t.id != d.id)=false:=AP2
 simp only[go_sem,ht,AA _ hm,hm,hd,g1,aj]
 try refine AAm ?_
 try simp only[go_sem,ht,AA _ hm,hm,hd,g1]
 try refine AAm ?_
 try simp only[go_sem]
 first | refine ABL _ (AL t.pc 2 7) ?_ | refine AAM _ (AL t.pc 2 7) fun _=>?_
 rcases h2:Ad t.pc 2 7 with _ | _
 ·simp only[go_sem,h2,aS,dh]
 simp only[go_sem,h2,aP,bZ]
 rcases h5:((t.l.length:Int)==1) with _ | _
 ·exact AJ9
 have g5:((t.l.length:Int) != 1)=false:=AP0
 obtain⟨h0,hl0⟩:=AAr h5
 rw[hl0,aj]
 try refine AAm ?_
 try simp only[go_sem,g5,AA _ h0,h0]
 first | refine CY (G9 t.l[0] t.id) ?_ | refine CW (G9 t.l[0] t.id) fun _=>?_
 rcases h6:CU t.l[0] t.id with _ | _
 ·simp only[go_sem,h6,ag]
 rcases h7:decide (t.id<(w.m.length:Int)) with _ | _
 ·have g7:decide (t.id≥(w.m.length:Int))=true:=by simp at h7 ⊢; omega
  simp only[go_sem,h6,g7,ag,aj]
 have g7:decide (t.id≥(w.m.length:Int))=false:=by simp at h7 ⊢; omega
 simp only[go_sem,h6,g7,aj]
 try refine AAm ?_
 try simp only[go_sem]
 first | refine ABL _ (AL t.pc 3 4) ?_ | refine AAM _ (AL t.pc 3 4) fun _=>?_
 rcases h8:Ad t.pc 3 4 with _ | _
 ·simp only[go_sem,h8,aS,dh]
 ·simp only[go_sem,h8,AA _ h0,h0,aP,bZ]
def QE:DRow:=⟨0,[]⟩
theorem pU (w:DWorld) (r:DRef) {q m:Nat} (hf:Aa w) (hq:q<w.b.length) (hb:r.buf=(q:Int)) (hth:there w r=true) (hk:(r.kind==1)=true) (hm:m<w.b[q].c0.l.length) :
  Ctr prog 313 [.agg w.c,.agg r.c,.c (.v (.int .i64 ((m:Int))))] [.agg (DRow.o ⟨IntKind.i64.wrap (r.first+m),w.b[q].c0.l[m].l⟩),.val (.c (.v (.bool (true))))]:=by
 have hat:=wB hb hq
 have hc:IQ w r=(w.b[q].c0,true):=by
  unfold IQ
  simp only[there,hat] at hth
  simp[hat,hth,hk]
 have hco:=OV w r
 rw[hc] at hco
 have hfl:w.b[q].c0.l[m].l.length≤1048576:=by
  have:=PD hf hq
  rw[Fa,CE] at this
  have h2:=this.1.2 _ (ax hm)
  rw[IY] at h2
  exact h2.1
 refine CM call313 func313 ntmps313 results313 fun hw=>?_
 simp only[go_sem]
 try refine AAm ?_
 try simp only[go_sem]
 first | refine CY (hco) ?_ | refine CW (hco) fun _=>?_
 simp only[go_sem]
 try refine AAm ?_
 try simp only[go_sem]
 first | refine CY (EC w.b[q].c0 (m:Int)) ?_ | refine CW (EC w.b[q].c0 (m:Int)) fun _=>?_
 have hs:BX w.b[q].c0 (m:Int)=true:=by simp[BX]; exact hm
 simp only[go_sem,hs,AA _ hm,hm]
 refine ABH ?_
 simp only[go_sem,hs,AA _ hm,hm]
 refine ACI _ (FD w.b[q].c0.l[m].l hfl) ?_
 simp only[go_sem,DD,AA _ hm,hm]
 try exact AII
theorem ACG (w:DWorld) (r:DRef) (j:Int) (hf:Aa w) (hth:there w r=true) (hk:(r.kind==1)=true) (hm:decide (j<r.many)=false) :
  Ctr prog 313 [.agg w.c,.agg r.c,.c (.v (.int .i64 (j)))] [.val (.agg QE.c),.val (.c (.v (.bool (false))))]:=by
 obtain⟨q,hq,hb,hmn⟩:=XQ hth hk
 have hat:=wB hb hq
 have hc:IQ w r=(w.b[q].c0,true):=by
  unfold IQ
  simp only[there,hat] at hth
  simp[hat,hth,hk]
 have hco:=OV w r
 rw[hc] at hco
 have hk2:(r.kind==2)=false:=by have:r.kind=1:=AO1; rw[this]; rfl
 have hgr:=Lt w r hf
 rw[hk2,ag] at hgr
 refine CM call313 func313 ntmps313 results313 fun hw=>?_
 simp only[go_sem]
 try refine AAm ?_
 try simp only[go_sem]
 first | refine CY (hco) ?_ | refine CW (hco) fun _=>?_
 simp only[go_sem]
 try refine AAm ?_
 try simp only[go_sem]
 first | refine CY (EC w.b[q].c0 j) ?_ | refine CW (EC w.b[q].c0 j) fun _=>?_
 have hs:BX w.b[q].c0 j=false:=by unfold BX; rw[hmn,hm,aK]
 simp only[go_sem,hs]
 try refine AAm ?_
 try simp only[go_sem,hs]
 first | refine ABL _ (by simpa only[go_sem,di,aB,aX] using hgr) ?_ | refine AAM _ (by simpa only[go_sem,di,aB,aX] using hgr) fun _=>?_
 rcases h0:decide (j≥0) with _ | _
 ·simp only[go_sem,h0,QE,di]
 have e1:decide (j<0)=false:=by simp at h0 ⊢; omega
 have e2:decide (j<(((0:Nat)):Int))=false:=e1
 simp only[go_sem,h0,aW,abH,e1,e2,QE,di]
theorem zB (w:DWorld) (r:DRef) (j:Int) (hf:Aa w) (hth:there w r=true) (hk:(r.kind==1)=false) (hk2:(r.kind==2)=true) (h0:0≤j) :
  Ctr prog 313 [.agg w.c,.agg r.c,.c (.v (.int .i64 (j)))] (match (Ej w r)[j.toNat]? with
   | none=>[.val (.agg QE.c),.val (.c (.v (.bool (false))))]
   | some x=>[.val (.agg x.c),.val (.c (.v (.bool (true))))]):=by
 have hc:IQ w r=(H7,false):=by
  unfold IQ
  split
  ·rfl
  ·simp[hk]
 have hco:=OV w r
 rw[hc] at hco
 have hgr:=Lt w r hf
 rw[hk2,hth] at hgr
 have hgl:=Yw w r
 refine CM call313 func313 ntmps313 results313 fun hw=>?_
 simp only[go_sem]
 try refine AAm ?_
 try simp only[go_sem]
 first | refine ABL _ (by simpa only[go_sem,H7,di] using hco) ?_ | refine AAM _ (by simpa only[go_sem,H7,di] using hco) fun _=>?_
 simp only[go_sem]
 try refine AAm ?_
 try simp only[go_sem]
 first | refine ABL _ (by simpa only[go_sem,aj,bf] using hgr) ?_ | refine AAM _ (by simpa only[go_sem,aj,bf] using hgr) fun _=>?_
 have e0:decide (j≥0)=true:=APZ
 rcases bV j.toNat (Ej w r).length with hm | hm
 ·obtain⟨m,rfl⟩:=aQ h0
  have hm:m<(Ej w r).length:=by simpa using hm
  have e1:decide ((m:Int)<((Ej w r).length:Int))=true:=AOS
  rw[bW,au hm]
  simp only[go_sem,e0,e1,AA _ hm,hm]
 ·have e1:decide (j<((Ej w r).length:Int))=false:=by simp; omega
  rw[mV hm]
  simp only[go_sem,e0,e1,QE,di]
theorem AF4 {w:DWorld} (hf:Aa w):w.c0.cols.length≤1048576:=by
 rw[Ar,KJ] at hf
 exact hf.1
theorem gu {r:DRef} (h:Ef r=true) (hk:(r.kind==1)=false):(r.kind==2)=true:=by
 simp only[Ef,Ad,ay,aZ] at h
 have:r.kind≠1:=AO1
 have:=h.2.2.1
 simp; omega
theorem Ri (w:DWorld) (t:DTask) (d:DDeed) {m:Nat} (hf:Aa w) (H:TaskIn w t d m):Ctr prog 232 [.agg w.c,.agg t.c] [.val (.c (.v (.bool (vg w t d))))]:=by
 obtain⟨hm,hd,ht,hft,hfd,hth,hi,hj,hfr⟩:=H
 refine CM call232 func232 ntmps232 results232 fun hw=>?_
 rw[DR] at hft
 rw[IZ] at hfd
 unfold vg
 simp only[go_sem]
 try refine AAm ?_
 try simp only[go_sem]
 first | refine CY (TG w.c0.cols t.q (AF4 hf) hft.2.1) ?_ | refine CW (TG w.c0.cols t.q (AF4 hf) hft.2.1) fun _=>?_
 rcases h1:Bz w.c0.cols t.q with _ | _
 ·exact ALu
 simp only[go_sem,h1,ht,AA _ hm,hm,hd,aj]
 try refine AAm ?_
 try simp only[go_sem,h1,ht,AA _ hm,hm,hd]
 first | refine CY (RS t.q d.q hft.2.1 hfd.2.1) ?_ | refine CW (RS t.q d.q hft.2.1 hfd.2.1) fun _=>?_
 rcases h2:V3 t.q d.q with _ | _
 ·simp only[go_sem,h2,ag]
 rcases h3:decide (t.ts>w.t) with _ | _
 rotate_left
 ·simp only[go_sem,h2,h3,aP,ag,aK]
 simp only[go_sem,h2,h3,aS,aj]
 try refine AAm ?_
 try simp only[go_sem]
 first | refine ABL _ (AL t.pc 3 8) ?_ | refine AAM _ (AL t.pc 3 8) fun _=>?_
 rcases h4:Ad t.pc 3 8 with _ | _
 ·simp only[go_sem,h4,aS,dh]
 rcases h5:decide (t.i>(t.l.length:Int)) with _ | _
 rotate_left
 ·simp only[go_sem,h4,h5,aP,ag,bZ]
  try refine AAm ?_
  try simp only[go_sem,h5]
 simp only[go_sem,h4,h5,aP,aS,aj,bZ]
 try refine AAm ?_
 try simp only[go_sem,h5]
 rcases h6:t.pc==3 with _ | _
 rotate_left
 ·simp only[go_sem,h6,dh]
 obtain⟨k,hk⟩:=aQ hi
 have hkl:k≤t.l.length:=by rw[hk] at h5; simp at h5; omega
 rw[hk,bW,bZ]
 rcases bV k t.l.length with hk2 | hk2
 rotate_left
 ·have e:k=t.l.length:=by omega
  have e2:((k:Int)==(t.l.length:Int))=true:=AOS
  rw[mV hk2]
  simp only[go_sem,h6,hk,e2]
  try refine AAm ?_
  try simp only[go_sem,h6,hk,e2]
 have e2:((k:Int)==(t.l.length:Int))=false:=AOS
 rw[au hk2]
 simp only[go_sem,h6,hk,e2]
 have hthk:=XR hth hk2
 unfold pM
 rcases k1:t.l[k].kind==1 with _ | _
 ·have kk2:=gu (hfr _ (ax hk2)) k1
  have hro:=zB w t.l[k] t.j hf hthk k1 kk2 hj
  simp only[aB,aX]
  rcases hg:(Ej w t.l[k])[t.j.toNat]? with _ | x
  ·rw[hg] at hro
   exact ALb
  ·rw[hg] at hro
   refine ACU 13 9 (by kernel_rfl) ?_
   simp only[go_sem,AA _ hk2,hk2,aK,ag,aj]
   refine CZ (hro) ?_
   rcases h7:decide (t.pc≤5) with _ | _
   ·have h8:decide (t.pc≥6)=true:=by simp at h7 ⊢; omega
    simp only[go_sem,h7,h8,AA _ hk2,hk2,aj]
    try refine AAm ?_
    try simp only[go_sem,h7,h8]
   ·have h8:decide (t.pc≥6)=false:=by simp at h7 ⊢; omega
    simp only[go_sem,h7,h8,AA _ hk2,hk2,k1,ag]
    try refine AAm ?_
    try simp only[go_sem,h7,h8,AA _ hk2,hk2,k1]
 ·obtain⟨q,hq,hqb,hqm⟩:=XQ hthk k1
  simp only[bf]
  rcases h9:decide (t.j<t.l[k].many) with _ | _
  ·have hro:=ACG w t.l[k] t.j hf hthk k1 h9
   exact ALb
  ·obtain⟨j,hjj⟩:=aQ hj
   have hjl:j<w.b[q].c0.l.length:=by rw[hjj,← hqm] at h9; simp at h9; omega
   have hro:=(pU w t.l[k] hf hq hqb hthk k1 hjl).frz
   simp only[YR,di,Zt,DRow.o_er] at hro
   rw[hjj]
   refine ACU 13 9 (by kernel_rfl) ?_
   simp only[go_sem,AA _ hk2,hk2,hjj,aK,ag,aj]
   refine CZ (hro) ?_
   rcases h7:decide (t.pc≤5) with _ | _
   ·have h8:decide (t.pc<6)=false:=by simp at h7 ⊢; omega
    simp only[go_sem,h7,h8,AA _ hk2,hk2,bZ]
    try refine AAm ?_
    try simp only[go_sem,h7,h8]
   ·have h8:decide (t.pc<6)=true:=by simp at h7 ⊢; omega
    simp only[go_sem,h7,h8,AA _ hk2,hk2,k1,dh]
    try refine AAm ?_
    try simp only[go_sem,h7,h8,AA _ hk2,hk2,k1]
end Go.Proofs.YtnoldekcdlaahaaGreat
