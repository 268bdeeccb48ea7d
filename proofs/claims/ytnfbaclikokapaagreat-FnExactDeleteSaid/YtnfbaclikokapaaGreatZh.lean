/- A part. -/
import Derived.Test.YtnfbaclikokapaaGreatWb
import Derived.Test.YtnfbaclikokapaaGreatZd
import Derived.Test.YtnfbaclikokapaaGreatAc
set_option linter.unusedSimpArgs false
set_option linter.unusedVariables false
set_option maxHeartbeats 4000000
set_option maxRecDepth 10000
open Go.Proofs.Tryz
namespace Go.Proofs.YtnfbaclikokapaaGreat
open Go.Vm
def CQ (r:DRef) (id:Int):Bool:=decide (r.first≥0)&&(decide (id≥r.first)&&decide (IntKind.i64.wrap (id-r.first)<r.many))
noncomputable def Nv (w:DWorld) (b:DBuf):Bool:=ZA w.c0.cols b&&b.c0.l.all fun s=>!decide (s.ins>w.t)
def Nw (t m:Int):Bool:=NK m && !decide (m>t)
noncomputable def fK (w:DWorld) (r:DRef):List DRow:=if(r.kind==2&&there w r)=true then Eh w r else []
noncomputable def QG (w:DWorld) (r:DRef):Bool:=there w r&&(!((r.kind==1)&&(r.many != w.c0.slots))&&(fK w r).all fun x=>CQ r x.id)
def J7 (w:DWorld) (d:DDead):Bool:=match Qz w d.buf with
 | none=>false
 | some b=>(b.gen==d.gen)&&Ac d.at0 0 w.e
def kR (w:DWorld) (i:Nat):Nat:=w.x.countP (fun d=>d.buf==(i:Int))+w.tasks.countP (fun t=>t.own==(i:Int)+1)
def Om (n:Int) (b:DBuf):Bool:=!(((b.kind==0)&&decide (n>0))||((b.kind != 0)&&(n != 1)))
def Ny (l:List DRef) (i:Nat):Nat:=l.countP (fun r=>r.buf==(i:Int))
def Oo (w:DWorld) (i:Nat) (b:DBuf):Bool:=Om ((Ny w.d.l i+kR w i:Nat):Int) b
def deed1 (w:DWorld) (d:DDeed):Bool:=EZ d&&(!decide (d.inv≥w.time)&&(!decide (d.lin≥w.time) && !decide (d.ret≥w.time)))
def looks (t:DTask):Bool:=(t.op != 0)&&decide (t.pc≥1)
def l0 (t:DTask):DRef:=t.l.headD ⟨0,0,0,0,0⟩
def ABw (w:DWorld) (t:DTask) (d:DDeed):Bool:=fits w.c0.cols t.r&&(LU t.r d.r&&((!Ac t.pc 2 4 && !Ac t.pc 6 7)||(((t.l.length:Int)==1)&&(((l0 t).kind==1)&&((t.pc==2)||decide (t.i<(l0 t).many))))))
def qY (w:DWorld) (t:DTask) (d:DDeed):Bool:=(t.id==d.id)&&(!Ac t.pc 2 7||(((t.l.length:Int)==1)&&(CQ (l0 t) t.id&&(decide (t.id<(w.m.length:Int))&&(!Ac t.pc 3 4||((l0 t).kind==1))))))
noncomputable def kS (w:DWorld) (t:DTask) (r:DRef):Bool:=if(r.kind==1)=true then decide (t.j<r.many)&&(decide (t.pc<6)||decide (IntKind.i64.wrap (r.first+t.j)<(w.m.length:Int))) else
 decide (t.pc≥6)&&(match (Eh w r)[t.j.toNat]? with
  | none=>false
  | some x=>decide (x.id<(w.m.length:Int)))
noncomputable def qZ (w:DWorld) (t:DTask) (d:DDeed):Bool:=BX w.c0.cols t.q&&(UZ t.q d.q&&(!decide (t.ts>w.t)&&(!Ac t.pc 3 8||(!decide (t.i>(t.l.length:Int))&&((t.pc==3)||(match t.l[t.i.toNat]? with
 | none=>false
 | some r=>kS w t r))))))
def xU (t:DTask):Bool:=!Ac t.pc 2 5||Ac (t.l.length:Int) 1 2
noncomputable def swB (w:DWorld) (t:DTask) (d:DDeed):Bool:=if(t.op==1)=true then ABw w t d else if(t.op==2)=true then qY w t d else if(t.op==3)=true then qZ w t d else xU t
def Ub (w:DWorld) (t:DTask) (kind:Int):Bool:=Ac t.own 1 w.b.length&&(match w.b[(t.own-1).toNat]? with
 | none=>false
 | some b=>b.kind==kind)
def ZC (w:DWorld) (t:DTask):Int:=match w.b[(t.own-1).toNat]? with
 | none=>0
 | some b=>b.c0.l.length
def ownB (w:DWorld) (t:DTask):Bool:=if((t.op==1)&&(t.pc==8))=true then Ub w t 1&&(ZC w t==w.c0.slots) else if((t.op==4)&&Ac t.pc 4 5)=true then Ub w t 2 else t.own==0
def ZE (k:Int) (t:DTask) (d:DDeed):Bool:=(d.task==k)&&((d.op==t.op)&&(d.ret == -1))
noncomputable def qf (w:DWorld) (k:Int) (t:DTask):Bool:=match w.deeds[t.h.toNat]? with
 | none=>false
 | some d=>ZE k t d&&(t.l.all (there w)&&(ownB w t&&swB w t d))
noncomputable def O3 (w:DWorld) (k:Int) (t:DTask) (p:Int):Bool:=H8 t k&&(((p != -1)==looks t)&&((t.op==0)||qf w k t))
noncomputable def fM (w:DWorld):Bool:=((w.b.length:Int)==w.c0.bufs)&&w.b.all (Nv w)
def QH (w:DWorld):Bool:=w.m.all (Nw w.t)&&((w.m.length:Int)==endOf w.d)
noncomputable def ZF (w:DWorld):Bool:=w.d.l.all (QG w)
def ZG (w:DWorld):Bool:=w.x.all (J7 w)
noncomputable def QI {α:Type} (l:List α) (p:Nat→α→Bool):Bool:=@decide (∀ k (h:k<l.length),p k l[k]=true) (Classical.propDecidable _)
theorem IL {α:Type} {l:List α} {p:Nat→α→Bool} {k:Nat} (h:k<l.length) (hp:p k l[k]=false):QI l p=false:=by
 simp only[QI,aaN]
 intro h2
 rw[h2 k h] at hp
 cases hp
def qg {α:Type} (l:List α) (p:Nat→α→Bool) (n:Nat):Prop:=n≤l.length∧∀ k (h:k<l.length),k<n→p k l[k]=true
theorem kT {α:Type} {l:List α} {p:Nat→α→Bool}:qg l p 0:=⟨ax _,fun _ _ h=>by omega⟩
theorem M_ {α:Type} {l:List α} {p:Nat→α→Bool} {k:Nat} (hk:k<l.length) (h:qg l p k) (hc:p k l[k]=true):qg l p (k+1):=⟨hk,fun i h2 h3=>by
 by_cases e:i=k
 ·subst e; exact hc
 ·exact h.2 i h2 (by omega)⟩
theorem Qw {α:Type} {l:List α} {p:Nat→α→Bool} (h:qg l p l.length):QI l p=true:=by
 simp only[QI,bf]
 exact fun k hk=>h.2 k hk hk
theorem VR {α:Type} {l:List α} {p:Nat→α→Bool}:QI l p=true↔∀ k (h:k<l.length),p k l[k]=true:=by
 simp only[QI,bf]
noncomputable def kU (w:DWorld):Bool:=QI w.tasks fun k t=>O3 w k t (w.p[k]?.getD 0)
def VS (w:DWorld):Bool:=w.deeds.all (deed1 w)
noncomputable def Uc (w:DWorld):Bool:=QI w.b (Oo w)
def headB (w:DWorld):Bool:=Lt w.c0&&(Ac w.time 0 1000000&&(Ac w.t 1 1000000&&Ac w.e 0 1000000))
noncomputable def EU (w:DWorld):Bool:=headB w&&(KL w.d&&(!decide (w.d.ver>1000000)&&(fM w&&(QH w&&(ZF w&&(ZG w&&(((w.tasks.length:Int)==5)&&(((w.p.length:Int)==5)&&(NL w.p w.e&&(kU w&&(VS w&&Uc w)))))))))))
theorem ZH (n:Nat):∀ (l:List DRef) (e:Int) (seen:List DRef),IZ e seen l=true→(D_ seen n=true→Ny l n=0)∧Ny l n≤1
 | [],_,_,_=>⟨fun _=>rfl,ax _⟩
 | r::l,e,seen,h=>by
  rw[IZ] at h
  simp only[ak,aa3] at h
  obtain⟨_,_,h3,h4⟩:=h
  obtain⟨g1,g2⟩:=ZH n l _ _ h4
  have ha:D_ (seen ++ [r]) n=(D_ seen n||(r.buf==(n:Int))):=by simp[D_]
  rw[ha] at g1
  unfold Ny at g1 g2 ⊢
  rw[List.countP_cons]
  rcases e1:r.buf==(n:Int) with _ | _
  ·rw[e1,abr] at g1
   simp only[aC,aT,abB]
   exact⟨g1,g2⟩
  ·rw[e1,Bool.or_true] at g1
   have e2:r.buf=(n:Int):=by simpa using e1
   rw[e2] at h3
   rw[g1 rfl]
   simp[h3]
theorem ADL (l:List DRef) (n:Nat):(0<Ny l n)↔D_ l n=true:=by
 unfold Ny D_
 rw[List.countP_pos_iff,List.any_eq_true]
theorem zh {d:DDir} (h:KL d=true) (n:Nat):Ny d.l n=if D_ d.l n=true then 1 else 0:=by
 simp only[KL,ak] at h
 have h1:=(ZH n _ _ _ h.2.2).2
 have h2:=ADL d.l n
 split
 ·rename_i h3
  have:=h2.2 h3
  omega
 ·rename_i h3
  by_cases h4:0<Ny d.l n
  ·exact absurd (h2.1 h4) h3
  ·omega
theorem ZI:∀ (l:List DRef) (e:Int) (seen:List DRef),IZ e seen l=true→0≤e→e+l.length*1000000000≤9000000000000→∀ r∈l,Dt r=true∧0≤r.first∧r.first≤9000000000000
 | [],_,_,_,_,_=>by simp
 | r::l,e,seen,h,h0,hb=>by
  rw[IZ] at h
  simp only[ak,ZZ] at h
  obtain⟨h1,h2,h3,h4⟩:=h
  have hm:1≤r.many∧r.many≤1000000000:=by
   simp only[Dt,Ac,ak,bf] at h1
   exact h1.2.2.2
  have hl:((r::l).length:Int)=l.length+1:=by simp
  rw[hl] at hb
  have hw:IntKind.i64.wrap (e+r.many)=e+r.many:=wrap_i64 (by omega) (by omega)
  rw[hw] at h4
  intro x hx
  rcases cZ.1 hx with rfl | hx
  ·exact⟨h1,by omega,by omega⟩
  ·exact ZI l _ _ h4 (by omega) (by omega) x hx
theorem zi {d:DDir} (h:KL d=true) {r:DRef} (hr:r∈d.l):Dt r=true∧0≤r.first∧r.first≤9000000000000:=by
 simp only[KL,ak,aa3,aaN] at h
 exact ZI _ _ _ h.2.2 (by omega) (by omega) r hr
def SL (w:DWorld) (i:Nat) (b:DBuf):Bool:=Om (((if D_ w.d.l i=true then 1 else 0)+kR w i:Nat):Int) b
theorem qh {w:DWorld} (h:KL w.d=true) (i:Nat) (b:DBuf):SL w i b=Oo w i b:=by
 unfold SL Oo
 rw[zh h]
theorem zk {r:DRef} (h:Dt r=true) (h0:0≤r.first) (h1:r.first≤9000000000000) (id:Int) (hid : -9223372036854775808≤id∧id≤9223372036854775807):CQ r id=Ac id r.first (IntKind.i64.wrap (IntKind.i64.wrap (r.first+r.many)-1)):=by
 have hm:1≤r.many∧r.many≤1000000000:=by
  simp only[Dt,Ac,ak,bf] at h
  exact h.2.2.2
 rw[wrap_i64 (n:=r.first+r.many) (by omega) (by omega),wrap_i64 (n:=r.first+r.many-1) (by omega) (by omega)]
 unfold CQ Ac
 have e0:decide (r.first≥0)=true:=by simpa using h0
 rw[e0,ai]
 by_cases hi:r.first≤id
 ·rw[wrap_i64 (n:=id-r.first) (by omega) (by omega)]
  have e1:decide (id≥r.first)=true:=by simpa using hi
  rw[e1,ai,ai]
  exact decide_eq_decide.2 (by omega)
 ·have e1:decide (id≥r.first)=false:=by simpa using hi
  rw[e1]
  rfl
theorem AG2 (n:Int):(!Ac n 2 4 && !Ac n 6 7)=(!Ac n 2 7||(n==5)):=by
 unfold Ac
 by_cases h1:n<2
 ·have:¬ (2≤n):=by omega
  have:¬ (6≤n):=by omega
  simp[*]
 ·by_cases h2:7<n
  ·have:¬ (n≤4):=by omega
   have:¬ (n≤7):=by omega
   simp[*]
  ·have h:n=2∨n=3∨n=4∨n=5∨n=6∨n=7:=by omega
   rcases h with h | h | h | h | h | h<;>subst h<;>rfl
theorem AE_ (n:Int) (h:Ac n 2 7=true) (b:Bool):(!Ac n 3 4||b)=(decide (n>4)||((n==2)||b)):=by
 simp only[Ac,ak,bf] at h
 have h:n=2∨n=3∨n=4∨n=5∨n=6∨n=7:=by omega
 rcases h with h | h | h | h | h | h<;>subst h<;>cases b<;>rfl
theorem Fv (r:DRef) (id:Int):Ctr prog 184 [.agg r.c,.c (.v (.int .i64 (id)))] [.val (.c (.v (.bool (CQ r id))))]:=by
 refine CM call184 func184 ntmps184 results184 fun hw=>?_
 rcases h1:decide (r.first≥0) with _ | _
 ·simp only[go_sem,h1,CQ,ag]
 rcases h2:decide (id≥r.first) with _ | _
 ·simp only[go_sem,h1,h2,CQ,ag,ai]
 simp only[go_sem,h1,h2,CQ,ai]
theorem Nz {w:DWorld} (hf:Aa w) {k:Nat} (hk:k<w.b.length):Io w.b[k]:=by
 rw[BI] at hf
 exact hf.2.2.1.2 _ (aj hk)
theorem Ud {w:DWorld} (hf:Aa w):w.tasks.length≤1048576:=by
 rw[BI] at hf
 exact hf.2.2.2.2.2.2.1.1
theorem qi {w:DWorld} (hf:Aa w):w.b.length≤1048576:=by
 rw[BI] at hf
 exact hf.2.2.1.1
theorem AG3 {w:DWorld} (hf:Aa w) {k:Nat} (hk:k<w.b.length):w.b[k].c0.l.length≤1048576:=by
 have:=Nz hf hk
 rw[Ht,Ez] at this
 exact this.1.1
theorem AG4 {w:DWorld} (hf:Aa w):w.m.length≤1048576:=by
 rw[BI] at hf
 exact hf.2.2.2.1
theorem AFA {w:DWorld} (hf:Aa w):w.x.length≤1048576:=by
 rw[BI] at hf
 exact hf.2.2.2.2.1
theorem ADM {w:DWorld} (hf:Aa w):w.p.length≤1048576:=by
 rw[BI] at hf
 exact hf.2.2.2.2.2.1
theorem lenD {w:DWorld} (hf:Aa w):w.d.l.length≤1048576:=by
 rw[BI,K_] at hf
 exact hf.2.1
theorem xW {w:DWorld} (hf:Aa w):w.deeds.length≤1048576:=by
 rw[BI] at hf
 exact hf.2.2.2.2.2.2.2.1
theorem ZJ (w:DWorld) (hf:Aa w):Ctr prog 108 [.agg w.c] [.val (.c (.v (.bool (fM w))))]:=by
 refine CM call108 func108 ntmps108 results108 fun hw=>?_
 have hb:=qi hf
 unfold fM
 rcases h0:((w.b.length:Int)==w.c0.bufs) with _ | _
 ·have g0:((w.b.length:Int) != w.c0.bufs)=true:=by simp only[bne,h0,aO]
  simp only[go_sem,g0,ag]
 have g0:((w.b.length:Int) != w.c0.bufs)=false:=by simp only[bne,h0,aQ]
 simp only[go_sem,g0,ai]
 refine LoopU.mk 1 (A:=Nat) (fun x=>[(17,.c (.v (.int .i64 (x))))]) (fun _=>[⟨44,14,[w.c],true,true⟩]) (FO w.b (Nv w)) (fun x=>w.b.length-x) 0 ⟨⟨rfl,rfl⟩,rfl,DW⟩ ?_
 intro k hk
 simp only[go_sem]
 refine cndC.mk (fun h=>?_) (fun h=>?_)
 ·have hk':k<w.b.length:=by simpa using h
  simp only[go_sem,AA _ hk',hk']
  refine CW (qX w.c0.cols w.b[k] (Nz hf hk') (SS hw.1 hk')) fun _=>?_
  rcases h1:ZA w.c0.cols w.b[k] with _ | _
  ·simp only[go_sem,h1,BF (p:=Nv w) hk' (by simp only[Nv,h1,ag])]
  simp only[go_sem,h1]
  have hs:=AG3 hf hk'
  refine LoopU.mk 2 (A:=Nat) (fun x=>[(31,.c (.v (.int .i64 (x))))]) (fun _=>[⟨44,14,[w.c],true,true⟩,⟨160,5,[w.b[k].c],true,true⟩]) (FO w.b[k].c0.l fun s=>!decide (s.ins>w.t)) (fun x=>w.b[k].c0.l.length-x) 0 ⟨⟨rfl,rfl⟩,rfl,DW⟩ ?_
  intro j hj
  simp only[go_sem]
  refine cndC.mk (fun h=>?_) (fun h=>?_)
  ·have hj':j<w.b[k].c0.l.length:=by simpa using h
   rcases h2:decide (w.b[k].c0.l[j].ins>w.t) with _ | _
   ·simp only[go_sem,AA _ hj',hj',h2,wrap_i64 (n:=(j:Int)+1) (by omega) (by omega)]
    exact⟨j+1,⟨rfl,rfl⟩,rfl,Bc hj' hj (by simp only[h2,aO]),by omega⟩
   ·have hno:=BF (p:=fun s:DSlot=>!decide (s.ins>w.t)) hj' (by simp only[h2,aQ])
    simp only[go_sem,AA _ hj',hj',h2,BF (p:=Nv w) hk' (by simp only[Nv,hno,aH])]
  ·have hj':j=w.b[k].c0.l.length:=by have:=hj.1; simp at h; omega
   subst hj'
   have hyes:=CP hj
   simp only[go_sem,wrap_i64 (n:=(k:Int)+1) (by omega) (by omega)]
   exact⟨k+1,⟨rfl,rfl⟩,rfl,Bc hk' hk (by simp only[Nv,h1,hyes,aS]),by omega⟩
 ·have hk':k=w.b.length:=by have:=hk.1; simp at h; omega
  subst hk'
  simp only[go_sem,CP hk]
theorem WP (w:DWorld) (hf:Aa w):Ctr prog 109 [.agg w.c] [.val (.c (.v (.bool (QH w))))]:=by
 refine CM call109 func109 ntmps109 results109 fun hw=>?_
 have hb:=AG4 hf
 unfold QH
 simp only[go_sem]
 refine LoopU.mk 1 (A:=Nat) (fun x=>[(8,.c (.v (.int .i64 (x))))]) (fun _=>[⟨44,14,[w.c],true,true⟩]) (FO w.m (Nw w.t)) (fun x=>w.m.length-x) 0 ⟨⟨rfl,rfl⟩,rfl,DW⟩ ?_
 intro k hk
 simp only[go_sem]
 refine cndC.mk (fun h=>?_) (fun h=>?_)
 ·have hk':k<w.m.length:=by simpa using h
  simp only[go_sem,AA _ hk',hk']
  refine CallK.mk _ (UV w.m[k]) fun _=>?_
  rcases h1:NK w.m[k] with _ | _
  ·simp only[go_sem,h1,BF (p:=Nw w.t) hk' (by simp only[Nw,h1,ag]),ag]
  rcases h2:decide (w.m[k]>w.t) with _ | _
  ·simp only[go_sem,h1,h2,wrap_i64 (n:=(k:Int)+1) (by omega) (by omega)]
   exact⟨k+1,⟨rfl,rfl⟩,rfl,Bc hk' hk (by simp only[Nw,h1,h2]; rfl),by omega⟩
  ·simp only[go_sem,h1,h2,BF (p:=Nw w.t) hk' (by simp only[Nw,h1,h2]; rfl),ag]
 ·have hk':k=w.m.length:=by have:=hk.1; simp at h; omega
  subst hk'
  simp only[go_sem,CP hk,ai]
  try refine DrawK.mk ?_
  try simp only[go_sem]
  first | refine CY (WG w.d (lenD hf)) ?_ | refine CW (WG w.d (lenD hf)) fun _=>?_
  simp only[go_sem]
theorem WQ (w:DWorld) (hf:Aa w):Ctr prog 95 [.agg w.c] [.val (.c (.v (.bool (QH w))))]:=by
 refine CM call95 func95 ntmps95 results95 fun hw=>?_
 have hb:=AG4 hf
 unfold QH
 simp only[go_sem]
 refine LoopU.mk 1 (A:=Nat) (fun x=>[(3,.c (.v (.int .i64 (x))))]) (fun _=>[⟨44,14,[w.c],true,true⟩]) (FO w.m (Nw w.t)) (fun x=>w.m.length-x) 0 ⟨⟨rfl,rfl⟩,rfl,DW⟩ ?_
 intro k hk
 simp only[go_sem]
 refine cndC.mk (fun h=>?_) (fun h=>?_)
 ·have hk':k<w.m.length:=by simpa using h
  simp only[go_sem,AA _ hk',hk']
  try refine DrawK.mk ?_
  try simp only[go_sem,AA _ hk',hk']
  first | refine CallF.mk _ (Oi w.m[k]) ?_ | refine CallK.mk _ (Oi w.m[k]) fun _=>?_
  rcases h1:NK w.m[k] with _ | _
  ·simp only[go_sem,h1,BF (p:=Nw w.t) hk' (by simp only[Nw,h1,ag]),ag]
  rcases h2:decide (w.m[k]>w.t) with _ | _
  ·simp only[go_sem,AA _ hk',hk',h1,h2,wrap_i64 (n:=(k:Int)+1) (by omega) (by omega)]
   exact⟨k+1,⟨rfl,rfl⟩,rfl,Bc hk' hk (by simp only[Nw,h1,h2]; rfl),by omega⟩
  ·simp only[go_sem,AA _ hk',hk',h1,h2,BF (p:=Nw w.t) hk' (by simp only[Nw,h1,h2]; rfl),ag]
 ·have hk':k=w.m.length:=by have:=hk.1; simp at h; omega
  subst hk'
  simp only[go_sem,CP hk,ai]
  try refine DrawK.mk ?_
  try simp only[go_sem]
  first | refine CY (WH w.d (lenD hf)) ?_ | refine CW (WH w.d (lenD hf)) fun _=>?_
  simp only[go_sem]
theorem qj {w:DWorld} {n:Int} {k:Nat} (h:n=k) (hk:k<w.b.length):Qz w n=some w.b[k]:=by
 subst h
 simp[Qz,hk]
theorem ZK (w:DWorld) (hf:Aa w):Ctr prog 111 [.agg w.c] [.val (.c (.v (.bool (ZG w))))]:=by
 refine CM call111 func111 ntmps111 results111 fun hw=>?_
 have hb:=AFA hf
 have hlb:=qi hf
 unfold ZG
 simp only[go_sem]
 refine LoopU.mk 1 (A:=Nat) (fun x=>[(8,.c (.v (.int .i64 (x))))]) (fun _=>[⟨44,14,[w.c],true,true⟩]) (FO w.x (J7 w)) (fun x=>w.x.length-x) 0 ⟨⟨rfl,rfl⟩,rfl,DW⟩ ?_
 intro k hk
 simp only[go_sem]
 refine cndC.mk (fun h=>?_) (fun h=>?_)
 ·have hk':k<w.x.length:=by simpa using h
  simp only[go_sem,AA _ hk',hk']
  refine DrawK.mk ?_
  rcases Eu w w.x[k].buf with ⟨m,hm,hbm,hat⟩ | ⟨hbm,hat⟩
  ·have e1:decide ((m:Int)<0)=false:=by simp
   have e2:decide ((m:Int)≥w.b.length)=false:=by simp; omega
   rcases h1:w.b[m].gen==w.x[k].gen with _ | _
   ·have g1:(w.b[m].gen != w.x[k].gen)=true:=by simp[bne,h1]
    simp only[go_sem,AA _ hk',hk',hbm,e1,e2,AA _ hm,hm,g1,BF (p:=J7 w) hk' (by simp only[J7,hat,h1,ag])]
   have g1:(w.b[m].gen != w.x[k].gen)=false:=by simp[bne,h1]
   simp only[go_sem,AA _ hk',hk',hbm,e1,e2,AA _ hm,hm,g1]
   refine CallF.mk _ (AC w.x[k].at0 0 w.e) ?_
   rcases h2:Ac w.x[k].at0 0 w.e with _ | _
   ·simp only[go_sem,h2,BF (p:=J7 w) hk' (by simp only[J7,hat,h1,h2,aH])]
   ·simp only[go_sem,h2,wrap_i64 (n:=(k:Int)+1) (by omega) (by omega)]
    exact⟨k+1,⟨rfl,rfl⟩,rfl,Bc hk' hk (by simp only[J7,hat,h1,h2,aS]),by omega⟩
  ·have hno:=BF (p:=J7 w) hk' (by simp only[J7,hat])
   rcases h0:decide (w.x[k].buf<0) with _ | _
   ·have e2:decide (w.x[k].buf≥(w.b.length:Int))=true:=by simp at h0 ⊢; omega
    simp only[go_sem,AA _ hk',hk',h0,e2,hno]
   ·simp only[go_sem,AA _ hk',hk',h0,hno]
 ·have hk':k=w.x.length:=by have:=hk.1; simp at h; omega
  subst hk'
  simp only[go_sem,CP hk]
@[go_sem] theorem AFq {n:Nat} {d:Departure}:Region.binds .any ⟨n,.textOnly d⟩=false:=rfl
@[go_sem] theorem AG5 {n:Nat} {d:Departure}:Region.binds .any ⟨n,.gcOnly d⟩=false:=rfl
theorem WR {cs b:List Int} {l:List DRow} (h:CS cs b=some l):Ci cs l=true:=by
 unfold CS at h
 split at h
 ·cases h
 ·split at h
  ·split at h
   ·cases h
   ·split at h
    ·rename_i h2
     cases h
     exact h2.2
    ·cases h
  ·cases h
theorem XT (w:DWorld) (r:DRef):(Eh w r).length≤12:=by
 unfold Eh
 split
 ·simp
 ·rename_i b hb
  rcases h:CS w.c0.cols b.g with _ | l
  ·simp
  ·simp only[aJ]
   exact(VL (WR h)).2.1
theorem Oq (t:DTask):Ctr prog 187 [.agg t.c] [.val (.c (.v (.bool (t.op==0))))]:=by
 refine CM call187 func187 ntmps187 results187 fun hw=>?_
 simp only[go_sem]
theorem WS (t:DTask):Ctr prog 186 [.agg t.c] [.val (.c (.v (.bool (looks t))))]:=by
 refine CM call186 func186 ntmps186 results186 fun hw=>?_
 rcases h1:t.op != 0 with _ | _<;>simp only[go_sem,h1,looks,ag,ai]
theorem WT (t:DTask):Ctr prog 166 [.agg t.c] [.val (.c (.v (.bool (looks t))))]:=by
 refine CM call166 func166 ntmps166 results166 fun hw=>?_
 rcases h1:t.op != 0 with _ | _<;>simp only[go_sem,h1,looks,ag,ai]
def J8 (c:DChunk) (i:Int):Bool:=decide (i≥0)&&decide (i<(c.l.length:Int))
theorem Gn (c:DChunk) (i:Int):Ctr prog 229 [.agg c.c,.c (.v (.int .i64 (i)))] [.val (.c (.v (.bool (J8 c i))))]:=by
 refine CM call229 func229 ntmps229 results229 fun hw=>?_
 rcases h1:decide (i≥0) with _ | _<;>simp only[go_sem,h1,J8,ag,ai]
theorem xX {w:DWorld} {n:Int} (hb:w.b.length≤1048576) (h:Ac n 1 w.b.length=true):∃ m:Nat,∃ hm:m<w.b.length,IntKind.i64.wrap (n-1)=(m:Int)∧(n-1).toNat=m:=by
 simp only[Ac,ak,bf] at h
 refine⟨(n-1).toNat,by omega, ?_,rfl⟩
 rw[wrap_i64 (by omega) (by omega)]
 omega
theorem Ot (w:DWorld) (t:DTask) (kind:Int) (hf:Aa w):Ctr prog 188 [.agg w.c,.agg t.c,.c (.v (.int .i64 (kind)))] [.val (.c (.v (.bool (Ub w t kind))))]:=by
 refine CM call188 func188 ntmps188 results188 fun hw=>?_
 unfold Ub
 simp only[go_sem]
 refine CallK.mk _ (AC t.own 1 w.b.length) fun _=>?_
 rcases h1:Ac t.own 1 w.b.length with _ | _
 ·simp only[go_sem,h1,ag]
 obtain⟨m,hm,e1,e2⟩:=xX (qi hf) h1
 simp only[go_sem,h1,e1,e2,AA _ hm,hm,aA hm,ai]
theorem VT {w:DWorld} {r:DRef} (h:there w r=true) (hk:(r.kind==1)=true):∃ m:Nat,∃ hm:m<w.b.length,r.buf=(m:Int)∧(w.b[m].c0.l.length:Int)=r.many:=by
 unfold there at h
 obtain⟨m,hm,hb,hat⟩ | ⟨hb,hat⟩:=Eu w r.buf
 ·rw[hat] at h
  refine⟨m,hm,hb, ?_⟩
  have hk1:r.kind=1:=by simpa using hk
  simp only[O_,hk1,ak,sV] at h
  rcases h.2.2 with h2 | h2
  ·simp at h2
  ·simpa using h2
 ·rw[hat] at h
  cases h
theorem xY {t:DTask} (h:((t.l.length:Int)==1)=true):∃ h0:0<t.l.length,l0 t=t.l[0]:=by
 have h1:(t.l.length:Int)=1:=ZZ.1 h
 refine⟨by omega, ?_⟩
 unfold l0
 rw[List.headD_eq_head?_getD,List.head?_eq_getElem?,aA (by omega)]
 rfl
theorem VU {w:DWorld} {l:List DRef} (h:l.all (there w)=true) {k:Nat} (hk:k<l.length):there w l[k]=true:=aF.1 h _ (aj hk)
structure TaskIn (w:DWorld) (t:DTask) (d:DDeed) (m:Nat):Prop where
 hm:m<w.deeds.length
 hd:w.deeds[m]=d
 ht:t.h=m
 ft:Ef t
 fd:ED d
 th:t.l.all (there w)=true
 i0:0≤t.i
 j0:0≤t.j
 fr:∀ r∈t.l,Dt r=true
theorem Jm (w:DWorld) (t:DTask) (d:DDeed) {m:Nat} (hf:Aa w) (H:TaskIn w t d m):Ctr prog 189 [.agg w.c,.agg t.c] [.val (.c (.v (.bool (ABw w t d))))]:=by
 obtain⟨hm,hd,ht,hft,hfd,hth,hi,hj,hfr⟩:=H
 refine CM call189 func189 ntmps189 results189 fun hw=>?_
 rw[Di] at hft
 rw[FP] at hfd
 unfold ABw
 simp only[go_sem]
 try refine DrawK.mk ?_
 try simp only[go_sem]
 first | refine CallF.mk _ (OJ w.c0.cols t.r) ?_ | refine CallK.mk _ (OJ w.c0.cols t.r) fun _=>?_
 rcases h1:fits w.c0.cols t.r with _ | _
 ·simp only[go_sem,h1,ag]
 simp only[go_sem,h1,ht,AA _ hm,hm,hd,ai]
 try refine DrawK.mk ?_
 try simp only[go_sem,h1,ht,AA _ hm,hm,hd]
 first | refine CallF.mk _ (PM t.r d.r hft.1.1 hfd.1.1) ?_ | refine CallK.mk _ (PM t.r d.r hft.1.1 hfd.1.1) fun _=>?_
 rcases h2:LU t.r d.r with _ | _
 ·simp only[go_sem,h2,ag]
 simp only[go_sem,h2,ai]
 try refine DrawK.mk ?_
 try simp only[go_sem]
 first | refine CallF.mk _ (AC t.pc 2 4) ?_ | refine CallK.mk _ (AC t.pc 2 4) fun _=>?_
 by_cases hq:(!Ac t.pc 2 4 && !Ac t.pc 6 7)=true
 ·rw[hq,cO]
  simp only[ak,aa3] at hq
  simp only[go_sem,hq.1]
  try refine DrawK.mk ?_
  try simp only[go_sem,hq.1]
  first | refine CallF.mk _ (AC t.pc 6 7) ?_ | refine CallK.mk _ (AC t.pc 6 7) fun _=>?_
  simp only[go_sem,hq.2]
 have hq2:(!Ac t.pc 2 4 && !Ac t.pc 6 7)=false:=by simpa using hq
 rw[hq2,bQ]
 have hc:Ac t.pc 2 4=true∨(Ac t.pc 2 4=false∧Ac t.pc 6 7=true):=by
  rcases h3:Ac t.pc 2 4 with _ | _
  ·rw[h3] at hq2
   exact .inr ⟨rfl,by simpa using hq2⟩
  ·exact .inl rfl
 rcases hc with h3 | ⟨h3,h4⟩
 rotate_left
 simp only[go_sem,h3]
 try refine DrawK.mk ?_
 try simp only[go_sem,h3]
 first | refine CallF.mk _ (AC t.pc 6 7) ?_ | refine CallK.mk _ (AC t.pc 6 7) fun _=>?_
 simp only[go_sem,h4]
 rotate_left
 simp only[go_sem,h3]
 all_goals
  rcases h5:((t.l.length:Int)==1) with _ | _
  ·have g5:((t.l.length:Int) != 1)=true:=by simp only[bne,h5,aO]
   simp only[go_sem,g5,ag]
   try refine DrawK.mk ?_
   try simp only[go_sem,g5]
  have g5:((t.l.length:Int) != 1)=false:=by simp only[bne,h5,aQ]
  obtain⟨h0,hl0⟩:=xY h5
  rw[hl0,ai]
  rcases h6:t.l[0].kind==1 with _ | _
  ·have g6:(t.l[0].kind != 1)=true:=by simp[bne,h6]
   simp only[go_sem,g5,g6,AA _ h0,h0,ag]
   try refine DrawK.mk ?_
   try simp only[go_sem,g5,g6,AA _ h0,h0]
  have g6:(t.l[0].kind != 1)=false:=by simp[bne,h6]
  obtain⟨q,hq,hqb,hqm⟩:=VT (VU hth h0) h6
  have hsl:J8 w.b[q].c0 t.i=decide (t.i<t.l[0].many):=by
   have e:decide (t.i≥0)=true:=by simpa using hi
   unfold J8
   rw[e,hqm,ai]
  simp only[go_sem,g5,g6,AA _ h0,h0,ai]
  try refine DrawK.mk ?_
  try simp only[go_sem,g5,g6,AA _ h0,h0]
  rcases h7:t.pc==2 with _ | _
  ·simp only[go_sem,h7,AA _ h0,h0,hqb,AA _ hq,hq,bQ]
   try refine DrawK.mk ?_
   try simp only[go_sem,h7,AA _ h0,h0,hqb,AA _ hq,hq]
   first | refine CY (Gn w.b[q].c0 t.i) ?_ | refine CW (Gn w.b[q].c0 t.i) fun _=>?_
   simp only[go_sem,hsl]
  ·simp only[go_sem,h7,cO]
   try refine DrawK.mk ?_
   try simp only[go_sem,h7]
theorem QJ (w:DWorld) (t:DTask) (d:DDeed) {m:Nat} (hf:Aa w) (H:TaskIn w t d m):Ctr prog 190 [.agg w.c,.agg t.c] [.val (.c (.v (.bool (qY w t d))))]:=by
 obtain⟨hm,hd,ht,hft,hfd,hth,hi,hj,hfr⟩:=H
 refine CM call190 func190 ntmps190 results190 fun hw=>?_
 unfold qY
 rcases h1:t.id==d.id with _ | _
 ·have g1:(t.id != d.id)=true:=by simp[bne,h1]
  simp only[go_sem,ht,AA _ hm,hm,hd,g1,ag]
  try refine DrawK.mk ?_
  try simp only[go_sem,ht,AA _ hm,hm,hd,g1]
 have g1:(t.id != d.id)=false:=by simp[bne,h1]
 simp only[go_sem,ht,AA _ hm,hm,hd,g1,ai]
 try refine DrawK.mk ?_
 try simp only[go_sem,ht,AA _ hm,hm,hd,g1]
 try refine DrawK.mk ?_
 try simp only[go_sem]
 first | refine CallF.mk _ (AC t.pc 2 7) ?_ | refine CallK.mk _ (AC t.pc 2 7) fun _=>?_
 rcases h2:Ac t.pc 2 7 with _ | _
 ·simp only[go_sem,h2,aO,cO]
 simp only[go_sem,h2,aQ,bQ]
 rcases h5:((t.l.length:Int)==1) with _ | _
 ·have g5:((t.l.length:Int) != 1)=true:=by simp only[bne,h5,aO]
  simp only[go_sem,g5,ag]
  try refine DrawK.mk ?_
  try simp only[go_sem,g5]
 have g5:((t.l.length:Int) != 1)=false:=by simp only[bne,h5,aQ]
 obtain⟨h0,hl0⟩:=xY h5
 rw[hl0,ai]
 try refine DrawK.mk ?_
 try simp only[go_sem,g5,AA _ h0,h0]
 first | refine CY (Fv t.l[0] t.id) ?_ | refine CW (Fv t.l[0] t.id) fun _=>?_
 rcases h6:CQ t.l[0] t.id with _ | _
 ·simp only[go_sem,h6,ag]
 rcases h7:decide (t.id<(w.m.length:Int)) with _ | _
 ·have g7:decide (t.id≥(w.m.length:Int))=true:=by simp at h7 ⊢; omega
  simp only[go_sem,h6,g7,ag,ai]
 have g7:decide (t.id≥(w.m.length:Int))=false:=by simp at h7 ⊢; omega
 simp only[go_sem,h6,g7,ai]
 try refine DrawK.mk ?_
 try simp only[go_sem]
 first | refine CallF.mk _ (AC t.pc 3 4) ?_ | refine CallK.mk _ (AC t.pc 3 4) fun _=>?_
 rcases h8:Ac t.pc 3 4 with _ | _
 ·simp only[go_sem,h8,aO,cO]
 ·simp only[go_sem,h8,AA _ h0,h0,aQ,bQ]
def Ou:DRow:=⟨0,[]⟩
theorem kV (w:DWorld) (r:DRef) {q m:Nat} (hf:Aa w) (hq:q<w.b.length) (hb:r.buf=(q:Int)) (hth:there w r=true) (hk:(r.kind==1)=true) (hm:m<w.b[q].c0.l.length) :
  Ctr prog 231 [.agg w.c,.agg r.c,.c (.v (.int .i64 ((m:Int))))] [.agg (DRow.o ⟨IntKind.i64.wrap (r.first+m),w.b[q].c0.l[m].l⟩),.val (.c (.v (.bool (true))))]:=by
 have hat:=qj hb hq
 have hc:Gu w r=(w.b[q].c0,true):=by
  unfold Gu
  simp only[there,hat] at hth
  simp[hat,hth,hk]
 have hco:=ND w r
 rw[hc] at hco
 have hfl:w.b[q].c0.l[m].l.length≤1048576:=by
  have:=Nz hf hq
  rw[Ht,Ez] at this
  have h2:=this.1.2 _ (aj hm)
  rw[LM] at h2
  exact h2.1
 refine CM call231 func231 ntmps231 results231 fun hw=>?_
 simp only[go_sem]
 try refine DrawK.mk ?_
 try simp only[go_sem]
 first | refine CY (hco) ?_ | refine CW (hco) fun _=>?_
 simp only[go_sem]
 try refine DrawK.mk ?_
 try simp only[go_sem]
 first | refine CY (Gn w.b[q].c0 (m:Int)) ?_ | refine CW (Gn w.b[q].c0 (m:Int)) fun _=>?_
 have hs:J8 w.b[q].c0 (m:Int)=true:=by simp[J8]; exact hm
 simp only[go_sem,hs,AA _ hm,hm]
 refine DrawK.mkE ?_
 simp only[go_sem,hs,AA _ hm,hm]
 refine CallE.mk _ (Fh w.b[q].c0.l[m].l hfl) ?_
 simp only[go_sem,CV,AA _ hm,hm]
 try simp[AU,AO]
theorem zl (w:DWorld) (r:DRef) (j:Int) (hf:Aa w) (hth:there w r=true) (hk:(r.kind==1)=true) (hm:decide (j<r.many)=false) :
  Ctr prog 231 [.agg w.c,.agg r.c,.c (.v (.int .i64 (j)))] [.val (.agg Ou.c),.val (.c (.v (.bool (false))))]:=by
 obtain⟨q,hq,hb,hmn⟩:=VT hth hk
 have hat:=qj hb hq
 have hc:Gu w r=(w.b[q].c0,true):=by
  unfold Gu
  simp only[there,hat] at hth
  simp[hat,hth,hk]
 have hco:=ND w r
 rw[hc] at hco
 have hk2:(r.kind==2)=false:=by have:r.kind=1:=(by simpa using hk); rw[this]; rfl
 have hgr:=KA w r hf
 rw[hk2,ag] at hgr
 refine CM call231 func231 ntmps231 results231 fun hw=>?_
 simp only[go_sem]
 try refine DrawK.mk ?_
 try simp only[go_sem]
 first | refine CY (hco) ?_ | refine CW (hco) fun _=>?_
 simp only[go_sem]
 try refine DrawK.mk ?_
 try simp only[go_sem]
 first | refine CY (Gn w.b[q].c0 j) ?_ | refine CW (Gn w.b[q].c0 j) fun _=>?_
 have hs:J8 w.b[q].c0 j=false:=by unfold J8; rw[hmn,hm,aH]
 simp only[go_sem,hs]
 try refine DrawK.mk ?_
 try simp only[go_sem,hs]
 first | refine CallF.mk _ (by simpa only[go_sem,dh,aC,aT] using hgr) ?_ | refine CallK.mk _ (by simpa only[go_sem,dh,aC,aT] using hgr) fun _=>?_
 rcases h0:decide (j≥0) with _ | _
 ·simp only[go_sem,h0,Ou,dh]
 have e1:decide (j<0)=false:=by simp at h0 ⊢; omega
 have e2:decide (j<(((0:Nat)):Int))=false:=e1
 simp only[go_sem,h0,X5,abG,e1,e2,Ou,dh]
theorem uq (w:DWorld) (r:DRef) (j:Int) (hf:Aa w) (hth:there w r=true) (hk:(r.kind==1)=false) (hk2:(r.kind==2)=true) (h0:0≤j) :
  Ctr prog 231 [.agg w.c,.agg r.c,.c (.v (.int .i64 (j)))] (match (Eh w r)[j.toNat]? with
   | none=>[.val (.agg Ou.c),.val (.c (.v (.bool (false))))]
   | some x=>[.val (.agg x.c),.val (.c (.v (.bool (true))))]):=by
 have hc:Gu w r=(F8,false):=by
  unfold Gu
  split
  ·rfl
  ·simp[hk]
 have hco:=ND w r
 rw[hc] at hco
 have hgr:=KA w r hf
 rw[hk2,hth] at hgr
 have hgl:=XT w r
 refine CM call231 func231 ntmps231 results231 fun hw=>?_
 simp only[go_sem]
 try refine DrawK.mk ?_
 try simp only[go_sem]
 first | refine CallF.mk _ (by simpa only[go_sem,F8,dh] using hco) ?_ | refine CallK.mk _ (by simpa only[go_sem,F8,dh] using hco) fun _=>?_
 simp only[go_sem]
 try refine DrawK.mk ?_
 try simp only[go_sem]
 first | refine CallF.mk _ (by simpa only[go_sem,ai,bD] using hgr) ?_ | refine CallK.mk _ (by simpa only[go_sem,ai,bD] using hgr) fun _=>?_
 have e0:decide (j≥0)=true:=by simpa using h0
 rcases bI j.toNat (Eh w r).length with hm | hm
 ·obtain⟨m,rfl⟩:=aP h0
  have hm:m<(Eh w r).length:=by simpa using hm
  have e1:decide ((m:Int)<((Eh w r).length:Int))=true:=by simp; omega
  rw[bY,aA hm]
  simp only[go_sem,e0,e1,AA _ hm,hm]
 ·have e1:decide (j<((Eh w r).length:Int))=false:=by simp; omega
  rw[nR hm]
  simp only[go_sem,e0,e1,Ou,dh]
end Go.Proofs.YtnfbaclikokapaaGreat
