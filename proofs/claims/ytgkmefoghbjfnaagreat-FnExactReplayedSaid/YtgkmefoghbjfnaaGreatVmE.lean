/- A part. -/
import Derived.Test.YtgkmefoghbjfnaaGreatVmB
import Derived.WalkLawsBesides
import Derived.OpenShut
import Derived.Laws.StructEq
import Derived.ChangeKeysEq
import Derived.Laws.BytesArg
set_option linter.unusedSimpArgs false
set_option linter.unusedVariables false
namespace Go.Vm
open Go.RowKit
def AQ (P:Program) (t:TypeId):Option Nat:=(P.info? t).map (·.size)
def Az (P:Program) (t:TypeId):Option Bool:=(P.underlying t).map fun d=>match d with | .struct _ | .array _ _=>true | _=>false
def J9 (P:Program) (t:TypeId):Option (List Value):=(P.info? t).bind fun i=>i.zero.map fun z=>z.cells.toList
def Yn (zs:List Value):Bool:=zs.all Kz
def NC (P:Program) (t:TypeId):Option (List Cl):=match J9 P t with
 | some zs=>if Yn zs then some (zs.map .v) else none
 | none=>none
theorem J_ {P:Program} {t:TypeId} {cs:List Cl} (h:NC P t=some cs):∃ zs,J9 P t=some zs∧Yn zs=true∧cs=zs.map .v:=by
 unfold NC at h
 split at h
 ·rename_i zs hz
  split at h
  ·rename_i hw
   simp only[ag] at h
   exact⟨zs,hz,hw,h.symm⟩
  ·cases h
 ·cases h
def AB (P:Program) (t:TypeId) (f:Nat):Option (Nat×TypeId):=match P.underlying t with
 | some (.struct fs)=>(fs[f]?).map fun x=>(x.offset,x.type)
 | _=>none
def CE (P:Program) (t:TypeId):Option TypeId:=match P.underlying t with
 | some (.slice e)=>some e
 | _=>none
theorem Eb {P:Program} {t:TypeId} {n:Nat} (h:AQ P t=some n) (w:World):(sizeOf t).run P w = .ok n w:=by
 unfold AQ at h
 cases hi:P.info? t with
 | none=>simp[hi] at h
 | some i=>simp[hi] at h; simp[sizeOf,typeInfo,hi,h]
theorem Ny {P:Program} {t:TypeId} {g:Bool} (h:Az P t=some g) (w:World):(isAgg t).run P w = .ok g w:=by
 unfold Az at h
 cases hu:P.underlying t with
 | none=>simp[hu] at h
 | some d =>
  simp only[hu,sZ,ag] at h
  subst h
  simp only[isAgg,Sem.run_bind,run_underlying hu,Result.andThen_ok]
  cases d<;>rfl
theorem Nz {P:Program} {t:TypeId} {cs:List Value} (h:J9 P t=some cs) (w:World):∃ z,(zeroValue t).run P w = .ok z w∧z.cells.toList=cs:=by
 unfold J9 at h
 cases hi:P.info? t with
 | none=>simp[hi] at h
 | some i =>
  cases hz:i.zero with
  | none=>simp[hi,hz] at h
  | some z=>simp[hi,hz] at h; exact⟨z,by simp[zeroValue,typeInfo,hi,hz],h⟩
def O5 (v:Value):AV:=match v with
 | .agg cs=>.agg (cs.toList.map .v)
 | .tuple vs=>if vs.toList.isEmpty then .undef else .un
 | v=>.c (.v v)
def VA (v:Value):Bool:=match v with
 | .agg cs=>cs.toList.all Kz
 | .tuple _=>true
 | v=>Kz v
def Af:Operand→Bool
 | .const v=>VA v
 | _=>true
def unpin:AV→AV
 | .pin x _=>x
 | .c x=>.c x
 | .agg xs=>.agg xs
 | .lp l i off=>.lp l i off
 | .ip xs=>.ip xs
 | .tup xs=>.tup xs
 | .undef=>.undef
 | .un=>.un
 | .clo f xs=>.clo f xs
theorem AVR.unpin {w:World} {St:Nat→Nat→Prop} {st:List Ob} {β:Nat→Option Nat} {x:AV} {u:Value} (h:AVR w St st β x u):AVR w St st β (unpin x) u:=by
 cases x with
 | pin x u0=>simp only[AVR] at h; exact h.2
 | _=>exact h
def Cf (s:MS):Operand→AV
 | .tmp t=>unpin (BK s.env t)
 | .const v=>O5 v
 | .global g=>.c (.v (.pointer (some ⟨g,0,none⟩)))
 | .func f=>.c (.v (.func (.func f) #[] #[]))
theorem fE {w:World} {St:Nat→Nat→Prop} {st:List Ob} {β:Nat→Option Nat} (v:Value) (hv:VA v=true):AVR w St st β (O5 v) v:=by
 cases v with
 | agg cs =>
  simp only[O5,AVR]
  simp only[VA] at hv
  refine⟨cs.toList,by simp,by simp,fun k c hk=>?_⟩
  simp only[cZ,cu] at hk
  obtain⟨y,hy,rfl⟩:=hk
  refine⟨y,hy, ?_⟩
  simp only[RdC,RdD,lH]
  exact aA.1 hv y (aT hy)
 | tuple vs =>
  simp only[O5]
  split
  ·rename_i h
   have:vs = #[]:=by cases vs; simp_all
   subst this
   simp only[AVR]; rfl
  ·simp only[AVR]
 | _=>simp only[O5,AVR,RdC,RdD,lH]; exact hv
theorem BJ {w0:Bs} {St0 St:Nat→Nat→Prop} {β:Nat→Option Nat} {s:MS} {a:Act} {w:World} (h:Core w0 St0 St β s a w) (x:Operand) (hx:Af x=true):AVR w St s.st β (Cf s x) (a.eval x):=by
 cases x with
 | tmp t=>exact(h.env t).unpin
 | const v=>exact fE v hx
 | global g=>simp[Cf,AVR,RdC,RdD,Act.eval,Kz]
 | func f=>simp[Cf,AVR,RdC,RdD,Act.eval,Kz]
def cellsA:AV→Option (List Cl)
 | .c x=>some [x]
 | .agg xs=>some xs
 | _=>none
theorem K_ {w:World} {St:Nat→Nat→Prop} {st:List Ob} {β:Nat→Option Nat} {x:AV} {u:Value} {cs:List Cl} (h:AVR w St st β x u) (hc:cellsA x=some cs) :
  u.cells.toList.length=cs.length∧∀ (k:Nat) (c:Cl),cs[k]?=some c→∃ y,u.cells.toList[k]?=some y∧RdC w St st β c y:=by
 cases x with
 | c x =>
  simp only[cellsA,ag] at hc
  subst hc
  simp only[AVR] at h
  have h1:u.oneCell'=true:=by
   cases x with
   | v y=>simp only[RdC,RdD] at h; obtain⟨rfl,h⟩:=h; exact ZY h
   | sl xs=>simp only[RdC,RdD] at h; obtain⟨a,cap,rfl,_⟩:=h; rfl
   | ref l=>simp only[RdC,Aq] at h; split at h<;>first | exact h.elim | exact h.1
   | ow ty sz xs=>simp[RdC,RdD] at h
  have h2:u.cells = #[u]:=by cases u<;>first | rfl | simp[Value.oneCell'] at h1
  rw[h2]
  refine⟨rfl,fun k c hk=>?_⟩
  cases k with
  | zero=>simp at hk; subst hk; exact⟨u,rfl,h⟩
  | succ k=>simp at hk
 | agg xs =>
  simp only[cellsA,ag] at hc
  subst hc
  simp only[AVR] at h
  obtain⟨us,rfl,h2,h3⟩:=h
  exact⟨by simpa [Value.cells] using h2,fun k c hk=>by simpa [Value.cells] using h3 k c hk⟩
 | _=>simp[cellsA] at hc
theorem RdC.one {w:World} {St:Nat→Nat→Prop} {st:List Ob} {β:Nat→Option Nat} {x:Cl} {u:Value} (h:RdC w St st β x u):u.oneCell'=true:=by
 cases x with
 | v y=>simp only[RdC,RdD] at h; obtain⟨rfl,h⟩:=h; exact ZY h
 | sl xs=>simp only[RdC,RdD] at h; obtain⟨a,cap,rfl,_⟩:=h; rfl
 | ref l=>simp only[RdC,Aq] at h; split at h<;>first | exact h.elim | exact h.1
 | ow ty sz xs=>simp[RdC,RdD] at h
theorem RdB.one {w:World} {St:Nat→Nat→Prop} {st:List Ob} {β:Nat→Option Nat} {x:Cl} {u:Value} (h:RdB w St st β x u):u.oneCell'=true:=by
 cases x with
 | ow ty sz xs=>exact h
 | v y=>exact RdC.one (w:=w) (St:=St) (st:=st) (β:=β) (x:=.v y) h
 | sl xs=>exact RdC.one (w:=w) (St:=St) (st:=st) (β:=β) (x:=.sl xs) h
 | ref l=>exact RdC.one (w:=w) (St:=St) (st:=st) (β:=β) (x:=.ref l) h
def BV (st:List Ob) (l:Nat):Option Ob:=match st[l]? with
 | some ob=>if ob.live then some ob else none
 | none=>none
theorem Ag {st:List Ob} {l:Nat} {ob:Ob} (h:BV st l=some ob):st[l]?=some ob∧ob.live=true:=by
 unfold BV at h
 split at h
 ·split at h
  ·simp only[ag] at h; subst h; exact⟨‹_›,‹_›⟩
  ·cases h
 ·cases h
def Le (st:List Ob):Cl→Option (List (List Cl))
 | .v (.slice none 0 0)=>some []
 | .v _=>none
 | .sl xs=>some xs
 | .ref l=>(BV st l).map (·.xs)
 | .ow _ _ _=>none
def oz (st:List Ob):Cl→Option Cl
 | .v (.slice none 0 0)=>some (.sl [])
 | .v (.slice _ _ _)=>none
 | .v x=>some (.v x)
 | .sl xs=>some (.sl xs)
 | .ref l=>match BV st l with
  | some ob=>if E5 ob.xs then some (.sl ob.xs) else none
  | none=>none
 | .ow _ _ _=>none
def Jf (st:List Ob) (l:Nat):List Ob:=st.modify l fun ob=>{ ob with wr:=false }
def XR (st:List Ob):Cl→List Ob
 | .ref l=>Jf st l
 | _=>st
theorem Dz {xs:List (List Cl)} {sz:Nat} (hl:∀ x∈xs,x.length=sz):∀ (i j:Nat) (x:List Cl) (c:Cl),xs[i]?=some x→x[j]?=some c→xs.flatten[i*sz+j]?=some c:=by
 induction xs with
 | nil=>intro i j x c h; simp at h
 | cons x0 xs ih =>
  intro i j x c hi hj
  have h0:x0.length=sz:=hl x0 (by simp)
  simp only[bM]
  cases i with
  | zero =>
   simp only[ai,ag] at hi
   subst hi
   have:j<x0.length:=by
    rcases aX j x0.length with h | h
    ·exact h
    ·simp[df h] at hj
   rw[ah (by omega)]
   simpa using hj
  | succ i =>
   simp only[mV] at hi
   rw[ak (by rw[Pj]; omega)]
   have:=ih (fun y hy=>hl y (by simp[hy])) i j x c hi hj
   rwa [show (i+1)*sz+j-x0.length=i*sz+j by rw[Pj]; omega]
theorem CJ {xs:List (List Cl)} {sz:Nat} (hl:∀ x∈xs,x.length=sz):xs.flatten.length=xs.length*sz:=by
 induction xs with
 | nil=>simp
 | cons x xs ih =>
  simp only[bM,aO,bQ]
  rw[ih (fun y hy=>hl y (by simp[hy])),hl x (by simp),Pj]; omega
theorem KA {w:World} {St:Nat→Nat→Prop} {st:List Ob} {β:Nat→Option Nat} {c:Cl} {u:Value} (hp:AO c=true) (h:RdC w St st β c u):RdD w St c u:=by
 cases c with
 | ref l=>simp[AO] at hp
 | v x=>exact h
 | sl xs=>exact h
 | ow ty sz xs=>simp[AO] at hp
theorem Ec {c:Cl} (hp:AO c=true):Dj c=false:=by
 cases c<;>simp_all [AO,Dj]
theorem O6 {w:World} {st:List Ob} {β:Nat→Option Nat} {l:Nat} (l':Nat) (u:Value):Aq w (Jf st l) β l' u↔Aq w st β l' u:=by
 unfold Aq Jf
 rw[sV]
 by_cases h:l=l'
 ·subst h
  cases st[l]?<;>simp
 ·simp[h]
theorem Core.freeze {w0:Bs} {St0 St:Nat→Nat→Prop} {β:Nat→Option Nat} {s:MS} {a:Act} {w:World} (h:Core w0 St0 St β s a w) (l:Nat) {ob:Ob} (hl:BV s.st l=some ob) (hp:E5 ob.xs=true) :
  ∃ St',Core w0 St0 St' β ⟨s.n,s.env,Jf s.st l⟩ a w∧(∀ b o,St b o→St' b o)∧(∀ u,Aq w s.st β l u→RdD w St' (.sl ob.xs) u)∧∀ b,β l=some b→(∀ x∈ob.xs,x.length=ob.sz)∧RdE w St' ob.xs b 0:=by
 obtain⟨hl1,hlive⟩:=Ag hl
 refine⟨fun b o=>St b o∨(β l=some b∧o<ob.xs.length*ob.sz), ?_,fun b o hbo=>.inl hbo, ?_, ?_⟩
 ·have hget:∀ l' ob',(Jf s.st l)[l']?=some ob'→∃ ob'',s.st[l']?=some ob''∧ob'.ty=ob''.ty∧ob'.sz=ob''.sz∧ob'.xs=ob''.xs∧ob'.live=ob''.live∧(l=l'→ob'.wr=false)∧(l≠l'→ob'=ob''):=by
   intro l' ob' h'
   unfold Jf at h'
   rw[sV] at h'
   simp only[Option.map_eq_map,cu] at h'
   obtain⟨ob'',h1,h2⟩:=h'
   refine⟨ob'',h1, ?_⟩
   by_cases e:l=l'
   ·simp only[e,bC] at h2; subst h2; simp[e]
   ·simp only[e,aK] at h2; subst h2; simp[e]
  have hS:∀ b o,St b o→St b o∨(β l=some b∧o<ob.xs.length*ob.sz):=fun b o hbo=>.inl hbo
  have hr:∀ l' u,Aq w s.st β l' u→Aq w (Jf s.st l) β l' u:=fun l' u hu=>(O6 l' u).2 hu
  have hp':∀ l' i off u,AVR w St s.st β (.lp l' i off) u→AVR w (fun b o=>St b o∨(β l=some b∧o<ob.xs.length*ob.sz)) (Jf s.st l) β (.lp l' i off) u:=by
   intro l' i off u hu
   simp only[AVR] at hu ⊢
   cases hq:(Jf s.st l)[l']? with
   | none =>
    unfold Jf at hq
    rw[sV] at hq
    simp only[Option.map_eq_map,Option.map_eq_none_iff] at hq
    simp[hq] at hu
   | some ob' =>
    obtain⟨ob'',h1,_,h3,_,h5,_⟩:=hget l' ob' hq
    simp only[h1] at hu
    simpa [h3,h5] using hu
  exact {
   defers:=h.defers
   size:=h.size
   env:=fun i=>AVR.mono hS (fun _ _ _=>rfl) hr hp' _ _ (h.env i)
   below:=h.below
   st0:=fun b o hbo=>.inl (h.st0 b o hbo)
   stOld:=fun b o hbo hlt hno=>by
    rcases hbo with hbo | ⟨hβ,_⟩
    ·exact h.stOld b o hbo hlt hno
    ·rcases(h.obs l ob b hl1 hlive hβ).1 with h' | h'
     ·omega
     ·exact absurd h' hno
   stIn:=fun b o hbo=>by
    rcases hbo with hbo | ⟨hβ,_⟩
    ·exact h.stIn b o hbo
    ·exact(h.obs l ob b hl1 hlive hβ).2.1
   obs:=fun l' ob' b hl' hlive' hβ=>by
    obtain⟨ob'',h1,h2,h3,h4,h5,_⟩:=hget l' ob' hl'
    obtain⟨h6,h7,h8⟩:=h.obs l' ob'' b h1 (by rw[← h5]; exact hlive') hβ
    refine⟨h6,h7, ?_⟩
    obtain⟨cs,g1,g2,g3⟩:=ObR.mono hS (fun _ _ _=>rfl) hr rfl h8
    exact⟨cs,by rw[h2]; exact g1,by rw[h4,h3]; exact g2,by rw[h4]; exact g3⟩
   nil:=fun l' ob' hl' hlive' hβ=>by
    obtain⟨ob'',h1,_,_,h4,h5,_⟩:=hget l' ob' hl'
    rw[h4]; exact h.nil l' ob'' h1 (by rw[← h5]; exact hlive') hβ
   inj:=fun l1 l2 o1 o2 b h1 h2 h3 h4 h5 h6=>by
    obtain⟨p1,q1,_,_,_,r1,_⟩:=hget l1 o1 h1
    obtain⟨p2,q2,_,_,_,r2,_⟩:=hget l2 o2 h2
    exact h.inj l1 l2 p1 p2 b q1 q2 (by rw[← r1]; exact h3) (by rw[← r2]; exact h4) h5 h6
   sep:=fun l' ob' b o hl' hlive' hβ hbo=>by
    obtain⟨ob'',h1,_,h3,h4,h5,h6,h7⟩:=hget l' ob' hl'
    rcases hbo with hbo | ⟨hβl,ho⟩
    ·have:=h.sep l' ob'' b o h1 (by rw[← h5]; exact hlive') hβ hbo
     rw[h3,h4]
     by_cases e:l=l'
     ·exact⟨h6 e,this.2⟩
     ·rw[h7 e]; exact this
    ·have e:l=l':=h.inj l l' ob ob'' b hl1 h1 hlive (by rw[← h5]; exact hlive') hβl hβ
     subst e
     rw[hl1] at h1
     simp only[ag] at h1
     subst h1
     rw[h3,h4]
     exact⟨h6 rfl,ho⟩
   own:=by
    refine h.own.move id (fun x hx=>⟨⟨hx.1,hx.2.1,hx.2.2.1,fun o ho=>?_,fun l' o' hl' hlv=>by
     obtain⟨o2,g1,_,_,_,g5,_⟩:=hget l' o' hl'
     exact hx.2.2.2.2 l' o2 g1 (by rw[← g5]; exact hlv)⟩,rfl⟩) hS (fun _ _ _=>rfl) (fun l' ob' b k c h1 h2 h3 h4 h5=>?_) (fun _ _ _ _ _ _ _ _ e=>e)
    ·rcases ho with ho | ⟨hβ,_⟩
     ·exact hx.2.2.2.1 o ho
     ·exact hx.2.2.2.2 l ob hl1 hlive hβ
    ·obtain⟨ob'',g1,_,_,g4,g5,_⟩:=hget l' ob' h1
     exact⟨ob'',b,g1,by rw[← g5]; exact h2,h3,by rw[← g4]; exact h4,rfl⟩ }
 ·intro u hu
  unfold Aq at hu
  simp only[hl1] at hu
  have hu2:=hu.2 hlive
  cases hβ:β l with
  | none =>
   simp only[hβ] at hu2
   obtain⟨rfl,hx⟩:=hu2
   simp only[RdD]
   exact⟨none,0,by simp[hx],by simp[hx],by simp[maxLen],⟨0,by simp[hx]⟩,.inl hx⟩
  | some b =>
   simp only[hβ] at hu2
   obtain⟨cap,cs,rfl,h2,h3,h4,h5⟩:=hu2
   obtain⟨_,_,cs',g1,g2,g3⟩:=h.obs l ob b hl1 hlive hβ
   simp only[RdD]
   refine⟨some ⟨b,0,none⟩,cap,rfl,h2,h3,⟨ob.sz,g2⟩,.inr ⟨b,0,rfl, ?_⟩⟩
   refine RdE.mk ob.sz g2 fun i x hi=>RdL.mk fun j c hj=>?_
   have hf:=Dz g2 i j x c hi hj
   obtain⟨v,hv,hc⟩:=g3 _ c hf
   have hlt:i*ob.sz+j<ob.xs.length*ob.sz:=by
    rw[← CJ g2]
    rcases aX (i*ob.sz+j) ob.xs.flatten.length with h' | h'
    ·exact h'
    ·simp[df h'] at hf
   have hpc:AO c=true:=by
    have h1:BI x=true:=aA.1 hp x (aT hi)
    exact aA.1 h1 c (aT hj)
   refine⟨.inr ⟨rfl,by omega⟩,v, ?_, ?_⟩
   ·rw[World.cell?,g1]
    simp only[aj,aN,aK]
    rw[show 0+i*ob.sz+j=i*ob.sz+j by omega]; exact hv
   ·exact RdD.mono (fun b o hbo=>.inl hbo) (fun _ _ _=>rfl) _ _ (KA hpc (hc.toC (Ec hpc)))
 ·intro b hβ
  obtain⟨_,_,cs',g1,g2,g3⟩:=h.obs l ob b hl1 hlive hβ
  refine⟨g2, ?_⟩
  refine RdE.mk ob.sz g2 fun i x hi=>RdL.mk fun j c hj=>?_
  have hf:=Dz g2 i j x c hi hj
  obtain⟨v,hv,hc⟩:=g3 _ c hf
  have hlt:i*ob.sz+j<ob.xs.length*ob.sz:=by
   rw[← CJ g2]
   rcases aX (i*ob.sz+j) ob.xs.flatten.length with h' | h'
   ·exact h'
   ·simp[df h'] at hf
  have hpc:AO c=true:=by
   have h1:BI x=true:=aA.1 hp x (aT hi)
   exact aA.1 h1 c (aT hj)
  refine⟨.inr ⟨hβ,by omega⟩,v, ?_, ?_⟩
  ·rw[World.cell?,g1]
   simp only[aj,aN,aK]
   rw[show 0+i*ob.sz+j=i*ob.sz+j by omega]; exact hv
  ·exact RdD.mono (fun b o hbo=>.inl hbo) (fun _ _ _=>rfl) _ _ (KA hpc (hc.toC (Ec hpc)))
def vK (k:IntKind) (x y:Int):Int:=((BitVec.ofInt k.bits x &&& BitVec.ofInt k.bits y).toNat:Int)
def yX (k:IntKind) (x y:Int):Int:=((BitVec.ofInt k.bits x ||| BitVec.ofInt k.bits y).toNat:Int)
def qw (op:BinOp) (k:IntKind) (x y:Int):Option Value:=match op with
 | .add=>some (.int k (k.wrap (x+y)))
 | .sub=>some (.int k (k.wrap (x-y)))
 | .mul=>some (.int k (k.wrap (x*y)))
 | .quo=>if y=0 then none else some (.int k (k.wrap (x.tdiv y)))
 | .rem=>if y=0 then none else some (.int k (k.wrap (x.tmod y)))
 | .and=>some (.int k (k.wrap (vK k x y)))
 | .or=>some (.int k (k.wrap (yX k x y)))
 | .eql=>some (.bool (x==y))
 | .neq=>some (.bool (x != y))
 | .lss=>some (.bool (decide (x<y)))
 | .leq=>some (.bool (decide (x≤y)))
 | .gtr=>some (.bool (decide (x>y)))
 | .geq=>some (.bool (decide (x≥y)))
 | _=>none
def qx (op:BinOp) (x y:ByteArray):Option Value:=match op with
 | .add=>if x.size+y.size≤maxLen then some (.string (x++y)) else none
 | .eql=>some (.bool (x.toList==y.toList))
 | .neq=>some (.bool (!(x.toList==y.toList)))
 | .lss=>some (.bool (Op.bytesLess x.toList y.toList))
 | .leq=>some (.bool (Op.bytesLess x.toList y.toList||x.toList==y.toList))
 | .gtr=>some (.bool (!(Op.bytesLess x.toList y.toList||x.toList==y.toList)))
 | .geq=>some (.bool (!(Op.bytesLess x.toList y.toList)))
 | _=>none
def mr (P:Program) (op:BinOp) (T:TypeId) (a b:Value):Option Value:=match a,b with
 | .int k x,.int k' y=>match op with
  | .shl=>if y<0 then none else some (.int k (k.wrap (x*2 ^ min y.toNat k.bits)))
  | .shr=>if y<0 then none else some (.int k (k.wrap (x.fdiv (2 ^ min y.toNat k.bits))))
  | op=>if k=k' then qw op k x y else none
 | .string x,.string y=>qx op x y
 | .bool x,.bool y=>match P.underlying T with
  | some .bool=>(match op with
   | .eql=>some (.bool (x==y))
   | .neq=>some (.bool (!(x==y)))
   | _=>none)
  | _=>none
 | _,_=>none
theorem LC {k:IntKind} {n:Int} (h:(Lit.int k n).wf=true):k.wrap n=n:=by
 simp only[Lit.wf,aI,dm] at h
 obtain⟨h1,h2⟩:=h
 unfold IntKind.wrap
 cases k<;>simp[IntKind.min,IntKind.max,IntKind.bits,IntKind.signed] at * <;> omega
theorem m_ {k:IntKind} {x y:Int} (h:(Lit.int k x).wf=true):(Lit.int k (x.tmod y)).wf=true:=by
 have h2:(x.tmod y).natAbs≤x.natAbs:=by
  rw[Int.natAbs_tmod]; exact Nat.mod_le _ _
 have h3:0≤x→0≤x.tmod y:=fun h=>Int.tmod_nonneg y h
 have h6:x≤0→x.tmod y≤0:=fun h=>by
  have:=Int.tmod_nonneg (a:=-x) y (by omega)
  rw[Int.neg_tmod] at this; omega
 have h4:x.tmod y≤x∨x.tmod y≤ -x:=by omega
 have h5:x≤x.tmod y∨ -x≤x.tmod y:=by omega
 generalize x.tmod y=z at *
 clear h2
 simp only[Lit.wf,aI,dm] at *
 cases k<;>simp[IntKind.min,IntKind.max,IntKind.bits,IntKind.signed] at * <;> omega
theorem nC {k:IntKind} {x:Int} {n:Nat} (h:(Lit.int k x).wf=true):(Lit.int k (x.fdiv (2 ^ n))).wf=true:=by
 have hp:(1:Int)≤2 ^ n:=by
  have:(0:Int)<2 ^ n:=Int.pow_pos (by decide)
  omega
 have e:x.fdiv (2 ^ n)=x/(2 ^ n):=by
  rw[Int.fdiv_eq_ediv_of_nonneg _ (by omega)]
 have h1:0≤x→0≤x/(2 ^ n)∧x/(2 ^ n)≤x:=fun hx=>⟨Int.ediv_nonneg hx (by omega),Int.ediv_le_self _ hx⟩
 have h2:x<0→x≤x/(2 ^ n)∧x/(2 ^ n)<0:=fun hx=>by
  refine⟨?_,Int.ediv_neg_of_neg_of_pos hx (by omega)⟩
  rw[Int.le_ediv_iff_mul_le (by omega)]
  have h:=Int.mul_nonneg (show 0≤ -x by omega) (show (0:Int)≤2 ^ n-1 by omega)
  rw[Int.mul_sub,Int.neg_mul] at h
  omega
 rw[e]
 simp only[Lit.wf,aI,dm] at *
 cases k<;>simp[IntKind.min,IntKind.max,IntKind.bits,IntKind.signed] at * <;> omega
theorem nD {P:Program} {op:BinOp} {T:TypeId} {a b r:Value} (ha:Kz a=true) (h:mr P op T a b=some r) (x y:Operand) (w:World) :
  (do eqGuard op T x y a b; binOp op T a b:Sem Value).run P w = .ok r w∧Kz r=true:=by
 unfold mr at h
 split at h
 ·rename_i k x' k' y'
  have hg:(eqGuard op T x y (.int k x') (.int k' y')).run P w = .ok () w:=by
   unfold eqGuard; cases op<;>simp
  simp only[Sem.run_bind,hg,Result.andThen_ok]
  simp only[Kz] at ha
  split at h
  ·split at h
   ·cases h
   ·simp only[ag] at h; subst h
    rename_i hy
    refine⟨?_,by simp only[Kz]; exact Go.wf_wrap _ _⟩
    simp[binOp,Op.shift,hy]
  ·split at h
   ·cases h
   ·simp only[ag] at h; subst h
    rename_i hy
    refine⟨?_,by simp only[Kz]; exact Go.wf_wrap _ _⟩
    have:=LC (nC (n:=min y'.toNat k.bits) ha)
    simp[binOp,Op.shift,hy,this]
  ·split at h
   ·rename_i hn1 hn2 hk
    subst hk
    unfold qw at h
    cases op<;>simp only[ag] at h<;>first
     | (cases h; done)
     | (subst h; refine⟨by simp[binOp,Op.intArith,Op.intCmp,Op.intBits,vK,yX], ?_⟩; first | rfl | exact Go.wf_wrap _ _)
     | (
       split at h
       ·cases h
       ·simp only[ag] at h; subst h
        rename_i hy
        refine⟨?_,by simp only[Kz]; exact Go.wf_wrap _ _⟩
        have:=LC (m_ (y:=y') ha)
        simp[binOp,Op.intDiv,hy,this])
     | skip
   ·cases h
 ·rename_i x' y'
  have hg:(eqGuard op T x y (.string x') (.string y')).run P w = .ok () w:=by
   unfold eqGuard; cases op<;>simp
  simp only[Sem.run_bind,hg,Result.andThen_ok]
  unfold qx at h
  cases op<;>simp only[ag] at h<;>first
   | (cases h; done)
   | (subst h; refine⟨by simp[binOp,Op.stringOp],rfl⟩)
   | (
     split at h
     ·rename_i hs
      simp only[ag] at h; subst h
      have hs':¬ (IntKind.i64.max<((x'.size+y'.size:Nat):Int)):=by simp only[maxLen] at hs; simp[IntKind.max,IntKind.signed,IntKind.bits]; omega
      refine⟨?_, ?_⟩
      ·simp only[binOp,Op.stringOp,gt_iff_lt,Eh hs',Sem.run_pure]
      ·simp only[Kz,dm]; simpa using hs
     ·cases h)
 ·rename_i x' y'
  have hg:(eqGuard op T x y (.bool x') (.bool y')).run P w = .ok () w:=by
   unfold eqGuard; cases op<;>simp
  simp only[Sem.run_bind,hg,Result.andThen_ok]
  split at h
  ·rename_i hu
   cases op<;>simp only[ag] at h<;>first
    | (cases h; done)
    | (
      subst h
      refine⟨?_,rfl⟩
      have he:(Op.equal T (.bool x') (.bool y')).run P w = .ok (x'==y') w:=by
       unfold Op.equal Op.maxDepth
       rw[Op.equalIn]
       simp[run_underlying hu]
      first
       | (show ((do pure (.bool (← Op.equal T (.bool x') (.bool y')))):Sem Value).run P w=_; simp only[Sem.run_bind,he,Result.andThen_ok,Sem.run_pure])
       | (show ((do pure (.bool (!(← Op.equal T (.bool x') (.bool y'))))):Sem Value).run P w=_; simp only[Sem.run_bind,he,Result.andThen_ok,Sem.run_pure]))
  ·cases h
 ·cases h
def xN (op:UnOp) (a:Value):Option Value:=match op,a with
 | .neg,.int k n=>some (.int k (k.wrap (0-n)))
 | .not,.bool b=>some (.bool !b)
 | _,_=>none
theorem qy {P:Program} {op:UnOp} {a r:Value} (h:xN op a=some r) (w:World):(Op.unary op a).run P w = .ok r w∧Kz r=true:=by
 unfold xN at h
 split at h<;>(try simp only[ag] at h)<;>first
  | (subst h; exact⟨by simp[Op.unary,Op.intArith],by simp only[Kz]; exact Go.wf_wrap _ _⟩)
  | (subst h; exact⟨by simp[Op.unary],rfl⟩)
  | cases h
inductive Kd where
 | bool
 | int (k:IntKind)
 | str
def jY (P:Program) (t:TypeId):Option Kd:=match P.underlying t with
 | some .bool=>some .bool
 | some (.int k)=>some (.int k)
 | some .string=>some .str
 | _=>none
def flatK (P:Program):List Field→Nat→Option (List Kd)
 | [],_=>some []
 | f::fs,i=>match jY P f.type,flatK P fs (i+1) with
  | some k, some ks => if f.offset = i ∧ f.name ≠ "_" then some (k :: ks) else none
  | _,_=>none
def QP (P:Program) (T:TypeId):Option (List Kd):=match P.underlying T with
 | some (.struct fs)=>if P.eqGuardType P.depth T=false∧P.stoodInHeld T=false then flatK P fs.toList 0 else none
 | _=>none
def FC:Kd→Cl→Cl→Option Bool
 | .bool,.v (.bool a),.v (.bool b)=>some (a==b)
 | .int k,.v (.int k1 a),.v (.int k2 b)=>if k1=k∧k2=k then some (a==b) else none
 | .str,.v (.string a),.v (.string b)=>some (a.toList==b.toList)
 | _,_,_=>none
def DJ:List Kd→List Cl→List Cl→Option Bool
 | [],[],[]=>some true
 | k::ks,c::cs,d::ds=>match FC k c d,DJ ks cs ds with
  | some b,some r=>some (b&&r)
  | _,_=>none
 | _,_,_=>none
theorem Yo {P:Program} {t:TypeId} {k:Kd} (h:jY P t=some k):P.plainKey t=true:=by
 unfold jY at h
 unfold Program.plainKey
 split at h<;>simp_all
theorem rC {P:Program} {w:World} {t:TypeId} {k:Kd} {c d:Cl} {b:Bool} (hk:jY P t=some k) (h:FC k c d=some b) (n:Nat):∃ x y,c = .v x∧d = .v y∧(Op.equalIn (n+1) t x y).run P w = .ok b w:=by
 unfold FC at h
 unfold jY at hk
 split at h
 ·rename_i a a'
  simp only[ag] at h
  subst h
  split at hk<;>simp_all
  rename_i hu
  exact run_equalIn_bool w n t a a' hu
 ·rename_i q k1 a k2 a'
  split at h
  ·rename_i hkk
   obtain⟨rfl,rfl⟩:=hkk
   simp only[ag] at h
   subst h
   split at hk<;>simp_all
   rename_i hu
   simp[Op.equalIn,run_underlying hu]
  ·cases h
 ·rename_i a a'
  simp only[ag] at h
  subst h
  split at hk<;>simp_all
  rename_i hu
  rw[← beq_toListBytes]
  simp[Op.equalIn,run_underlying hu]
 ·cases h
theorem Pm {P:Program} {w:World} (n:Nat) {us vs:List Value}:∀ (fs:List Field) (i:Nat) (ks:List Kd) (cs ds:List Cl) (r:Bool),flatK P fs i=some ks→DJ ks cs ds=some r →
  (∀ (k:Nat) (x:Value),cs[k]?=some (.v x)→us[i+k]?=some x)→(∀ (k:Nat) (x:Value),ds[k]?=some (.v x)→vs[i+k]?=some x)→(Op.eqFields (n+1) us.toArray vs.toArray fs).run P w = .ok r w
 | [],i,ks,cs,ds,r,hf,hb,hu,hv=>by
  simp only[flatK,ag] at hf
  subst hf
  unfold DJ at hb
  split at hb
  ·simp only[ag] at hb
   subst hb
   simp[Op.eqFields]
  ·rename_i he; cases he
  ·cases hb
 | f::fs,i,ks,cs,ds,r,hf,hb,hu,hv=>by
  simp only[flatK] at hf
  split at hf
  ·rename_i k ks' hk hks
   split at hf
   ·rename_i hc
    obtain⟨hoff,hname⟩:=hc
    simp only[ag] at hf
    subst hf
    cases cs with
    | nil=>simp[DJ] at hb
    | cons c cs =>
     cases ds with
     | nil=>simp[DJ] at hb
     | cons d ds =>
      simp only[DJ] at hb
      split at hb
      ·rename_i b r' hb1 hb2
       simp only[ag] at hb
       subst hb
       obtain⟨x,y,rfl,rfl,heq⟩:=rC (w:=w) hk hb1 n
       have hp:=Yo hk
       have p1:(part f.type us.toArray f.offset).run P w = .ok x w:=run_part_plain w hp (by rw[hoff]; simpa using hu 0 x rfl)
       have p2:(part f.type vs.toArray f.offset).run P w = .ok y w:=run_part_plain w hp (by rw[hoff]; simpa using hv 0 y rfl)
       have ih:=Pm (w:=w) n fs (i+1) ks' cs ds r' hks hb2 (fun k z hz=>by
        have:=hu (k+1) z (by simpa using hz)
        rwa [show i+(k+1)=i+1+k by omega] at this) (fun k z hz=>by
        have:=hv (k+1) z (by simpa using hz)
        rwa [show i+(k+1)=i+1+k by omega] at this)
       simp only[Op.eqFields,hname,ne_eq,not_false_eq_true,bC,Sem.run_bind,p1,p2,heq,Result.andThen_ok,Sem.run_ite]
       cases b with
       | true=>simpa using ih
       | false=>simp
      ·cases hb
   ·cases hf
  ·cases hf
theorem jZ {P:Program} {w:World} {T:TypeId} {ks:List Kd} {cs ds:List Cl} {r:Bool} {us vs:List Value} (hs:QP P T=some ks) (hb:DJ ks cs ds=some r) (hu:∀ (k:Nat) (x:Value),cs[k]?=some (.v x)→us[k]?=some x) (hv:∀ (k:Nat) (x:Value),ds[k]?=some (.v x)→vs[k]?=some x) (x y:Operand) :
  (do eqGuard .eql T x y (.agg us.toArray) (.agg vs.toArray); binOp .eql T (.agg us.toArray) (.agg vs.toArray):Sem Value).run P w = .ok (.bool r) w ∧
   (do eqGuard .neq T x y (.agg us.toArray) (.agg vs.toArray); binOp .neq T (.agg us.toArray) (.agg vs.toArray):Sem Value).run P w = .ok (.bool (!r)) w:=by
 unfold QP at hs
 split at hs
 ·rename_i fs hut
  split at hs
  ·rename_i hc
   obtain⟨hg,hst⟩:=hc
   have hfo:P.fieldsOf T=fs:=by simp[Program.fieldsOf,hut]
   have heq:(Op.equal T (.agg us.toArray) (.agg vs.toArray)).run P w = .ok r w:=by
    unfold Op.equal Op.maxDepth
    rw[run_equalIn_struct w 9999 T us.toArray vs.toArray (by rw[hfo]; exact hut) hst,hfo]
    exact Pm 9998 fs.toList 0 ks cs ds r hs hb (fun k x hx=>by simpa using hu k x hx) (fun k x hx=>by simpa using hv k x hx)
   constructor
   ·simp[eqGuard,run_program,hg,binOp,heq]
   ·simp[eqGuard,run_program,hg,binOp,heq]
  ·cases hs
 ·cases hs
def Il (row:List Cl) (off n:Nat) (g:Bool):Option AV:=
 if g then(if off+n≤row.length then some (.agg ((row.drop off).take n)) else none)
 else match row[off]? with
  | some c=>some (.c c)
  | none=>none
def Fh:AV→Bool
 | .c x=>!Dj x
 | .agg xs=>xs.all fun c=>!Dj c
 | _=>true
def VB (x:AV):Option Nat:=match x with
 | .c (.v (.int _ n))=>if 0≤n then some n.toNat else none
 | _=>none
def o6 (t:Bool) (x y:AV):AV:=match t with
 | true=>x
 | false=>y
def O7:List (List Cl)→Option (List Int)
 | []=>some []
 | [.v (.int .u8 n)]::r=>match O7 r with
  | some ns=>some (n::ns)
  | none=>none
 | _::_=>none
def En (P:Program) (s:MS) (op:Op):Option AV:=match op with
 | .move x=>some (Cf s x)
 | .assign x=>some (Cf s x)
 | .pick c x y=>match Cf s c with
  | .c (.v (.bool t))=>some (o6 t (Cf s x) (Cf s y))
  | _=>none
 | .load T a=>match AQ P T,Az P T with
  | some n,some g=>match Cf s a with
   | .lp l i off=>match BV s.st l with
    | some ob=>match ob.xs[i]? with
     | some row=>match Il row off n g with
      | some y=>if Fh y=true then some y else none
      | none=>none
     | none=>none
    | none=>none
   | .ip row=>Il row 0 n g
   | _=>none
  | _,_=>none
 | .nilCheck x=>match Cf s x with
  | .lp l i off=>match BV s.st l with
   | some _=>some (.lp l i off)
   | none=>none
  | .ip row=>some (.ip row)
  | .c (.v (.func (.func f) a b))=>some (.c (.v (.func (.func f) a b)))
  | _=>none
 | .binOp op T x y _=>match Cf s x,Cf s y with
  | .c (.v a),.c (.v b)=>match mr P op T a b with
   | some r=>some (.c (.v r))
   | none=>none
  | .agg cs,.agg ds=>match QP P T with
   | some ks=>match DJ ks cs ds with
    | some r=>match op with
     | .eql=>some (.c (.v (.bool r)))
     | .neq=>some (.c (.v (.bool (!r))))
     | _=>none
    | none=>none
   | none=>none
  | _,_=>none
 | .unOp op _ x=>match Cf s x with
  | .c (.v a)=>match xN op a with
   | some r=>some (.c (.v r))
   | none=>none
  | _=>none
 | .convert src dst x=>match P.underlying src,P.underlying dst,Cf s x with
  | some _,some (.int k),.c (.v (.int _ n))=>some (.c (.v (.int k (k.wrap n))))
  | some _,some .string,.c (.v (.string b))=>some (.c (.v (.string b)))
  | some (.slice e),some .string,.c d=>match P.underlying e,Le s.st d with
   | some (.int .u8),some xs=>match O7 xs with
    | some ns=>some (.c (.v (.string (strOfNums ns))))
    | none=>none
   | _,_=>none
  | _,_,_=>none
 | .fieldAddr T x f=>match AB P T f with
  | some (fo,ft)=>match AQ P ft with
   | some (_+1)=>match Cf s x with
    | .lp l i off=>match BV s.st l with
     | some _=>some (.lp l i (off+fo))
     | none=>none
    | .ip row=>some (.ip (row.drop fo))
    | _=>none
   | _=>none
  | none=>none
 | .field T x f=>match AB P T f with
  | some (fo,ft)=>match AQ P ft,Az P ft,Cf s x with
   | some n,some g,.agg row=>Il row fo n g
   | _,_,_=>none
  | none=>none
 | .indexAddr T x ix=>match CE P T with
  | some e=>match AQ P e,VB (Cf s ix) with
   | some n,some k=>match Cf s x with
    | .c (.sl xs)=>match xs[k]? with
     | some row=>if row.length=n then some (.ip row) else none
     | none=>none
    | .c (.ref l)=>match BV s.st l with
     | some ob=>if k<ob.xs.length∧ob.sz=n then some (.lp l k 0) else none
     | none=>none
    | _=>none
   | _,_=>none
  | none=>none
 | .index T x ix=>match P.underlying T with
  | some .string=>match Cf s x,VB (Cf s ix) with
   | .c (.v (.string b)),some k=>match b[k]? with
    | some c=>some (.c (.v (.int .u8 c.toNat)))
    | none=>none
   | _,_=>none
  | _=>none
 | .extract x ix=>match Cf s x with
  | .tup xs=>xs[ix]?
  | _=>none
 | .call c=>match c.callee with
  | .builtin .len=>match c.argTypes.toList,c.args.toList with
   | [t],[x]=>match P.underlying t,Cf s x with
    | some .string,.c (.v (.string b))=>some (.c (.v (.int .i64 b.size)))
    | some (.slice _),.c d=>match Le s.st d with
     | some xs=>some (.c (.v (.int .i64 xs.length)))
     | none=>none
    | _,_=>none
   | _,_=>none
  | .builtin .min=>match c.args.toList with
   | [x,y]=>match Cf s x,Cf s y with
    | .c (.v (.int .i64 a)),.c (.v (.int .i64 b))=>some (.c (.v (.int .i64 (if b<a then b else a))))
    | _,_=>none
   | _=>none
  | .builtin .max=>match c.args.toList with
   | [x,y]=>match Cf s x,Cf s y with
    | .c (.v (.int .i64 a)),.c (.v (.int .i64 b))=>some (.c (.v (.int .i64 (if a<b then b else a))))
    | _,_=>none
   | _=>none
  | _=>none
 | _=>none
end Go.Vm
