/- A part. -/
import Derived.Test.YtgkmefoghbjfnaaGreatVmU
set_option linter.unusedSimpArgs false
set_option linter.unusedVariables false
namespace Go.Vm
open Go.RowKit
variable {P:Program} {w0:Bs} {St0 St:Nat→Nat→Prop} {β:Nat→Option Nat} {s:MS} {a:Act} {w:World}
def kW (P:Program) (vars:List ResultVar) (b:Nat) (ty:TypeId) (cl':List Cl) (rs:List AV) (s:MS):Prop:=
 ∃ (l:Nat) (ob:Ob),BK s.env 0 = .pin (.lp l 0 0) (.pointer (some ⟨b,0,none⟩))∧BV s.st l=some ob∧ob.ty=ty∧ob.wr=true∧ob.xs = [cl']∧KO P s vars=some rs∧rs.all fJ=true
def vW (P:Program) (vars:List ResultVar) (b:Nat) (ty:TypeId) (cl':List Cl) (rs:List AV) (e:Ex) (s:MS):Prop:=match e with
 | .exit _=>False
 | _=>∃ t,Head s t∧kW P vars b ty cl' rs t
theorem kX {w0:World} {fn:Func} {b:Nat} {ty:TypeId} {cl':List Cl} {rs:List AV} {G:Nat→Nat→Prop} (hcl':cl'.all Xj=true) (hs:Sim ⟨w0,fun x=>x=b∨∃ k,G k x⟩ St0 s a w) (hp:kW P fn.results.toList b ty cl' rs s) :
  ∃ (rv:List Value) (cs':Array Value) (St' G':Nat→Nat→Prop),(results fn a.tmps).run P w = .ok (KE rv) w∧a.defers = []∧Below 0 w0 w∧(∀ k,k<w0.heap.size→k≠b→(∀ j,¬ G j k)→w.heap[k]?=w0.heap[k]?)∧(∀ b o,St0 b o→St' b o)∧(∀ b o,St' b o→b<w0.heap.size→St0 b o∨∃ j,G j b) ∧
   (∀ b o,St' b o→b<w.heap.size)∧w.heap[b]?=some (.cells cs' ty (0,0))∧(∀ k,k<w0.heap.size→OW w k=OW w0 k)∧(∀ (k:Nat) (c:Cl),cl'[k]?=some c→∃ y,cs'[k]?=some y∧RdO w St' c y (G' k)) ∧
   (∀ k k' x,G' k x→G' k' x→k=k')∧(∀ k x,G' k x→x≠b∧(∀ o,¬ St' x o)∧((∃ j,G j x)∨(w0.heap.size≤x∧x<w.heap.size)))∧RdAs w St' rs rv:=by
 obtain⟨St,β,h⟩:=hs
 obtain⟨l,ob,e0,hob,hty,hwr,hxs,hret,hrs⟩:=hp
 have he:=h.env 0
 rw[e0] at he
 obtain⟨hl,hlive⟩:=Ag hob
 simp only[AVR,hl] at he
 obtain⟨he1,he2⟩:=he
 try rw[he1] at he2
 obtain⟨b',hβ,hu⟩:=he2 hlive
 have hb':b'=b:=by
  simp only[Value.pointer.injEq,ag,Addr.mk.injEq] at hu
  have:=hu
  omega
 subst hb'
 obtain⟨φ,hφ⟩:=h.own
 obtain⟨cs,g1,_,g3⟩:=Tt h hφ hob hβ hxs hcl'
 obtain⟨rv,h1,h2⟩:=JA h fn.results.toList rs hret
 refine⟨rv,cs,St,φ l, ?_,h.defers,h.below.rest,fun k hk h3 h4=>h.below.blk k hk (fun e=>by
  rcases e with e | ⟨j,hj⟩
  ·exact h3 e
  ·exact h4 j hj),h.st0,fun b2 o hbo hlt=>?_,h.stIn,by rw[← hty]; exact g1,h.below.siz,g3,fun k k' x hx hx'=>(hφ.2.2 l l k k' x hx hx').2,fun k x hx=>?_,VM hrs h1⟩
 ·rw[Jb,Sem.run_bind,vC,Sem.run_map,h2]
  simp only[Result.andThen_ok,Sem.run_pure]
  congr 1
  match rv with
  | []=>rfl
  | [u]=>rfl
  | u::u2::us=>simp[KE]
 ·rcases Classical.em (∃ j,G j b2) with hj | hj
  ·exact .inr hj
  ·refine .inl (h.stOld b2 o hbo hlt fun e=>?_)
   rcases e with e | e
   ·have e:b2=b':=e
    subst e
    have:=(h.sep l ob b2 o hl hlive hβ hbo).1
    rw[hwr] at this; cases this
   ·exact hj e
 ·obtain⟨q1,q2,q3⟩:=Xk hφ hob hβ hx
  refine⟨q2,q3, ?_⟩
  rcases(hφ.2.1 l k x hx).2.1 with h' | h' | h'
  ·exact .inr ⟨h',q1⟩
  ·exact absurd h' q2
  ·exact .inl h'
theorem QCtr.mk {f:FuncId} {fn:Func} {c:Code} {ty:TypeId} {cl cl':List Cl} {args rs:List AV} (hin:CallsIn P f) (hf:P.funcs[f]?=some fn) (hb:fn.body=some c) (hm:P.follows .mixedOrders=true) {n:Nat} (hn:fn.ntmps=n) {vars:Array ResultVar} (hvars:fn.results=vars) (hc:codeOk n c=true) (hlen0:Nat.ble (args.length+1) n=true)
  (hlen':cl'.length=cl.length) (hcl':cl'.all Xj=true)
  (h:∀ b:Nat,Tm cl→XZ args→vp P c ⟨n,(0,.pin (.lp 0 0 0) (.pointer (some ⟨b,0,none⟩)))::E_ args 1,[⟨ty,cl.length,[cl],true,true⟩]⟩ (vW P vars.toList b ty cl' rs)):QCtr P f ty cl args cl' rs:=by
 subst hn
 subst hvars
 have hlen:args.length+1≤fn.ntmps:=vH hlen0
 refine⟨hin,hlen',hcl',fun w St b cs G vs hSt hcs hno hG hdis hcl hvs=>?_⟩
 obtain⟨hvl,hva⟩:=LJ hvs
 have hbl:b<w.heap.size:=by
  rcases aX b w.heap.size with h' | h'
  ·exact h'
  ·rw[Array.getElem?_eq_none h'] at hcs; cases hcs
 have hwf:Tm cl:=MX cl fun k c hk=>by
  obtain⟨y,_,hr⟩:=hcl k c hk
  exact RdO.wf c y _ hr
 have hst0:∀ (l:Nat) (ob:Ob),[(⟨ty,cl.length,[cl],true,true⟩:Ob)][l]?=some ob→l=0∧ob=⟨ty,cl.length,[cl],true,true⟩:=fun l ob hl=>by
  cases l with
  | zero=>simp only[ai,ag] at hl; exact⟨rfl,hl.symm⟩
  | succ l=>simp at hl
 have hcore:Core ⟨w,fun x=>x=b∨∃ k,G k x⟩ St St (fun l=>if l=0 then some b else none) ⟨fn.ntmps,(0,.pin (.lp 0 0 0) (.pointer (some ⟨b,0,none⟩)))::E_ args 1,[⟨ty,cl.length,[cl],true,true⟩]⟩
   { tmps:=(Value.pointer (some ⟨b,0,none⟩)::vs).toArray++Array.replicate (fn.ntmps-(Value.pointer (some ⟨b,0,none⟩)::vs).toArray.size) Go.undef,defers:=[] } w:={
  defers:=rfl
  size:=by simp; omega
  env:=fun i=>by
   cases i with
   | zero =>
    have:((Value.pointer (some ⟨b,0,none⟩)::vs).toArray++Array.replicate (fn.ntmps-(Value.pointer (some ⟨b,0,none⟩)::vs).toArray.size) Go.undef).getD 0 Go.undef=Value.pointer (some ⟨b,0,none⟩):=by
     simp only[mP]
     rw[bI (by simp)]
     simp
    rw[this]
    simp only[BK,bC,AVR,ai]
    exact⟨by first | trivial | rfl,fun _=>⟨b,by simp,by simp⟩⟩
   | succ i =>
    have e0:BK ((0,AV.pin (.lp 0 0 0) (.pointer (some ⟨b,0,none⟩)))::E_ args 1) (i+1)=args.getD i .un:=by
     simp only[BK,F8]
     have h1:¬ 0=i+1:=by omega
     have h2:1≤i+1:=by omega
     simp only[h1,h2,aK,bC,Nat.add_sub_cancel]
    rw[e0]
    rcases aX i args.length with hi | hi
    ·obtain⟨u,hu,hr⟩:=hva i args[i] (by simp[hi])
     have e1:args.getD i .un=args[i]:=by simp[hi]
     have e2:((Value.pointer (some ⟨b,0,none⟩)::vs).toArray++Array.replicate (fn.ntmps-(Value.pointer (some ⟨b,0,none⟩)::vs).toArray.size) Go.undef).getD (i+1) Go.undef=u:=by
      have hiv:i<vs.length:=by omega
      simp only[mP]
      rw[bI (by simpa using hiv)]
      simp[hu]
     rw[e1,e2]
     exact hr.toAVR
    ·have e1:args.getD i .un = .un:=by simp[hi]
     rw[e1]
     simp only[AVR]
  below:=BelowB.refl _ _
  st0:=fun _ _ h=>h
  stOld:=fun _ _ h _ _=>h
  stIn:=hSt
  obs:=fun l ob b2 hl hlive hβ=>by
   obtain⟨rfl,rfl⟩:=hst0 l ob hl
   simp only[bC,ag] at hβ
   subst hβ
   refine⟨.inr (.inl rfl),hbl,cs,hcs,by simp,fun k c hk=>?_⟩
   simp only[bM,fB,bU] at hk
   obtain⟨y,hy,hr⟩:=hcl k c hk
   exact⟨y,hy,hr.toB⟩
  nil:=fun l ob hl hlive hβ=>by
   obtain⟨rfl,rfl⟩:=hst0 l ob hl
   simp at hβ
  inj:=fun l l' ob ob' b2 hl hl' _ _ _ _=>by
   obtain⟨rfl,_⟩:=hst0 l ob hl
   obtain⟨rfl,_⟩:=hst0 l' ob' hl'
   rfl
  sep:=fun l ob b2 o hl hlive hβ hbo=>by
   obtain⟨rfl,rfl⟩:=hst0 l ob hl
   simp only[bC,ag] at hβ
   subst hβ
   exact absurd hbo (hno o)
  own:=by
   refine⟨fun l k x=>l=0∧G k x,fun l ob b2 k c hl hlive hβ hk hcw=>?_,fun l k x hx=>?_,fun l l' k k' x hx hx'=>⟨hx.1.trans hx'.1.symm,hdis k k' x hx.2 hx'.2⟩⟩
   ·obtain⟨rfl,rfl⟩:=hst0 l ob hl
    simp only[bC,ag] at hβ
    subst hβ
    simp only[bM,fB,bU] at hk
    obtain⟨y,hy,hr⟩:=hcl k c hk
    exact⟨y,by simp[World.cell?,hcs,hy],RdO.mono (fun _ _ h=>h) (fun _ _ _=>rfl) c y _ _ (fun x hx=>⟨rfl,hx⟩) (fun _ _=>rfl) hr⟩
   ·obtain⟨rfl,hx⟩:=hx
    obtain⟨q1,q2,q3⟩:=hG k x hx
    refine⟨⟨_,b,rfl,rfl,by simp⟩,.inr (.inr ⟨k,hx⟩),fun h=>h,q1,q3,fun l ob hl hlive hβ=>?_⟩
    obtain⟨rfl,rfl⟩:=hst0 l ob hl
    simp only[bC,ag] at hβ
    exact q2 hβ.symm }
 refine calls_of_wp hf hb (wp_mono (Xr (w0:=⟨w,fun x=>x=b∨∃ k,G k x⟩) (St0:=St) hm fn.ntmps c hc _ _ _ w rfl (h b hwf hvs.wf) ⟨St,_,hcore⟩) ?_)
 rintro e a' w' ⟨ex,s',rfl,hq,_,hs'⟩
 have key:∀ ex,vW P fn.results.toList b ty cl' rs ex s'→∃ t,Head s' t∧kW P fn.results.toList b ty cl' rs t:=fun ex hq=>by
  cases ex with
  | exit i=>exact hq.elim
  | normal=>exact hq
  | ret=>exact hq
 obtain⟨t,ht,hq'⟩:=key ex hq
 obtain⟨St1,β1,hc1⟩:=hs'
 obtain⟨St2,β2,hc2⟩:=ht.2 _ _ _ _ _ _ hc1
 obtain⟨rv,cs',St',G',p1,p2,p3⟩:=kX hcl' ⟨St2,β2,hc2⟩ hq'
 cases ex with
 | exit i=>exact hq.elim
 | normal=>exact⟨p2,_,p1,rv,cs',St',G',rfl,p3⟩
 | ret=>exact⟨p2,_,p1,rv,cs',St',G',rfl,p3⟩
end Go.Vm
