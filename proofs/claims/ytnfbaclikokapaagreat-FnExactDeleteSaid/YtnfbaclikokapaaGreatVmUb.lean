/- A part. -/
import Derived.Test.YtnfbaclikokapaaGreatVmU
set_option linter.unusedSimpArgs false
set_option linter.unusedVariables false
namespace Go.Vm
open Go.RowKit
variable {P:Program} {w0:Bs} {St0 St:Nat→Nat→Prop} {β:Nat→Option Nat} {s:MS} {a:Act} {w:World}
def ABU (P:Program) (vars:List ResultVar) (b:Nat) (ty:TypeId) (cl':List Cl) (rs:List AV) (s:MS):Prop:=
 ∃ (l:Nat) (ob:Ob),BZ s.env 0 = .pin (.lp l 0 0) (.pointer (some ⟨b,0,none⟩))∧CO s.st l=some ob∧ob.ty=ty∧ob.wr=true∧ob.xs = [cl']∧KI P s vars=some rs∧rs.all yh=true
def AGS (P:Program) (vars:List ResultVar) (b:Nat) (ty:TypeId) (cl':List Cl) (rs:List AV) (e:Ex) (s:MS):Prop:=match e with
 | .exit _=>False
 | _=>∃ t,Head s t∧ABU P vars b ty cl' rs t
theorem ABV {w0:World} {fn:Func} {b:Nat} {ty:TypeId} {cl':List Cl} {rs:List AV} {G:Nat→Nat→Prop} (hcl':cl'.all oK=true) (hs:Sim ⟨w0,fun x=>x=b∨∃ k,G k x,fun _=>Go.undef⟩ St0 s a w) (hp:ABU P fn.results.toList b ty cl' rs s) :
  ∃ (rv:List Value) (cs':Array Value) (St' G':Nat→Nat→Prop),(results fn a.tmps).run P w = .ok (Nc rv) w∧a.defers = []∧Below 0 w0 w∧(∀ k,k<w0.heap.size→k≠b→(∀ j,¬ G j k)→w.heap[k]?=w0.heap[k]?)∧(∀ b o,St0 b o→St' b o)∧(∀ b o,St' b o→b<w0.heap.size→St0 b o∨∃ j,G j b) ∧
   (∀ b o,St' b o→b<w.heap.size)∧w.heap[b]?=some (.cells cs' ty (0,0))∧(∀ k,k<w0.heap.size→Ui w k=Ui w0 k)∧(∀ (k:Nat) (c:Cl),cl'[k]?=some c→∃ y,cs'[k]?=some y∧RdO w St' c y (G' k)) ∧
   (∀ k k' x,G' k x→G' k' x→k=k')∧(∀ k x,G' k x→x≠b∧(∀ o,¬ St' x o)∧((∃ j,G j x)∨(w0.heap.size≤x∧x<w.heap.size)))∧RdAs w St' rs rv:=by
 obtain⟨St,β,h⟩:=hs
 obtain⟨l,ob,e0,hob,hty,hwr,hxs,hret,hrs⟩:=hp
 have he:=h.env 0
 rw[PU (by decide)] at he
 rw[e0] at he
 obtain⟨hl,hlive⟩:=Aw hob
 simp only[AVR,hl] at he
 obtain⟨he1,he2⟩:=he
 try rw[he1] at he2
 obtain⟨b',hβ,hu⟩:=he2 hlive
 have hb':b'=b:=by
  simp only[Value.pointer.injEq,ah,Addr.mk.injEq] at hu
  have:=hu
  omega
 subst hb'
 obtain⟨φ,hφ⟩:=h.own
 obtain⟨cs,g1,_,g3⟩:=dW h hφ hob hβ hxs hcl'
 obtain⟨rv,h1,h2⟩:=Lc h fn.results.toList rs hret
 refine⟨rv,cs,St,φ l, ?_,h.defers,h.below.rest,fun k hk h3 h4=>h.below.blk k hk (fun e=>by
  rcases e with e | ⟨j,hj⟩
  ·exact h3 e
  ·exact h4 j hj),h.st0,fun b2 o hbo hlt=>?_,h.stIn,by rw[← hty]; exact g1,h.below.siz,g3,fun k k' x hx hx'=>(hφ.2.2 l l k k' x hx hx').2,fun k x hx=>?_,jH hrs h1⟩
 ·rw[La,Sem.run_bind,aaZ,Sem.run_map,h2]
  simp only[Result.andThen_ok,Sem.run_pure]
  congr 1
  match rv with
  | []=>rfl
  | [u]=>rfl
  | u::u2::us=>simp[Nc]
 ·rcases Classical.em (∃ j,G j b2) with hj | hj
  ·exact .inr hj
  ·refine .inl (h.stOld b2 o hbo hlt fun e=>?_)
   rcases e with e | e
   ·have e:b2=b':=e
    subst e
    have:=(h.sep l ob b2 o hl hlive hβ hbo).1
    rw[hwr] at this; cases this
   ·exact hj e
 ·obtain⟨q1,q2,q3⟩:=oM hφ hob hβ hx
  refine⟨q2,q3, ?_⟩
  rcases(hφ.2.1 l k x hx).2.1 with h' | h' | h'
  ·exact .inr ⟨h',q1⟩
  ·exact absurd h' q2
  ·exact .inl h'
theorem QCtr.mk {f:FuncId} {fn:Func} {c:Code} {ty:TypeId} {cl cl':List Cl} {args rs:List AV} (hin:CallsIn P f) (hf:P.funcs[f]?=some fn) (hb:fn.body=some c) (hm:P.follows .mixedOrders=true) {n:Nat} (hn:fn.ntmps=n) {vars:Array ResultVar} (hvars:fn.results=vars) (hc:codeOk n c=true) (hlen0:(Nat.ble (args.length+1) n&&Nat.ble n 1000000)=true)
  (hlen':cl'.length=cl.length) (hcl':cl'.all oK=true)
  (h:∀ b:Nat,Rq cl→ny args→vp P c ⟨n,(0,.pin (.lp 0 0 0) (.pointer (some ⟨b,0,none⟩)))::II args 1,[⟨ty,cl.length,[cl],true,true⟩]⟩ (AGS P vars.toList b ty cl' rs)):QCtr P f ty cl args cl' rs:=by
 subst hn
 subst hvars
 obtain⟨hlen0,hlim0⟩:=abg.1 hlen0
 have hlim:fn.ntmps≤1000000:=zy hlim0
 have hlen:args.length+1≤fn.ntmps:=zy hlen0
 refine⟨hin,hlen',hcl',fun w St b cs G vs hSt hcs hno hG hdis hcl hvs=>?_⟩
 obtain⟨hvl,hva⟩:=Qe hvs
 have hbl:b<w.heap.size:=by
  rcases bI b w.heap.size with h' | h'
  ·exact h'
  ·rw[Array.getElem?_eq_none h'] at hcs; cases hcs
 have hwf:Rq cl:=Rt cl fun k c hk=>by
  obtain⟨y,_,hr⟩:=hcl k c hk
  exact RdO.wf c y _ hr
 have hst0:∀ (l:Nat) (ob:Ob),[(⟨ty,cl.length,[cl],true,true⟩:Ob)][l]?=some ob→l=0∧ob=⟨ty,cl.length,[cl],true,true⟩:=fun l ob hl=>by
  cases l with
  | zero=>simp only[aB,ah] at hl; exact⟨rfl,hl.symm⟩
  | succ l=>simp at hl
 have hcore:Core ⟨w,fun x=>x=b∨∃ k,G k x,fun _=>Go.undef⟩ St St (fun l=>if l=0 then some b else none) ⟨fn.ntmps,(0,.pin (.lp 0 0 0) (.pointer (some ⟨b,0,none⟩)))::II args 1,[⟨ty,cl.length,[cl],true,true⟩]⟩
   { tmps:=(Value.pointer (some ⟨b,0,none⟩)::vs).toArray++Array.replicate (fn.ntmps-(Value.pointer (some ⟨b,0,none⟩)::vs).toArray.size) Go.undef,defers:=[] } w:={
  defers:=rfl
  size:=by simp; omega
  lim:=hlim
  env:=fun i=>by
   rw[X6 (by simp; omega) rfl]
   cases i with
   | zero =>
    have:((Value.pointer (some ⟨b,0,none⟩)::vs).toArray++Array.replicate (fn.ntmps-(Value.pointer (some ⟨b,0,none⟩)::vs).toArray.size) Go.undef).getD 0 Go.undef=Value.pointer (some ⟨b,0,none⟩):=by
     simp only[aaw]
     rw[zx (by simp)]
     simp
    rw[this]
    simp only[BZ,bD,AVR,aB]
    exact⟨by first | trivial | rfl,fun _=>⟨b,by simp,by simp⟩⟩
   | succ i =>
    have e0:BZ ((0,AV.pin (.lp 0 0 0) (.pointer (some ⟨b,0,none⟩)))::II args 1) (i+1)=args.getD i .un:=by
     simp only[BZ,JY]
     have h1:¬ 0=i+1:=by omega
     have h2:1≤i+1:=by omega
     simp only[h1,h2,aT,bD,Nat.add_sub_cancel]
    rw[e0]
    rcases bI i args.length with hi | hi
    ·obtain⟨u,hu,hr⟩:=hva i args[i] (by simp[hi])
     have e1:args.getD i .un=args[i]:=by simp[hi]
     have e2:((Value.pointer (some ⟨b,0,none⟩)::vs).toArray++Array.replicate (fn.ntmps-(Value.pointer (some ⟨b,0,none⟩)::vs).toArray.size) Go.undef).getD (i+1) Go.undef=u:=by
      have hiv:i<vs.length:=by omega
      simp only[aaw]
      rw[zx (by simpa using hiv)]
      simp[hu]
     rw[e1,e2]
     exact hr.toAVR
    ·have e1:args.getD i .un = .un:=by simp[hi]
     rw[e1]
     simp only[AVR]
  below:=BelowB.refl _ _
  st0:=fun _ _ h=>h
  stOld:=fun _ _ h _ _=>h
  stIn:=hSt
  obs:=fun l ob b2 hl hlive hβ=>by
   obtain⟨rfl,rfl⟩:=hst0 l ob hl
   simp only[bD,ah] at hβ
   subst hβ
   refine⟨.inr (.inl rfl),hbl,cs,hcs,by simp,fun k c hk=>?_⟩
   simp only[bT,Zh,bF] at hk
   obtain⟨y,hy,hr⟩:=hcl k c hk
   exact⟨y,hy,hr.toB⟩
  nil:=fun l ob hl hlive hβ=>by
   obtain⟨rfl,rfl⟩:=hst0 l ob hl
   simp at hβ
  inj:=fun l l' ob ob' b2 hl hl' _ _ _ _=>by
   obtain⟨rfl,_⟩:=hst0 l ob hl
   obtain⟨rfl,_⟩:=hst0 l' ob' hl'
   rfl
  sep:=fun l ob b2 o hl hlive hβ hbo=>by
   obtain⟨rfl,rfl⟩:=hst0 l ob hl
   simp only[bD,ah] at hβ
   subst hβ
   exact absurd hbo (hno o)
  own:=by
   refine⟨fun l k x=>l=0∧G k x,fun l ob b2 k c hl hlive hβ hk hcw=>?_,fun l k x hx=>?_,fun l l' k k' x hx hx'=>⟨hx.1.trans hx'.1.symm,hdis k k' x hx.2 hx'.2⟩⟩
   ·obtain⟨rfl,rfl⟩:=hst0 l ob hl
    simp only[bD,ah] at hβ
    subst hβ
    simp only[bT,Zh,bF] at hk
    obtain⟨y,hy,hr⟩:=hcl k c hk
    exact⟨y,by simp[World.cell?,hcs,hy],RdO.mono (fun _ _ h=>h) (fun _ _ _=>rfl) c y _ _ (fun x hx=>⟨rfl,hx⟩) (fun _ _=>rfl) hr⟩
   ·obtain⟨rfl,hx⟩:=hx
    obtain⟨q1,q2,q3⟩:=hG k x hx
    refine⟨⟨_,b,rfl,rfl,by simp⟩,.inr (.inr ⟨k,hx⟩),fun h=>h,q1,q3,fun l ob hl hlive hβ=>?_⟩
    obtain⟨rfl,rfl⟩:=hst0 l ob hl
    simp only[bD,ah] at hβ
    exact q2 hβ.symm }
 refine calls_of_wp hf hb (wp_mono (eG (w0:=⟨w,fun x=>x=b∨∃ k,G k x,fun _=>Go.undef⟩) (St0:=St) hm fn.ntmps c hc _ _ _ w rfl (h b hwf hvs.wf) ⟨St,_,hcore⟩) ?_)
 rintro e a' w' ⟨ex,s',rfl,hq,_,hs'⟩
 have key:∀ ex,AGS P fn.results.toList b ty cl' rs ex s'→∃ t,Head s' t∧ABU P fn.results.toList b ty cl' rs t:=fun ex hq=>by
  cases ex with
  | exit i=>exact hq.elim
  | normal=>exact hq
  | ret=>exact hq
 obtain⟨t,ht,hq'⟩:=key ex hq
 obtain⟨St1,β1,hc1⟩:=hs'
 obtain⟨St2,β2,hc2⟩:=ht.2 _ _ _ _ _ _ hc1
 obtain⟨rv,cs',St',G',p1,p2,p3⟩:=ABV hcl' ⟨St2,β2,hc2⟩ hq'
 cases ex with
 | exit i=>exact hq.elim
 | normal=>exact⟨p2,_,p1,rv,cs',St',G',rfl,p3⟩
 | ret=>exact⟨p2,_,p1,rv,cs',St',G',rfl,p3⟩
def jX:List AV→Nat→List (Nat×AV)→List (Nat×AV)
 | [],_,e=>e
 | x::xs,k,e=>(k,x)::jX xs (k+1) e
def shE:List (Nat×AV)→List (Nat×AV)
 | []=>[]
 | (k,x)::r=>(k+1000000,x)::shE r
def zD:List (Nat×AV)→List (Nat×AV)
 | []=>[]
 | (k,x)::r=>if k<1000000 then zD r else(k-1000000,x)::zD r
theorem wX:∀ e,zD (shE e)=e
 | []=>rfl
 | (k,x)::r=>by simp[shE,zD,wX r]
theorem oh:∀ (e:List (Nat×AV)) (i:Nat),BZ (shE e) i=if i<1000000 then .un else BZ e (i-1000000)
 | [],i=>by simp[shE,BZ]
 | (k,x)::r,i=>by
  simp only[shE,BZ,oh r i]
  by_cases h:i<1000000
  ·have:¬ k+1000000=i:=by omega
   simp only[h,this,bD,aT]
  ·by_cases e:k+1000000=i
   ·have:k=i-1000000:=by omega
    simp only[h,e,← this,bD,aT]
   ·have:¬ k=i-1000000:=by omega
    simp only[h,e,this,aT]
theorem YP:∀ (e:List (Nat×AV)) (i:Nat),BZ (zD e) i=BZ e (i+1000000)
 | [],i=>rfl
 | (k,x)::r,i=>by
  simp only[zD,BZ]
  by_cases h:k<1000000
  ·rw[bz h,aV (by omega)]
   exact YP r i
  ·rw[aV h]
   simp only[BZ]
   by_cases e:k=i+1000000
   ·rw[bz (by omega),bz e]
   ·rw[aV (by omega),aV e]
    exact YP r i
theorem eH:∀ (xs:List AV) (k:Nat) (e:List (Nat×AV)) (i:Nat),BZ (jX xs k e) i=if k≤i∧i<k+xs.length then xs.getD (i-k) .un else BZ e i
 | [],k,e,i=>by
  have:¬ (k≤i∧i<k+([]:List AV).length):=by simp
  simp only[jX,this,aT]
 | x::xs,k,e,i=>by
  simp only[jX,BZ,eH xs (k+1) e i,bU]
  by_cases h:k=i
  ·subst h; simp
  ·by_cases h2:k+1≤i∧i<k+1+xs.length
   ·have e1:k≤i∧i<k+(xs.length+1):=by omega
    simp only[h,h2,e1,aT,and_self,bD]
    rw[show i-k=(i-(k+1))+1 by omega,List.getD_cons_succ]
   ·have e1:¬ (k≤i∧i<k+(xs.length+1)):=by omega
    simp only[h,h2,e1,aT]
def NH (P:Program) (vars:List ResultVar) (m:Nat) (KK:AV→MS→Prop) (e:Ex) (t:MS):Prop:=match e with
 | .exit _=>False
 | _=>match KI P t vars with
  | some xs=>KK (retA xs) ⟨m,zD t.env,t.st⟩
  | none=>False
def AGT (dst:Option Nat) (K:MS→Prop) (x:AV) (t:MS):Prop:=K (t.put dst x)
def AGU (st:List Ob) (env:List (Nat×AV)) (r x:AV) (t:MS):Prop:=t.st=st∧t.env=env∧x=r
theorem oq:∀ {xs:List AV} {us:List Value},AVRs w St s.st β xs us→us.length=xs.length
 | [],us,h=>by simp only[AVRs] at h; subst h; rfl
 | x::xs,us,h=>by
  simp only[AVRs] at h
  obtain⟨y,ys,rfl,_,h2⟩:=h
  simp[oq h2]
theorem eP {f:FuncId} {fn:Func} {c:Code} {args:List AV} {KK:AV→MS→Prop} (hf:P.funcs[f]?=some fn) (hb:fn.body=some c) (hm:P.follows .mixedOrders=true) {n:Nat} (hn:fn.ntmps=n) {vars:Array ResultVar} (hvars:fn.results=vars) (hc:codeOk n c=true)
  (hlen0:(Nat.ble args.length n&&Nat.ble n 1000000)=true) (h:vp P c ⟨n,jX args 0 (shE s.env),s.st⟩ (NH P vars.toList s.n KK)) {us:List Value} (hcore:Core w0 St0 St β s a w) (hargs:AVRs w St s.st β args us) :
  Calls P f us.toArray w fun e w'=>∃ u,e = .returned u∧∃ (t:MS) (x:AV),t.n=s.n∧KK x t∧∃ St' β',Core w0 St0 St' β' t a w'∧AVR w' St' t.st β' x u:=by
 subst hn
 subst hvars
 obtain⟨hlen0,hlim0⟩:=abg.1 hlen0
 have hlim:fn.ntmps≤1000000:=zy hlim0
 have hlen:args.length≤fn.ntmps:=zy hlen0
 have hul:=oq hargs
 have hua:=ig hargs
 have hcore2:Core ⟨w0.w,w0.own,nm w0 a⟩ St0 St β ⟨fn.ntmps,jX args 0 (shE s.env),s.st⟩ { tmps:=us.toArray++Array.replicate (fn.ntmps-us.toArray.size) Go.undef,defers:=[] } w:={
  defers:=rfl
  size:=by simp; omega
  lim:=hlim
  env:=fun i=>by
   rw[eH,oh]
   by_cases hi:i<args.length
   ·obtain⟨u,hu,hr⟩:=hua i args[i] (by simp[hi])
    have e1:args.getD (i-0) .un=args[i]:=by simp[hi]
    have e2:(us.toArray++Array.replicate (fn.ntmps-us.toArray.size) Go.undef).getD i Go.undef=u:=by
     have hiv:i<us.length:=by omega
     simp only[aaw]
     rw[zx (by simpa using hiv)]
     simp[hu]
    rw[bz ⟨ax _,by omega⟩,PU (by omega),e1,e2]
    exact hr
   ·rw[aV (by omega)]
    by_cases h2:i<1000000
    ·rw[bz h2]; simp only[AVR]
    ·rw[aV h2]
     rw[ADh h2]
     generalize i-1000000=j
     exact hcore.env j
  below:=⟨hcore.below.rest,hcore.below.blk,hcore.below.siz⟩
  st0:=hcore.st0
  stOld:=hcore.stOld
  stIn:=hcore.stIn
  obs:=hcore.obs
  nil:=hcore.nil
  inj:=hcore.inj
  sep:=hcore.sep
  own:=hcore.own }
 refine calls_of_wp hf hb (wp_mono (eG (w0:=⟨w0.w,w0.own,nm w0 a⟩) (St0:=St0) hm fn.ntmps c hc _ _ _ w rfl h ⟨St,β,hcore2⟩) ?_)
 rintro e a' w' ⟨ex,s',rfl,hq,_,St1,β1,h1⟩
 have key:∀ xs,KI P s' fn.results.toList=some xs→KK (retA xs) ⟨s.n,zD s'.env,s'.st⟩→∃ v,(results fn a'.tmps).run P w' = .ok v w'∧∃ (t:MS) (x:AV),t.n=s.n∧KK x t∧∃ St' β',Core w0 St0 St' β' t a w'∧AVR w' St' t.st β' x v:=fun xs hxs hK=>by
  obtain⟨rv,g1,g2⟩:=Lc h1 fn.results.toList xs hxs
  refine⟨Nc rv, ?_,⟨s.n,zD s'.env,s'.st⟩,retA xs,rfl,hK,St1,β1, ?_,Ji g1⟩
  ·rw[La,Sem.run_bind,aaZ,Sem.run_map,g2]
   simp only[Result.andThen_ok,Sem.run_pure]
   congr 1
   match rv with
   | []=>rfl
   | [u]=>rfl
   | u::u2::us=>simp[Nc]
  ·exact {
    defers:=hcore.defers
    size:=hcore.size
    lim:=hcore.lim
    env:=fun i=>by
     have:=h1.env (i+1000000)
     rw[← YP] at this
     have e:nm ⟨w0.w,w0.own,nm w0 a⟩ a' (i+1000000)=nm w0 a i:=by
      rw[ADh (by omega),Nat.add_sub_cancel]
     rwa [e] at this
    below:=⟨h1.below.rest,h1.below.blk,h1.below.siz⟩
    st0:=h1.st0
    stOld:=h1.stOld
    stIn:=h1.stIn
    obs:=h1.obs
    nil:=h1.nil
    inj:=h1.inj
    sep:=h1.sep
    own:=h1.own }
 have fin:∀ ex,NH P fn.results.toList s.n KK ex s'→∃ xs,KI P s' fn.results.toList=some xs∧KK (retA xs) ⟨s.n,zD s'.env,s'.st⟩:=fun ex hq=>by
  cases ex with
  | exit i=>exact hq.elim
  | normal =>
   simp only[NH] at hq
   split at hq
   ·exact⟨_,‹_›,hq⟩
   ·exact hq.elim
  | ret =>
   simp only[NH] at hq
   split at hq
   ·exact⟨_,‹_›,hq⟩
   ·exact hq.elim
 obtain⟨xs,hxs,hK⟩:=fin ex hq
 obtain⟨v,k1,k2⟩:=key xs hxs hK
 cases ex with
 | exit i=>exact hq.elim
 | normal=>exact⟨h1.defers,_,k1,v,rfl,k2⟩
 | ret=>exact⟨h1.defers,_,k1,v,rfl,k2⟩
theorem InlK.mk {f:FuncId} {fn:Func} {c:Code} {args:List AV} {dst:Option Nat} {K:MS→Prop} {A B C D E:Prop} (hin:CallsIn P f) (hf:P.funcs[f]?=some fn) (hb:fn.body=some c) (hm:P.follows .mixedOrders=true) {n:Nat} (hn:fn.ntmps=n) {vars:Array ResultVar} (hvars:fn.results=vars) (hc:codeOk n c=true)
  (hlen0:(Nat.ble args.length n&&Nat.ble n 1000000)=true) (h:vp P c ⟨n,jX args 0 (shE s.env),s.st⟩ (NH P vars.toList s.n (AGT dst K))):Jy A (Jy B (Jy C (Jy D (Jy E (InlK P f s args dst K))))):=
 .inr (.inr (.inr (.inr (.inr ⟨hin,fun w0 St0 St β a w us hcore hargs=>eP hf hb hm hn hvars hc hlen0 h hcore hargs⟩))))
theorem InlS.mk {f:FuncId} {fn:Func} {c:Code} {args:List AV} {st st':List Ob} {y:AV} (hin:CallsIn P f) (hf:P.funcs[f]?=some fn) (hb:fn.body=some c) (hm:P.follows .mixedOrders=true) {n:Nat} (hn:fn.ntmps=n) {vars:Array ResultVar} (hvars:fn.results=vars) (hc:codeOk n c=true)
  (hlen0:(Nat.ble args.length n&&Nat.ble n 1000000)=true) (h:∀ (m:Nat) (env:List (Nat×AV)),vp P c ⟨n,jX args 0 (shE env),st⟩ (NH P vars.toList m (AGU st' env y))):InlS P f st args y st':=
 ⟨hin,fun w0 St0 St β s a w us hst hcore hargs=>by
  subst hst
  refine(eP hf hb hm hn hvars hc hlen0 (h s.n s.env) hcore hargs).mono fun e w' hx=>?_
  obtain⟨u,e1,t,x,q1,⟨q2,q3,rfl⟩,St',β',q4,q5⟩:=hx
  subst q2
  have:t=⟨s.n,s.env,t.st⟩:=by rw[← q1,← q3]
  rw[this] at q4
  exact⟨u,e1,St',β',q4,q5⟩⟩
end Go.Vm
