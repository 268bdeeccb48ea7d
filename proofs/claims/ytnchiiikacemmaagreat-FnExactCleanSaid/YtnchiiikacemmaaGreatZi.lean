/- A part. -/
import Derived.Test.YtnchiiikacemmaaGreatAa
import Derived.Deep.RegionLaw
import Derived.Test.YtnchiiikacemmaaGreatWb
import Derived.Test.YtnchiiikacemmaaGreatZd
set_option linter.unusedSimpArgs false
set_option linter.unusedVariables false
set_option maxHeartbeats 4000000
set_option maxRecDepth 100000
open Go.Proofs.Tryz
namespace Go.Proofs.YtnchiiikacemmaaGreat
open Go.Vm Go.RowKit
theorem ACB {w0:Bs} {St0 St:Nat→Nat→Prop} {β:Nat→Option Nat} {s:MS} {a:Act} {w:World} (h:Core w0 St0 St β s a w) {ob:Ob} {b:Nat} {l0:Nat} (hl:s.st[l0]?=some ob) (hlive:ob.live=true) (hwr:ob.wr=true) (hβ:β l0=some b)
  {a':Act} {w':World} {d cap:Nat} {rows:List (List Cl)} {cs:Array Value}
  (h1:a'.defers = []) (h2:a'.tmps.size=a.tmps.size) (h3:a'.tmps.getD d undef = .slice (some ⟨b,0,none⟩) rows.length cap)
  (hB:Below 0 w w') (hk:∀ k,k≠b→w'.heap[k]?=w.heap[k]?) (hsz:XM w' b=XM w b)
  (hc:w'.heap[b]?=some (.cells cs ob.ty (0,0))) (hcs:cs.size=cap*ob.sz) (hcap:rows.length≤cap) (hmax:cap≤maxLen)
  (hr:∀ x∈rows,x.length=ob.sz) (hv:∀ (k:Nat) (c:Cl),rows.flatten[k]?=some c→∃ y,cs[k]?=some y∧c = .v y∧Nu y=true) :
  Core w0 St0 St (fun _=>some b) ⟨s.n,[(d,.c (.ref 0))],[⟨ob.ty,ob.sz,rows,true,true⟩]⟩ a' w':=by
 obtain⟨g1,g2,g3⟩:=h.obs l0 ob b hl hlive hβ
 exact {
  defers:=h1
  size:=h2.trans h.size
  env:=fun i=>by
   simp only[Cm]
   by_cases e:d=i
   ·subst e
    simp only[aW,AVR,RdC,BD,aB]
    rw[h3]
    exact⟨rfl,fun _=>⟨cap,cs,rfl,hcap,hmax,hc,hcs⟩⟩
   ·simp only[e,aI,AVR]
  below:=h.below.step hB (fun k hk1 hk2=>hk k fun e=>by
    subst e
    rcases g1 with g1 | g1
    ·omega
    ·exact hk2 g1) (fun k _=>by
    by_cases e:k=b
    ·subst e; exact hsz
    ·exact jE (hk k e))
  st0:=h.st0
  stOld:=h.stOld
  stIn:=fun x o hx=>bI (h.stIn x o hx) hB.size
  obs:=fun l o x hl2 hlv hx=>by
   cases hx
   rcases l with _ | l
   ·simp only[aB,ah] at hl2
    subst hl2
    refine⟨g1,bI g2 hB.size,cs,hc,hr,fun k c hkc=>?_⟩
    obtain⟨y,q1,rfl,q3⟩:=hv k c hkc
    exact⟨y,q1,by simp only[RdB,RdC,RdD]; exact⟨trivial,q3⟩⟩
   ·simp at hl2
  nil:=fun l o _ _ hx=>by cases hx
  inj:=fun l l' o1 o2 x q1 q2 _ _ _ _=>by
   rcases l with _ | l<;>rcases l' with _ | l'
   ·rfl
   ·simp at q2
   ·simp at q1
   ·simp at q1
  sep:=fun l o x k hl2 hlv hx hs=>by
   cases hx
   have:=(h.sep l0 ob b k hl hlive hβ hs).1
   rw[hwr] at this
   cases this
  own:=⟨fun _ _ _=>False,fun l o x k c hl2 hlv hx hkc how=>by
   rcases l with _ | l
   ·simp only[aB,ah] at hl2
    subst hl2
    obtain⟨y,_,rfl,_⟩:=hv k c hkc
    cases how
   ·simp at hl2,fun _ _ _ hx=>hx.elim,fun _ _ _ _ _ hx=>hx.elim⟩ }
theorem ACC {a:Act} {n:Nat} (h:a.tmps.size=n):∃ l:List Value,a.tmps=l.toArray∧l.length=n:=⟨a.tmps.toList,by simp,by simpa using h⟩
theorem DK {α:Type} {l:List α} {n:Nat} (h:l.length=n+1):∃ x t,l=x::t∧t.length=n:=by
 cases l with
 | nil=>simp at h
 | cons x t=>exact⟨x,t,rfl,by simpa using h⟩
theorem Q_ (b:Nat) (ty:TypeId):∀ (vs:List Value) (o:Nat) (w:World) (cs:Array Value),w.heap[b]?=some (.cells cs ty (0,0))→o+vs.length≤cs.size →
  ∃ cs':Array Value,(w.setCells b o vs).heap[b]?=some (.cells cs' ty (0,0))∧cs'.size=cs.size∧(∀ k,cs'[k]?=if o≤k∧k<o+vs.length then vs[k-o]? else cs[k]?)∧(∀ k,k≠b→(w.setCells b o vs).heap[k]?=w.heap[k]?)∧Below 0 w (w.setCells b o vs)
 | [],o,w,cs,h,_=>⟨cs,h,rfl,fun k=>by rw[aV (by simp only[oI]; omega)],fun _ _=>rfl,Below.refl _ _⟩
 | v::vs,o,w,cs,h,hl=>by
  have hl':o+1+vs.length≤(cs.setIfInBounds o v).size:=by simp at hl ⊢; omega
  have h1:(w.setCell ⟨b,o,none⟩ v).heap[b]?=some (.cells (cs.setIfInBounds o v) ty (0,0)):=by
   show (w.heap.modify b _)[b]?=_
   rw[Array.getElem?_modify,aX rfl,h]
   rfl
  obtain⟨cs',g1,g2,g3,g4,g5⟩:=Q_ b ty vs (o+1) (w.setCell ⟨b,o,none⟩ v) _ h1 hl'
  refine⟨cs',g1,by rw[g2]; simp,fun k=>?_,fun k hk=>?_, ?_⟩
  ·rw[g3]
   simp only[bY]
   by_cases e:k=o
   ·subst e
    rw[aV (by omega),aX (by omega),abf,aX rfl,aX (by simp at hl; omega),XL]
    rfl
   ·by_cases e2:o+1≤k∧k<o+1+vs.length
    ·rw[aX e2,aX (by omega),show k-o=(k-(o+1))+1 by omega]
     rfl
    ·rw[aV e2,aV (by omega),abf,aV (Ne.symm e)]
  ·rw[World.setCells,g4 k hk]
   show (w.heap.modify b _)[k]?=_
   rw[Array.getElem?_modify,aV (Ne.symm hk)]
  ·rw[World.setCells]
   refine Below.trans ?_ g5
   refine⟨rfl,rfl,rfl, ?_,fun k hk=>by omega⟩
   show w.heap.size≤(w.heap.modify b _).size
   rw[Array.size_modify]; exact aK _
theorem VR {n:Nat}:∀ (L:List (List Cl)) (m:Nat),(∀ x∈L,x.length=n)→(L.take m).flatten=L.flatten.take (m*n)∧(L.drop m).flatten=L.flatten.drop (m*n)
 | [],m,_=>by simp
 | x::L,0,_=>by simp
 | x::L,m+1,h=>by
  obtain⟨h1,h2⟩:=VR L m fun y hy=>h y (aaX _ hy)
  have hx:x.length=n:=h x (abB ..)
  have e:(m+1)*n=x.length+m*n:=by rw[hx,Qj,Nat.one_mul,Nat.add_comm]
  simp only[abk,List.drop_succ_cons,bM,h1,h2,e,List.take_length_add_append,List.drop_length_add_append]
  exact⟨trivial,trivial⟩
theorem Qg {n:Nat}:∀ (L:List (List Cl)),(∀ x∈L,x.length=n)→L.flatten.length=L.length*n
 | [],_=>by simp
 | x::L,h=>by
  rw[bM,aT,Qg L fun y hy=>h y (aaX _ hy),h x (abB ..),bY,Qj,Nat.one_mul,Nat.add_comm]
theorem vV {n:Nat} (L:List (List Cl)) (m:Nat) (h:∀ x∈L,x.length=n) (hm:m<L.length) (k:Nat):(L.eraseIdx m).flatten[k]?=if k<m*n then L.flatten[k]? else L.flatten[k+n]?:=by
 rw[List.eraseIdx_eq_take_drop_succ,zF,(VR L m h).1,(VR L (m+1) h).2]
 have hl:=Qg L h
 have hmn:m*n≤L.flatten.length:=by rw[hl]; exact aaA n (by omega)
 rw[abd]
 have ht:(L.flatten.take (m*n)).length=m*n:=by rw[bn]; omega
 rw[ht]
 split
 ·rename_i h1
  rw[bu,aX h1]
 ·rename_i h1
  rw[rU,Qj,Nat.one_mul]
  congr 1
  omega
def EH (l:List DDead) (i:Int):List DDead:=if 0≤i∧i.toNat<l.length then l.eraseIdx i.toNat else l
theorem VS (l:List DDead):Jc 3 (l.map DDead.c)=true:=L_ (fun _=>rfl) l
theorem gI {α β:Type} (f:α→β):∀ (l:List α) (i:Nat),(l.eraseIdx i).map f=(l.map f).eraseIdx i
 | [],_=>rfl
 | _::_,0=>rfl
 | x::l,i+1=>by simp only[List.eraseIdx_cons_succ,V3,gI f l i]
theorem AAN:(prog.info? 115).map (·.size)=some 3:=by kernel_rfl
theorem ACD:prog.underlying 41=some (.slice 115):=by kernel_rfl
def KA (cs:Array Value) (i n:Nat):List Value:=(cs.toList.drop ((i+1)*3)).take ((n-(i+1))*3)
theorem MQ {cs:Array Value} {i n cap:Nat} (h:n≤cap) (hc:cs.size=cap*3):(KA cs i n).length=(n-(i+1))*3:=by
 simp[KA,hc]; omega
theorem SE {cs:Array Value} {i n j:Nat} (hj:j<(n-(i+1))*3):(KA cs i n)[j]?=cs[(i+1)*3+j]?:=by
 unfold KA
 rw[bu,aX hj,rU]
 simp
theorem dH (l:List DDead) (i:Int) (hl:l.length≤1048576):Ctr prog 106 [.c (.sl (l.map DDead.c)),.c (.v (.int .i64 (i)))] [.own 115 3 ((EH l i).map DDead.c) true]:=by
 refine CM call106 func106 ntmps106 results106 fun hw=>?_
 have hl2:l.length≤2147483648:=by omega
 simp only[go_sem,VS,ae,hl2,aS]
 rcases h1:decide (i<0) with _ | _
 rotate_left
 ·have hw:EH l i=l:=by simp at h1; unfold EH; rw[aV (by omega)]
  simp only[go_sem,hw,G6]
  simp
 rcases h2:decide (i≥(l.length:Int)) with _ | _
 rotate_left
 ·have hw:EH l i=l:=by simp at h1 h2; unfold EH; rw[aV (by omega)]
  simp only[go_sem,ae,h2,hw,G6]
  simp
 simp only[go_sem,ae,h2]
 refine DrawK.mkR ?_
 intro w0 St0 St β a w hc
 have hn:i.toNat<l.length∧i=(i.toNat:Int):=by simp at h1 h2; omega
 obtain⟨hn,hi⟩:=hn
 generalize i.toNat=m at hn hi
 have e5:=hc.env 5
 have e1:=hc.env 1
 simp only[Cm,Nat.reduceEqDiff,aW,aI,AVR,RdC,BD,RdD,aaD,aB] at e5 e1
 cases hb:β 1 with
 | none =>
  simp only[hb] at e5
  have:=(e5.2 trivial).2
  have h0:l = []:=by simpa using this
  rw[h0] at hn; simp at hn
 | some b =>
  simp only[hb] at e5
  obtain⟨_,e5⟩:=e5
  obtain⟨cap,cs,e5,hcap,hmax,hcs,hsz⟩:=e5 trivial
  rw[ae] at e5 hcap
  obtain⟨_,hbw,cs',hcs',_,hcell⟩:=hc.obs 1 _ b rfl rfl hb
  obtain rfl:cs=cs':=by
   rw[hcs] at hcs'
   simpa using hcs'
  obtain⟨tl,ht,htl⟩:=ACC hc.size
  obtain⟨tmps,defers⟩:=a
  dsimp only at ht e5 e1
  subst ht
  simp only at htl
  obtain⟨x0,t0,rfl,g0⟩:=DK htl; obtain⟨x1,t1,rfl,g1⟩:=DK g0; obtain⟨x2,t2,rfl,g2⟩:=DK g1; obtain⟨x3,t3,rfl,g3⟩:=DK g2
  obtain⟨x4,t4,rfl,g4⟩:=DK g3; obtain⟨x5,t5,rfl,g5⟩:=DK g4; obtain⟨x6,t6,rfl,g6⟩:=DK g5; obtain⟨x7,t7,rfl,g7⟩:=DK g6
  obtain⟨x8,t8,rfl,g8⟩:=DK g7; obtain⟨x9,t9,rfl,g9⟩:=DK g8; obtain⟨x10,t10,rfl,g10⟩:=DK g9; obtain⟨x11,t11,rfl,g11⟩:=DK g10
  obtain⟨x12,t12,rfl,g12⟩:=DK g11; obtain⟨x13,t13,rfl,g13⟩:=DK g12; obtain⟨x14,t14,rfl,g14⟩:=DK g13; obtain⟨x15,t15,rfl,g15⟩:=DK g14
  obtain⟨x16,t16,rfl,g16⟩:=DK g15; obtain⟨x17,t17,rfl,g17⟩:=DK g16; obtain⟨x18,t18,rfl,g18⟩:=DK g17; obtain⟨x19,t19,rfl,g19⟩:=DK g18
  obtain⟨x20,t20,rfl,g20⟩:=DK g19; obtain⟨x21,t21,rfl,g21⟩:=DK g20; obtain⟨x22,t22,rfl,g22⟩:=DK g21; obtain⟨x23,t23,rfl,g23⟩:=DK g22
  obtain⟨x24,t24,rfl,g24⟩:=DK g23; obtain⟨x25,t25,rfl,g25⟩:=DK g24
  obtain rfl:t25 = []:=abx.1 g25
  clear htl g0 g1 g2 g3 g4 g5 g6 g7 g8 g9 g10 g11 g12 g13 g14 g15 g16 g17 g18 g19 g20 g21 g22 g23 g24 g25
  rw[hi] at e1
  have k5:x5 = .slice (some ⟨b,0,none⟩) l.length cap:=e5
  have k1:x1 = .int .i64 (m:Int):=e1.1
  clear e5 e1
  subst k5
  subst k1
  have hcs2:cs.size=cap*3:=hsz
  obtain⟨A,hA,hnews⟩:∃ A:Addr,(if cap=m+1 then some (⟨b,0,none⟩:Addr) else some ⟨b,(m+1)*3,none⟩)=some A∧Go.RowKit.Hid (∀ j u,(KA cs m l.length)[j]?=some u→({ heap:=w.heap,tape:=w.tape,drawn:=w.drawn+1,os:=w.os,output:=w.output }:World).cell? (A.add j)=some u):=by
   by_cases h:cap=m+1
   ·refine⟨⟨b,0,none⟩,by simp[h],fun j u hu=>?_⟩
    have h0:(KA cs m l.length).length=0:=by rw[MQ (by omega) hcs2]; omega
    rw[abx.1 h0] at hu
    simp at hu
   ·refine⟨⟨b,(m+1)*3,none⟩,by simp[h],fun j u hu=>?_⟩
    have hj:j<(l.length-(m+1))*3:=by
     have:=(ay.1 hu).1
     rwa [MQ (by omega) hcs2] at this
    rw[SE hj] at hu
    rw[Addr.add_lit]
    show (match w.heap[b]? with | some (.cells cs _ _)=>cs[(m+1)*3+j]? | _=>none)=some u
    rw[hcs]; exact hu
  have hwr:IntKind.i64.wrap ((m:Int)+1)=(m:Int)+1:=by rw[IntKind.wrap_i64]; omega
  have hp0:(0:Int)≤(m:Int)+1:=by omega
  have hp1:(m:Int)+1≤(l.length:Int):=by omega
  have hp2:((m:Int)+1).toNat=m+1:=by omega
  have hmc:m≤cap:=by omega
  have s1:Go.RowKit.Hid ((KA cs m l.length).length=(l.length-(m+1))*3):=MQ (by omega) hcs2
  have hnc:∀ j u,(KA cs m l.length)[j]?=some u→cs[(m+1)*3+j]?=some u∧j<(l.length-(m+1))*3:=fun j u hu=>by
   have hj:j<(l.length-(m+1))*3:=by
    have:=(ay.1 hu).1
    rwa [s1.out] at this
   rw[SE hj] at hu
   exact⟨hu,hj⟩
  have h3:∀ x∈l.map DDead.c,x.length=3:=fun x hx=>by
   obtain⟨d,_,rfl⟩:=RX.1 hx
   rfl
  have hcv:∀ (k:Nat) (c:Cl),(l.map DDead.c).flatten[k]?=some c→∃ n:Int,cs[k]?=some (.int .i64 n)∧c = .v (.int .i64 n)∧Nu (.int .i64 n)=true:=fun k c hk=>by
   obtain⟨u,q1,q2⟩:=hcell k c hk
   obtain⟨r,hr,hcr⟩:=aa5.1 (aZ hk)
   obtain⟨d,_,rfl⟩:=RX.1 hr
   have hcr:c∈ [Cl.v (.int .i64 d.buf),Cl.v (.int .i64 d.gen),Cl.v (.int .i64 d.at0)]:=hcr
   simp only[bW,List.not_mem_nil,or_false] at hcr
   rcases hcr with rfl | rfl | rfl<;>simp only[RdB,RdC,RdD] at q2<;>exact⟨_,by rw[q1,q2.1],rfl,q2.2⟩
  have s2:Go.RowKit.Hid (∀ u∈KA cs m l.length,u.oneCell'=true):=fun u hu=>by
   obtain⟨j,hj⟩:=List.getElem?_of_mem hu
   obtain⟨g1,g2⟩:=hnc j u hj
   have hlt:(m+1)*3+j<(l.map DDead.c).flatten.length:=by rw[Qg _ h3,ae]; omega
   obtain⟨n,q1,_⟩:=hcv ((m+1)*3+j) _ (aA hlt)
   rw[q1] at g1
   cases g1
   rfl
  have s3:Go.RowKit.Hid (∀ j,j<(KA cs m l.length).length→(w.drew.cell? ⟨b,0+m*3+j,none⟩).isSome=true∧w.drew.frozen? ⟨b,0+m*3+j,none⟩=false):=fun j hj=>by
   rw[s1.out] at hj
   rw[oJ]
   constructor
   ·show (match w.heap[b]? with | some (.cells cs _ _)=>cs[m*3+j]? | _=>none).isSome=true
    rw[hcs]
    simp; omega
   ·show (match w.heap[b]? with | some (.cells _ _ (lo,hi))=>decide (lo≤m*3+j)&&decide (m*3+j<hi) | _=>false)=false
    rw[hcs]; simp
  obtain⟨ii,hii,hiz⟩:=uB.1 AAN
  refine wpAny_take (i:=0) (v:=.slice (some ⟨b,0,none⟩) l.length cap) rfl (by kernel_rfl) (by kernel_rfl) (by kernel_rfl) (fun _ _ _ h=>by cases h.1) (Or.inl ⟨by rfl,by intro w; go_simp⟩) ?_
  refine wpAny_take (i:=1) (v:=.int .i64 (m:Int)) rfl (by kernel_rfl) (by kernel_rfl) (by kernel_rfl) (fun _ _ _ h=>by cases h.1) (Or.inl ⟨by rfl,by intro w; go_simp⟩) ?_
  refine wpAny_take (i:=3) (v:=.slice (some ⟨b,0,none⟩) l.length cap) rfl (by kernel_rfl) (by kernel_rfl) (by kernel_rfl) (fun _ _ _ h=>by cases h.1) (Or.inl ⟨by rfl,by intro w; go_simp⟩) ?_
  refine wpAny_take (i:=4) (v:=.int .i64 (m:Int)) rfl (by kernel_rfl) (by kernel_rfl) (by kernel_rfl) (fun _ _ _ h=>by cases h.1) (Or.inl ⟨by rfl,by intro w; go_simp⟩) ?_
  refine wpAny_take (i:=5) (v:=.int .i64 ((m:Int)+1)) rfl (by kernel_rfl) (by kernel_rfl) (by kernel_rfl) (fun _ _ _ h=>by cases h.1) (Or.inl ⟨by rfl,by intro w; go_simp⟩) ?_
  refine wpAny_ready (rs:=[2,6]) (by kernel_rfl) (by simp) (AllReady.cons rfl (fun K hK=>?_) (AllReady.cons rfl (fun K hK=>?_) AllReady.nil))
  all_goals (go_simp; refine hK _ _ ?_; clear hK K)
  refine wpAny_ready (rs:=[6]) (by kernel_rfl) (by simp) (AllReady.cons rfl (fun K hK=>?_) AllReady.nil)
  rotate_left
  refine wpAny_ready (rs:=[2]) (by kernel_rfl) (by simp) (AllReady.cons rfl (fun K hK=>?_) AllReady.nil)
  all_goals
   go_simp
   refine hK _ _ ?_
   clear hK K
   refine wpAny_ready (rs:=[7]) (by kernel_rfl) (by simp) (AllReady.cons rfl (fun K hK=>?_) AllReady.nil)
   refine step_append_room rfl (.tmp 20) (.tmp 24) 41 rfl 115 ii 3 ACD hii hiz b 0 m cap (by simp[Act.eval]) A (l.length-(m+1)) (cap-(m+1)) (KA cs m l.length) (by simp[Act.eval]) s1.out hnews.out s2.out (by omega) s3.out ?_
   refine hK _ _ ?_
   clear hK K
   refine wpAny_ready (rs:=[8]) (by kernel_rfl) (by simp) (AllReady.cons rfl (fun K hK=>?_) AllReady.nil)
   go_simp
   refine hK _ _ ?_
   clear hK K
   refine wpAny_done (by kernel_rfl) ?_ _
   obtain⟨cs',g1,g2,g3,g4,g5⟩:=Q_ b 115 (KA cs m l.length) (m*3) w.drew cs hcs (by rw[s1.out,hcs2]; omega)
   have hwo:EH l i=l.eraseIdx m:=by rw[hi]; unfold EH; rw[aX ⟨by omega,by simpa using hn⟩]; rfl
   refine⟨rfl,⟨26,[(4,.c (.ref 0))],[⟨115,3,(EH l i).map DDead.c,true,true⟩]⟩, ?_,rfl,St,fun _=>some b, ?_⟩
   ·simp only[go_sem,G6]
    simp
   rw[hwo]
   refine ACB hc (l0:=1) rfl rfl rfl hb (cap:=cap) (cs:=cs') hc.defers rfl ?_ (Below.trans (show Below 0 w w.drew from⟨rfl,rfl,rfl,aK _,fun k hk=>by omega⟩) g5) g4 ((jF hcs g1).2 g2) g1 (by rw[g2,hcs2]) ?_ hmax ?_ ?_
   ·show Value.slice _ _ _=_
    rw[ae,List.length_eraseIdx,aX hn]
    congr 1
    omega
   ·rw[ae,List.length_eraseIdx,aX hn]; omega
   ·intro x hx
    obtain⟨d,_,rfl⟩:=RX.1 hx
    rfl
   ·intro k c hk
    rw[gI,vV _ m h3 (by simpa using hn)] at hk
    rw[g3]
    split at hk
    ·rename_i hlt
     obtain⟨n,q1,q2,q3⟩:=hcv k c hk
     rw[aV (by omega)]
     exact⟨_,q1,q2,q3⟩
    ·rename_i hge
     obtain⟨n,q1,q2,q3⟩:=hcv _ c hk
     have hlt:=(ay.1 hk).1
     rw[Qg _ h3,ae] at hlt
     rw[s1.out,aX (by omega),SE (by omega),show (m+1)*3+(k-m*3)=k+3 by omega]
     exact⟨_,q1,q2,q3⟩
def rW (i:Int):Nat→List DDead→List DDead
 | _,[]=>[]
 | k,x::l=>if((k:Int) != i)=true then x::rW i (k+1) l else rW i (k+1) l
theorem ZP (i:Int):∀ (l:List DDead) (k:Nat),i<k→rW i k l=l
 | [],_,_=>rfl
 | x::l,k,h=>by
  have e:((k:Int) != i)=true:=by simp; omega
  simp only[rW,e,aW,ZP i l (k+1) (by omega)]
theorem gJ (i:Int):∀ (l:List DDead) (k:Nat),(k:Int)≤i→rW i k l=l.eraseIdx (i.toNat-k)
 | [],_,_=>by simp[rW]
 | x::l,k,h=>by
  by_cases e:(k:Int)=i
  ·have e1:((k:Int) != i)=false:=by simp; omega
   have e2:i.toNat-k=0:=by omega
   simp only[rW,e1,e2,az,aI,List.eraseIdx_cons_zero]
   exact ZP i l (k+1) (by omega)
  ·have e1:((k:Int) != i)=true:=by simp; omega
   have e2:i.toNat-k=(i.toNat-(k+1))+1:=by omega
   simp only[rW,e1,e2,aW,List.eraseIdx_cons_succ]
   rw[gJ i l (k+1) (by omega)]
theorem AFT (l:List DDead) (i:Int):rW i 0 l=EH l i:=by
 unfold EH
 by_cases h:0≤i
 ·rw[gJ i l 0 (by simpa using h)]
  split
  ·rfl
  ·rename_i h2
   rw[List.eraseIdx_of_length_le (by omega)]
 ·rw[ZP i l 0 (by simp; omega),aV (by omega)]
theorem ACE (i:Int) (l:List DDead) {k:Nat} (h:k<l.length):rW i k (l.drop k)=if((k:Int) != i)=true then l[k]::rW i (k+1) (l.drop (k+1)) else rW i (k+1) (l.drop (k+1)):=by
 rw[aC h,rW]
theorem dI (l:List DDead) (i:Int) (hl:l.length≤1048576):Ctr prog 85 [.c (.sl (l.map DDead.c)),.c (.v (.int .i64 (i)))] [.own 115 3 ((EH l i).map DDead.c) true]:=by
 refine CM call85 func85 ntmps85 results85 fun hw=>?_
 simp only[go_sem]
 refine LoopH.mk [7] (A:=Nat×List DDead) (fun x=>[(6,.c (.v (.int .i64 (x.1)))),(5,.c (.ref 0))]) (fun x=>[⟨115,3,x.2.map DDead.c,true,true⟩]) (fun x=>x.1≤l.length∧x.2.length≤x.1∧x.2++rW i x.1 (l.drop x.1)=rW i 0 l) (fun x=>l.length-x.1) (0,[]) (Head.sel [(0,false)] ⟨rfl,rfl,rfl,trivial⟩ rfl) ⟨ak _,aK _,rfl⟩ ?_
 rintro⟨k,out⟩ ⟨hk,hol,hb⟩
 dsimp only at hk hol hb
 simp only[go_sem,ae]
 refine cndC.mk (fun h=>?_) (fun h=>?_)
 ·have hk':k<l.length:=by simpa using h
  rw[ACE i l hk'] at hb
  have hol2:out.length+1≤2147483648:=by omega
  rcases hc:((k:Int) != i) with _ | _
  ·rw[hc] at hb
   simp only[go_sem,hc,wrap_i64 (n:=(k:Int)+1) (by omega) (by omega)]
   exact⟨(k+1,out),Head.sel [(0,false)] ⟨rfl,rfl,AO DDead.pure,trivial⟩ rfl,⟨hk',by simp only; omega,hb⟩,by simp only; omega⟩
  ·rw[hc] at hb
   have hd:out.map DDead.c ++ [[Cl.v (.int .i64 l[k].buf),Cl.v (.int .i64 l[k].gen),Cl.v (.int .i64 l[k].at0)]]=(out ++ [l[k]]).map DDead.c:=by rw[Uz]; rfl
   simp only[go_sem,ae,bK,Oo,Fb,aN,aU,hd,AA _ hk',hc,hol2,aS,wrap_i64 (n:=(k:Int)+1) (by omega) (by omega)]
   exact⟨(k+1,out ++ [l[k]]),Head.sel [(2,false)] ⟨rfl,rfl,AO DDead.pure,trivial⟩ rfl,⟨hk',by simp; omega,by rw[bJ]; exact hb⟩,by simp only; omega⟩
 ·have hk':k=l.length:=by simp at h; omega
  subst hk'
  rw[aO] at hb
  have:out=EH l i:=by rw[← AFT,← hb]; simp[rW]
  rw[← this]
  simp only[go_sem,G6]
  try simp
theorem ZQ (l:List DRef):Jc 5 (l.map DRef.c)=true:=L_ (fun _=>rfl) l
theorem P6 (l:List DRef) (h:l.length≤1048576):Ctr prog 177 [.c (.sl (l.map DRef.c))] [.own 165 5 (l.map DRef.c) true]:=by
 refine CM call177 func177 ntmps177 results177 fun hw=>?_
 have hl:l.length≤2147483648:=by omega
 simp only[go_sem,ZQ,ae,hl,aS,Et]
 try simp
theorem dJ (d:DDir) (h:d.l.length≤1048576):Ctr prog 99 [.agg d.c] [.agg d.o]:=by
 refine CM call99 func99 ntmps99 results99 fun hw=>?_
 simp only[go_sem]
 refine DrawK.mkE ?_
 simp only[go_sem]
 refine CallE.mk _ (P6 d.l h) ?_
 simp only[go_sem,Et]
 try simp[AY]
theorem lF (d:DDir) (h:d.l.length≤1048576):Ctr prog 69 [.agg d.c] [.agg d.o]:=by
 refine CM call69 func69 ntmps69 results69 fun hw=>?_
 have hl:d.l.length≤2147483648:=by omega
 simp only[go_sem]
 refine DrawK.mkE ?_
 simp only[go_sem,ZQ,ae,hl,aS,Et]
 try simp[AY]
theorem ADh {N:Nat} {a b c d:Ob} (ha:Aw N a=true) (hb:Aw N b=true) (hc:Aw N c=true) (hd:Aw N d=true) : [a,b,c,d].all (Aw N)=true:=by simp[ha,hb,hc,hd]
def rH (n:Int):List Cl:=[.v (.int .i64 n),.v (.slice none 0 0)]
def vW (n:Int) (l:Nat):List Cl:=[.v (.int .i64 n),.ref l]
@[go_sem] theorem AHL (n:Int):rH n = [.v (.int .i64 n),.v (.slice none 0 0)]:=rfl
@[go_sem] theorem AF6 (n:Int) (l:Nat):vW n l = [.v (.int .i64 n),.ref l]:=rfl
theorem XC (c:DChunk) (hc:FY c):Ctr prog 178 [.agg c.c] [.agg c.o]:=by
 rw[Eb] at hc
 refine CM call178 func178 ntmps178 results178 fun hw=>?_
 have hlen:=hc.1
 simp only[go_sem]
 refine LoopH.mk [] (A:=Nat×List DSlot) (fun x=>[(12,.c (.v (.int .i64 (x.1))))]) (fun x=>[⟨110,2,[c.c],true,true⟩,⟨110,2,[rH 0],true,true⟩,⟨110,2,[vW c.next 3],true,true⟩,⟨188,2,x.2.map DSlot.o,true,true⟩]) (fun x=>x.1≤c.l.length∧x.2.length=x.1∧x.2++c.l.drop x.1=c.l) (fun x=>c.l.length-x.1) (0,[]) (Head.trans (Head.nilR 2 1 188 2 ⟨110,2,[rH c.next],true,true⟩ (rH c.next) rfl rfl rfl) (Head.sel [(0,false),(1,true),(2,true),(3,false)] ⟨rfl,rfl,rfl,rfl,rfl,rfl,trivial⟩ rfl)) ⟨ak _,rfl,rfl⟩ ?_
 rintro⟨k,out⟩ ⟨hk,hol,hb⟩
 dsimp only at hk hol hb
 simp only[go_sem]
 refine cndC.mk (fun h=>?_) (fun h=>?_)
 ·have hk':k<c.l.length:=by simpa using h
  rw[aC hk'] at hb
  have hr:=hc.2 _ (aj hk')
  rw[JL] at hr
  have hol2:out.length+1≤2147483648:=by omega
  have hnr:∀ (a:Int) (l:Nat),FT [[Cl.v (.int .i64 a),.ref l]]=false:=fun _ _=>rfl
  simp only[go_sem,AA _ hk']
  refine DrawK.edge 6 8 [0,1,2,3,4,5,6,7,8,9,10,11] [7,8] rfl (by kernel_rfl) rfl (by kernel_rfl) ?_
  refine DrawK.mkE ?_
  simp only[go_sem]
  refine CallE.mk _ (Ff c.l[k].l hr.1) ?_
  simp only[go_sem,bK,Oo,hol2,hnr,az,aS,wrap_i64 (n:=(k:Int)+1) (by omega) (by omega)]
  refine⟨(k+1,out ++ [c.l[k]]),Head.selAbs [(0,false),(1,true),(2,true),(7,true),(5,false)] 4 3 ⟨rfl,rfl,rfl,rfl,rfl,Iy DSlot.o_nr _ out rfl,AO DVal.pure,trivial⟩ ⟨out.length,out.map DSlot.o ++ [DSlot.o c.l[k]],_,DSlot.o c.l[k],_,⟨lU 3,rfl,Iw DSlot.o_nr _ out _ _,by simp,rfl⟩,
   ⟨rfl,rfl,rfl,rfl,rfl,rfl,CX _,by simp[En],fun l hl=>by simp[En] at hl; omega⟩,⟨rfl, ?tr⟩, ?eq⟩,⟨hk',by simp; omega,(bJ _ _ _).trans hb⟩,by simp only; omega⟩
  case tr=>unfold Az; rw[Bc]; exact ADh rfl rfl rfl (AP (GG _))
  case eq=>unfold Az; rw[Bc,Uz]; rfl
 ·have hk':k=c.l.length:=by simp at h; omega
  subst hk'
  rw[aO] at hb
  have:out=c.l:=by simpa using hb
  subst this
  simp only[go_sem,GG]
  try simp[AY]
theorem lG (c:DChunk) (hc:FY c):Ctr prog 197 [.agg c.c] [.agg c.o]:=by
 rw[Eb] at hc
 refine CM call197 func197 ntmps197 results197 fun hw=>?_
 have hlen:=hc.1
 simp only[go_sem]
 refine LoopH.mk [8,7] (A:=Nat×List DSlot) (fun x=>[(4,.c (.v (.int .i64 (x.1)))),(3,.lp 2 0 0)]) (fun x=>[⟨110,2,[c.c],true,true⟩,⟨110,2,[rH 0],true,true⟩,⟨110,2,[vW c.next 3],true,true⟩,⟨188,2,x.2.map DSlot.o,true,true⟩]) (fun x=>x.1≤c.l.length∧x.2.length=x.1∧x.2++c.l.drop x.1=c.l) (fun x=>c.l.length-x.1) (0,[]) (Head.sel [(0,false),(1,true),(3,true),(2,false)] ⟨rfl,rfl,rfl,rfl,rfl,rfl,trivial⟩ rfl) ⟨ak _,rfl,rfl⟩ ?_
 rintro⟨k,out⟩ ⟨hk,hol,hb⟩
 dsimp only at hk hol hb
 simp only[go_sem]
 refine cndC.mk (fun h=>?_) (fun h=>?_)
 ·have hk':k<c.l.length:=by simpa using h
  rw[aC hk'] at hb
  have hr:=hc.2 _ (aj hk')
  rw[JL] at hr
  have hol2:out.length+1≤2147483648:=by omega
  have hsl2:c.l[k].l.length≤2147483648:=by have:=hr.1; omega
  have hnr:∀ (a:Int) (l:Nat),FT [[Cl.v (.int .i64 a),.ref l]]=false:=fun _ _=>rfl
  simp only[go_sem]
  refine DrawK.edge 15 17 [0,1,2,3,4,5,6,7,8,9,10,11,12,13,14,15,16,17,18,19,20] [16,17] rfl (by kernel_rfl) rfl (by kernel_rfl) ?_
  refine DrawK.mkE ?_
  simp only[go_sem,AA _ hk',Hq,hsl2,hol2,hnr,bK,Oo,az,aS,wrap_i64 (n:=(k:Int)+1) (by omega) (by omega)]
  refine⟨(k+1,out ++ [c.l[k]]),Head.selAbs [(0,false),(1,true),(2,true),(7,true),(5,false)] 4 3 ⟨rfl,rfl,rfl,rfl,rfl,Iy DSlot.o_nr _ out rfl,AO DVal.pure,trivial⟩ ⟨out.length,out.map DSlot.o ++ [DSlot.o c.l[k]],_,DSlot.o c.l[k],_,⟨lU 3,rfl,Iw DSlot.o_nr _ out _ _,by simp,rfl⟩,
   ⟨rfl,rfl,rfl,rfl,rfl,rfl,CX _,by simp[En],fun l hl=>by simp[En] at hl; omega⟩,⟨rfl, ?tr⟩, ?eq⟩,⟨hk',by simp; omega,(bJ _ _ _).trans hb⟩,by simp only; omega⟩
  case tr=>unfold Az; rw[Bc]; exact ADh rfl rfl rfl (AP (GG _))
  case eq=>unfold Az; rw[Bc,Uz]; rfl
 ·have hk':k=c.l.length:=by simp at h; omega
  subst hk'
  rw[aO] at hb
  have:out=c.l:=by simpa using hb
  subst this
  simp only[go_sem,GG]
  try simp[AY]
theorem P7 (l:List DBuf) (hl:fitS F6 l):Ctr prog 100 [.c (.sl (l.map DBuf.c))] [.own 112 5 (l.map DBuf.o) true]:=by
 refine CM call100 func100 ntmps100 results100 fun hw=>?_
 have hlen:=hl.1
 simp only[go_sem,ae]
 refine LoopH.mk [6] (A:=Nat×List DBuf) (fun x=>[(9,.c (.v (.int .i64 (x.1)))),(3,.c (.ref 0))]) (fun x=>[⟨112,5,x.2.map DBuf.o,true,true⟩]) (fun x=>x.1≤l.length∧x.2.length≤x.1∧x.2++l.drop x.1=l) (fun x=>l.length-x.1) (0,[]) (Head.sel [(0,false)] ⟨rfl,rfl,rfl,trivial⟩ rfl) ⟨ak _,aK _,rfl⟩ ?_
 rintro⟨k,out⟩ ⟨hk,hol,hb⟩
 dsimp only at hk hol hb
 simp only[go_sem]
 refine cndC.mk (fun h=>?_) (fun h=>?_)
 ·have hk':k<l.length:=by simpa using h
  rw[aC hk'] at hb
  have hr:=hl.2 _ (aj hk')
  rw[Gp] at hr
  have hol2:out.length+1≤2147483648:=by omega
  have hnr:∀ (a b c:Int) (m n:Nat),FT [[Cl.v (.int .i64 a),Cl.v (.int .i64 b),Cl.v (.int .i64 c),.ref m,.ref n]]=false:=fun _ _ _ _ _=>rfl
  simp only[go_sem,AA _ hk']
  refine DrawK.edge 10 12 [0,1,2,3,4,5,6,7,8,9,10,11,12,13,14] [11,12] rfl (by kernel_rfl) rfl (by kernel_rfl) ?_
  refine DrawK.mkE ?_
  simp only[go_sem]
  refine CZ (XC l[k].c0 hr.1) ?_
  simp only[go_sem]
  refine CallE.mk _ (Ez l[k].g (by have:=hr.2; omega)) ?_
  simp only[go_sem,bK,Oo,hol2,hnr,az,aS,wrap_i64 (n:=(k:Int)+1) (by omega) (by omega)]
  refine⟨(k+1,out ++ [l[k]]),Head.selAbs [(5,true),(2,true),(3,false)] 1 0 ⟨rfl,rfl,Iy DBuf.o_nr _ out rfl,Du (GG _),AO byteC.pure,trivial⟩ ⟨out.length,out.map DBuf.o ++ [DBuf.o l[k]],_,DBuf.o l[k],_,⟨lU 0,rfl,Iw DBuf.o_nr _ out _ _,by simp,rfl⟩,
   ⟨rfl,rfl,rfl,rfl,rfl,rfl,rfl,rfl, ?xs,rfl, ?nr,by simp[En],rfl,rfl,rfl,rfl,B_ _,by simp[En],fun l hl=>by simp[En] at hl; omega⟩,⟨rfl, ?tr⟩, ?eq⟩,⟨hk',by simp; omega,(bJ _ _ _).trans hb⟩,by simp only; omega⟩
  case xs=>exact DR (GG _)
  case nr=>exact GG _
  case tr=>unfold Az; rw[Bc]; exact allA (AP (CE _))
  case eq=>unfold Az; rw[Bc,Uz]; rfl
 ·have hk':k=l.length:=by simp at h; omega
  subst hk'
  rw[aO] at hb
  have:out=l:=by simpa using hb
  subst this
  simp only[go_sem,CE]
  try simp
end Go.Proofs.YtnchiiikacemmaaGreat
