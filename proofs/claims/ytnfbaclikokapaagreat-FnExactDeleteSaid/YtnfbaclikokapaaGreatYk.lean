/- A part. -/
import Derived.Test.YtnfbaclikokapaaGreatYa
import Derived.Test.YtnfbaclikokapaaGreatYl
import Derived.Test.YtnfbaclikokapaaGreatYh
set_option linter.unusedSimpArgs false
set_option linter.unusedVariables false
set_option maxHeartbeats 4000000
set_option maxRecDepth 100000
open Go.Proofs.Tryz
namespace Go.Proofs.YtnfbaclikokapaaGreat
open Go.Vm Go.RowKit
theorem Yj {w:World} {b:Nat} {l:List DVal} {cs:Array Value} {ty:TypeId} (hb:w.heap[b]?=some (.cells cs ty (0,0))) (hc:∀ (k:Nat) (c:Cl),(l.map DVal.c).flatten[k]?=some c→∃ y,cs[k]?=some y∧c = .v y) :
  Go.Sort.HoldsK DT 3 w b 0 l.toArray:=by
 intro t ht
 have ht':t<l.length*3:=by simpa using ht
 have hk:t/3<l.length:=by omega
 have hr:(l.map DVal.c)[t/3]?=some l[t/3].c:=by simp[hk]
 have hlen:∀ x∈l.map DVal.c,x.length=3:=fun x hx=>by
  obtain⟨v,_,rfl⟩:=WY.1 hx
  rfl
 have h3:t%3<3:=Nat.mod_lt _ (by omega)
 have he:(DT l.toArray[t/3]!)[t%3]! = (DT l[t/3])[t%3]!:=by simp[hk]
 rw[Go.Sort.get_flatK _ _ _ _ (by simpa using ht'),he,Zj]
 have hc1:∃ y,l[t/3].c[t%3]?=some (.v y)∧(DT l[t/3])[t%3]! = y:=by
  rcases(show t%3=0∨t%3=1∨t%3=2 by omega) with e | e | e<;>rw[e]<;>exact⟨_,rfl,rfl⟩
 obtain⟨y,hy1,hy2⟩:=hc1
 have hf:=EL hlen (t/3) (t%3) _ _ hr hy1
 rw[show t/3*3+t%3=t by omega] at hf
 obtain⟨z,hz1,hz2⟩:=hc t _ hf
 cases hz2
 rw[hy2]
 constructor
 ·show (match w.heap[b]? with | some (.cells cs _ _)=>cs[t]? | _=>none)=some y
  rw[hb]; exact hz1
 ·show (match w.heap[b]? with | some (.cells _ _ (lo,hi))=>decide (lo≤t)&&decide (t<hi) | _=>false)=false
  rw[hb]; simp
theorem pg {w:World} {b q:Nat} {F:Array Value} {n:Nat} (h:Go.Sort.Holds id w b 0 F) {G:Array Value} (hs:G.size=F.size) (hn:n<F.size):(Go.Sort.putRow id (Go.Sort.ahead w q) b 0 G).cell? ⟨b,n,none⟩=some G[n]!:=by
 have:=(Go.Sort.holds_putRow id (Go.Sort.ahead w q) b 0 F G (Go.Sort.holds_ahead id w q b 0 F h) hs n (by omega)).1
 rwa [Zj] at this
theorem Zu (l:List DVal) (hl:l.length≤1048576) (w:World) (St:Nat→Nat→Prop) (u:Value) (hSt:∀ b o,St b o→b<w.heap.size) (hu:RdA w St (.c (.sl (l.map DVal.c))) u) :
  Calls prog 141 #[u] w fun e w1=>∃ a cap,e = .returned (.slice a l.length cap)∧l.length≤cap∧cap≤maxLen∧Below w.heap.size w w1∧(l = []∨∃ b,a=some ⟨b,0,none⟩∧w.heap.size≤b∧b<w1.heap.size∧Go.Sort.HoldsK DT 3 w1 b 0 l.toArray):=by
 refine((Fh l hl).2 w St [u] hSt ⟨u,[],rfl,hu,rfl⟩).mono ?_
 rintro e w1 ⟨us,bs,St1,hb⟩
 obtain⟨Φs,hR,_⟩:=hb.res
 obtain⟨u1,us',b1,bs',Φ,Φs',rfl,rfl,rfl,h1,h2,_,_⟩:=hR
 subst h2
 have hret:=hb.ret
 cases b1 with
 | none =>
  obtain⟨rfl,h3⟩:=h1
  have:l = []:=by simpa using h3
  subst this
  exact⟨none,0,hret,aN _,ax _,hb.below,.inl rfl⟩
 | some b =>
  obtain⟨g1,g2,g3,g4,cap,cs,rfl,g5,g6,g7,g8,g9⟩:=h1
  rw[ae] at g5
  refine⟨_,cap,by rw[hret]; simp[Nc],g5,g6,hb.below,.inr ⟨b,rfl,g1,g2,Yj g7 fun k c hc=>?_⟩⟩
  obtain⟨y,hy1,hy2⟩:=g9 k c hc
  have hm:=aY hc
  obtain⟨r,hr,hcr⟩:=abd.1 hm
  obtain⟨v,_,rfl⟩:=WY.1 hr
  have hcr:c∈ [Cl.v (.int .i64 v.ty),Cl.v (.int .i64 v.n),Cl.v (.string v.s)]:=hcr
  simp only[cZ,List.not_mem_nil,or_false] at hcr
  rcases hcr with rfl | rfl | rfl<;>simp only[RdO] at hy2<;>exact⟨_,hy1,by rw[hy2.1]⟩
theorem pq:∀ args w,(callFunc 336 args).run prog w = .ok (.enter 336 args) w:=call336
theorem Zv (a:Option Addr) (cap:Nat) (w:World):Calls prog 337 #[.slice a 0 cap] w fun e w'=>e = .returned (.slice a 0 cap)∧w'=w:=by
 go_enter func337,ntmps337
 go_wp2
 go_ret
 exact⟨rfl,rfl⟩
def xG (l:List DVal) (b:Nat) (w w':World):Prop:=∃ d n os,Go.Sort.PermIn 0 l.length l.toArray d∧(∀ i j,i<j→j<d.size→EN d[j]! d[i]! = false)∧w'=sortWorldK DT 3 w b 0 n d os
def uV (l:List DVal) (b:Nat) (w w':World):Prop:=∃ q F,w'=Go.Sort.putRow id (Go.Sort.ahead w q) b 0 F∧F.size=l.length*3∧∀ j,j<(CG l).length→∀ c,c<3→F[j*3+c]! = (DT (CG l)[j]!)[c]!
theorem pz {l:List DVal} {b cap:Nat} {w1 w2:World} (hH:Go.Sort.HoldsK DT 3 w1 b 0 l.toArray) (hb:b<w1.heap.size) (hl:l.length≤1048576) (hc:l.length≤cap) (h:xG l b w1 w2) :
  Calls prog 337 #[.slice (some ⟨b,0,none⟩) l.length cap] w2 fun e w3=>e = .returned (.slice (some ⟨b,0,none⟩) (CG l).length cap)∧uV l b w2 w3:=by
 obtain⟨d,n,os,hp,hs,rfl⟩:=h
 have hd:d.size=l.length:=by simpa using hp.1
 have hH2:=Go.Proofs.holdsK_sortWorldK_c DT 3 w1 b 0 l.toArray d n os hH hb (by simpa using hd)
 have hk:=je b 0 cap d _ hH2 (by omega) (by omega)
 rw[ADG hp hs,hd] at hk
 exact hk.mono fun e w3 ⟨h1,q,F,h2,h3,h4⟩=>⟨h1,q,F,h2,h3,h4⟩
theorem p_ (b cap:Nat) (l:List DVal) (w:World) (hH:Go.Sort.HoldsK DT 3 w b 0 l.toArray) (hb:b<w.heap.size) (hl:l.length≤1048576) :
  Calls prog 335 #[.slice (some ⟨b,0,none⟩) l.length cap,.func (.func 336) #[] #[]] w fun e w'=>e = .returned (.tuple #[])∧xG l b w w':=by
 have h:=AnyQ.slices_SortFunc xR 3 isAgg68 sizeOf68 DT (fun _=>rfl) (fun x v hv=>by
  simp only[DT,cZ,List.not_mem_nil,or_false] at hv
  rcases hv with rfl | rfl | rfl<;>rfl) uj AIH 336 #[] b 0 cap l.toArray w pq (ADI b 0 _ w) hH hb (by show l.length<_; omega)
 refine Calls.mono h ?_
 rintro e w' ⟨rfl,d,n,os,hp,hs,rfl⟩
 refine⟨rfl,d,n,os,hp,fun i j hij hj=>?_,rfl⟩
 have:=hs i j (ax _) hij (by rw[← hp.1]; exact hj)
 rwa [UR] at this
theorem zT {w:World} {b:Nat} {St:Nat→Nat→Prop} (l:List DVal) (F:Array Value) (hF:l.length*3≤F.size) (hSt:∀ o,o<l.length*3→St b o) (hc:∀ n,n<F.size→w.cell? ⟨b,n,none⟩=some F[n]!) (hv:∀ j,j<l.length→∀ c,c<3→F[j*3+c]! = (DT l[j]!)[c]!) (hw:∀ v∈l,Rq v.c):RdE w St (l.map DVal.c) b 0:=by
 refine RdE.mk 3 (fun x hx=>by obtain⟨v,_,rfl⟩:=WY.1 hx; rfl) fun i x hx=>?_
 have hi:i<l.length:=by
  have:=(az.1 hx).1
  simpa using this
 have hx':x=l[i].c:=by
  rw[lD,aA hi] at hx
  exact(rC hx).symm
 subst hx'
 refine RdL.mk fun j c hj=>?_
 have hj3:j<3:=(az.1 hj).1
 refine⟨hSt _ (by omega),(DT l[i])[j]!, ?_, ?_⟩
 ·rw[hc _ (by omega),Zj,hv i hi j hj3,getElem!_pos l i hi]
 ·have hwl:Rq [Cl.v (.int .i64 l[i].ty),Cl.v (.int .i64 l[i].n),Cl.v (.string l[i].s)]:=hw _ (aj hi)
  simp only[Rq,nZ,yY] at hwl
  rcases(show j=0∨j=1∨j=2 by omega) with rfl | rfl | rfl<;>cases hj<;>simp only[RdD]<;>refine⟨rfl, ?_⟩
  ·exact hwl.1
  ·exact hwl.2.1
  ·exact hwl.2.2
theorem qA {w w':World} {St St':Nat→Nat→Prop} {x:AV} {u:Value} (hb:Below w.heap.size w w') (h1:∀ b o,St b o→St' b o) (h2:∀ b o,St' b o→b<w.heap.size→St b o) (h3:∀ b o,St' b o→b<w'.heap.size) (hr:RdA w' St' x u):Back w St [.val x] (.returned u) w' [u] [none] St' where
 ret:=rfl
 below:=hb
 st:=h1
 stOld:=h2
 stIn:=h3
 res:=⟨[fun _ _=>False],⟨u,[],none,[],_,[],rfl,rfl,rfl,⟨hr,rfl⟩,rfl,rfl,rfl⟩,{
  nodup:=fun i j b hi=>by
   cases i with
   | zero=>simp at hi
   | succ i=>simp at hi
  fresh:=fun i Φ k x hi hx=>by
   cases i with
   | zero=>simp at hi; subst hi; exact hx.elim
   | succ i=>simp at hi
  dis:=fun i i' Φ Φ' k k' x hi _ hx=>by
   cases i with
   | zero=>simp at hi; subst hi; exact hx.elim
   | succ i=>simp at hi }⟩
theorem below_putRow (w:World) {b B:Nat} (q:Nat) (F:Array Value) (hB:B≤b):Below B w (Go.Sort.putRow id (Go.Sort.ahead w q) b 0 F):=
 ⟨rfl,rfl,rfl,by rw[Go.Sort.size_putRow]; exact aN _,fun k hk=>by
  show (w.heap.modify b _)[k]?=_
  rw[Array.getElem?_modify,aV (by omega)]⟩
theorem below_grow (w:World) {B:Nat} (os:Array Obj) (hB:B≤w.heap.size):Below B w (Go.Sort.grow w os):=
 ⟨rfl,rfl,rfl,by rw[Go.Sort.size_grow]; omega,fun k hk=>by
  show (w.heap++os)[k]?=_
  rw[zx (by omega)]⟩
theorem uX (l:List DVal) (hl:l.length≤1048576):Ctr prog 323 [.c (.sl (l.map DVal.c))] [.val (.c (.sl ((CG l).map DVal.c)))]:=by
 refine⟨call323,fun w St vs hSt hrd=>?_⟩
 obtain⟨u,vs',rfl,hu,hvs⟩:=hrd
 obtain rfl:vs' = []:=hvs
 have hcl:=Zu l hl w St u hSt hu
 have hwf:∀ v∈l,Rq v.c:=fun v hv=>by
  have h:=hu.wf
  simp only[WfA,nZ] at h
  exact XC h.2 _ (WY.2 ⟨v,hv,rfl⟩)
 clear hu
 by_cases hl0:l = []
 ·subst hl0
  clear hwf
  go_enter func323,ntmps323
  go_wp2_with (first | (go_at_call 141; refine hcl.mono ?_; rintro e w1 ⟨a,cap,rfl,q1,q2,q3,q4⟩) | (go_at_call 335; refine(AnyF.slices_SortFunc_none xR a cap _ _).mono ?_; rintro e w2 ⟨rfl,rfl⟩) | (go_at_call 337; refine(Zv a cap _).mono ?_; rintro e w3 ⟨rfl,rfl⟩))
  go_ret
  refine⟨[.slice a 0 cap],[none],St,qA q3 (fun _ _ h=>h) (fun _ _ h _=>h) (fun b o h=>bn (hSt b o h) q3.size) ?_⟩
  show RdD _ _ (.sl []) _
  simp only[RdD]
  exact⟨a,cap,rfl,ax _,q2,⟨0,fun x hx=>by cases hx⟩,by simp⟩
 ·have HF:Go.RowKit.Hid (∀ v∈l,Rq v.c):=hwf
  clear hwf
  have hcl2:Calls prog 141 #[u] w fun e w1=>∃ b cap,e = .returned (.slice (some ⟨b,0,none⟩) l.length cap)∧Go.RowKit.Hid (l.length≤cap∧cap≤maxLen∧Below w.heap.size w w1∧w.heap.size≤b∧b<w1.heap.size∧Go.Sort.HoldsK DT 3 w1 b 0 l.toArray):=hcl.mono fun e w1 ⟨a,cap,q0,q1,q2,q3,q4⟩=>by
   rcases q4 with q4 | ⟨b,rfl,q5,q6,q7⟩
   ·exact absurd q4 hl0
   ·exact⟨b,cap,q0,q1,q2,q3,q5,q6,q7⟩
  clear hcl
  go_enter func323,ntmps323
  go_wp2_with (first | (go_at_call 141; refine hcl2.mono ?_; rintro e w1 ⟨b,cap,rfl,HQ⟩) | (go_at_call 335; refine(p_ b cap l w1 HQ.out.2.2.2.2.2 HQ.out.2.2.2.2.1 hl).mono ?_; rintro e w2 ⟨rfl,HS⟩) | (go_at_call 337; refine(pz HQ.out.2.2.2.2.2 HQ.out.2.2.2.2.1 hl HQ.out.1 HS).mono ?_; rintro e w3 ⟨rfl,HC⟩))
  go_ret
  obtain⟨q1,q2,q3,q4,q5,q6⟩:=HQ.out
  obtain⟨d,n,os,hp,hs,rfl⟩:=HS
  obtain⟨q,F,rfl,hF,hv⟩:=HC
  have hd:d.size=l.length:=by simpa using hp.1
  have hH2:=Go.Proofs.holdsK_sortWorldK_c DT 3 w1 b 0 l.toArray d n os q6 q5 (by simpa using hd)
  have hsz2:=Go.Proofs.size_sortWorldK_c DT 3 w1 b 0 n d os
  have hdl:=Nr l
  have hB1:Below w.heap.size w1 (sortWorldK DT 3 w1 b 0 n d os):=by
   unfold sortWorldK
   have h1:=below_putRow w1 (B:=w.heap.size) n (Go.Sort.flatK DT 3 d) q4
   exact h1.trans (below_grow _ os (by show w.heap.size≤(Go.Sort.putRow id (Go.Sort.ahead w1 n) b 0 (Go.Sort.flatK DT 3 d)).heap.size; rw[Go.Sort.size_putRow]; exact q3.size))
  have hB2:=below_putRow (sortWorldK DT 3 w1 b 0 n d os) (B:=w.heap.size) q F q4
  have hB:=(q3.trans hB1).trans hB2
  have hsz3:(Go.Sort.putRow id (Go.Sort.ahead (sortWorldK DT 3 w1 b 0 n d os) q) b 0 F).heap.size=(sortWorldK DT 3 w1 b 0 n d os).heap.size:=by rw[Go.Sort.size_putRow]; rfl
  refine⟨[.slice (some ⟨b,0,none⟩) (CG l).length cap],[none],fun b' o=>St b' o∨(b'=b∧o<(CG l).length*3),qA hB (fun _ _ h=>.inl h) (fun b' o h hlt=>?_) (fun b' o h=>?_) ?_⟩
  ·rcases h with h | ⟨rfl,_⟩
   ·exact h
   ·omega
  ·rcases h with h | ⟨rfl,_⟩
   ·exact bn (hSt b' o h) hB.size
   ·rw[hsz3]; omega
  ·show RdD _ _ (.sl ((CG l).map DVal.c)) _
   simp only[RdD,ae]
   refine⟨_,cap,rfl,by omega,q2,⟨3,fun x hx=>by obtain⟨v,_,rfl⟩:=WY.1 hx; rfl⟩,.inr ⟨b,0,rfl, ?_⟩⟩
   refine zT (CG l) F (by omega) (fun o ho=>.inr ⟨rfl,ho⟩) (fun m hm=>pg hH2 (by simp[hF,hd]) (by simpa [hd,hF] using hm)) hv fun v hv=>HF.out v ((J5 l v).1 hv)
theorem jq (r:List (DVal×Int)) (hl:r.length≤1048576):Ctr prog 282 [.c (.sl (r.map EY))] [.val (.c (.sl ((spread r).map DVal.c)))]:=by
 refine CM call282 func282 ntmps282 results282 fun hw=>?_
 simp only[go_sem]
 refine LoopH.mk [6] (A:=Nat×List DVal) (fun x=>[(4,.c (.v (.int .i64 (x.1)))),(3,.c (.ref 0))]) (fun x=>[⟨68,3,x.2.map DVal.c,true,true⟩]) (fun x=>x.1≤r.length∧x.2.length≤64∧(Gz (r.drop x.1) x.2.length).map (fun y=>x.2++y)=Gz r 0) (fun x=>r.length-x.1) (0,[]) (Head.sel [(0,false)] ⟨rfl,rfl,rfl,trivial⟩ rfl) ⟨ax _,ax _,by simp⟩ ?_
 rintro⟨i,out⟩ ⟨hi,hll,hp⟩
 dsimp only at hi hll hp
 simp only[go_sem]
 refine cndC.mk (fun h=>?_) (fun h=>?_)
 ·have hi':i<r.length:=by simp at h; omega
  rw[Oc hi',show r[i]=(r[i].1,r[i].2) from rfl,Oa] at hp
  rcases h2:decide (r[i].2<1) with _ | _
  rotate_left
  ·rw[bz (.inl (by simpa using h2))] at hp
   simp only[di] at hp
   have e:spread r = []:=by rw[spread,← hp]; rfl
   rw[e]
   simp only[go_sem,AA _ hi',EY,h2,dh]
   try simp[Df]
  have h2':1≤r[i].2:=by simp at h2; omega
  have hw1:IntKind.i64.wrap (64-(out.length:Int))=64-(out.length:Int):=wrap_i64 (by omega) (by omega)
  rcases h3:decide (r[i].2>64-(out.length:Int)) with _ | _
  rotate_left
  ·rw[bz (.inr (by simpa using h3))] at hp
   simp only[di] at hp
   have e:spread r = []:=by rw[spread,← hp]; rfl
   rw[e]
   simp only[go_sem,AA _ hi',EY,h2,hw1,h3,dh]
   try simp[Df]
  have h3':r[i].2≤64-(out.length:Int):=by simp at h3; omega
  obtain⟨K,hK⟩:=aP (show 0≤r[i].2 by omega)
  rw[aV (by omega),hK,bY] at hp
  rw[hK] at h2 h3 h2' h3'
  simp only[go_sem,AA _ hi',EY,hK,h2,hw1,h3]
  refine LoopH.mk [25] (A:=Nat) (fun x=>[(5,.c (.v (.int .i64 (x)))),(3,.c (.ref 0))]) (fun x=>[⟨68,3,(out++List.replicate x r[i].1).map DVal.c,true,true⟩]) (fun x=>x≤K) (fun x=>K-x) 0 (Head.sel [(0,false)] ⟨rfl,rfl,OW _,trivial⟩ (by simp only[List.replicate_zero,bF]; rfl)) (ax _) ?_
  rintro j hj
  have hl2:out.length+j+1≤2147483648:=by omega
  simp only[go_sem,AA _ hi',EY,hK]
  refine cndC.mk (fun h=>?_) (fun h=>?_)
  ·have hj':j<K:=by simp at h; omega
   simp only[go_sem,AA _ hi',EY,hl2,qx,wrap_i64 (n:=(j:Int)+1) (by omega) (by omega)]
   exact⟨j+1,Head.sel [(2,false)] ⟨rfl,rfl,ABm _ _ _,trivial⟩ (by rw[pY]; rfl),hj',by omega⟩
  ·have hj':j=K:=by simp at h; omega
   subst hj'
   simp only[go_sem,EY,wrap_i64 (n:=(i:Int)+1) (by omega) (by omega)]
   exact⟨(i+1,out++List.replicate j r[i].1),Head.sel [(0,false)] ⟨rfl,rfl,OW _,trivial⟩ rfl,⟨hi',by simp; omega,by
    rw[← hp,yV,aW,qx]; congr 1; funext y; simp⟩,by simp only; omega⟩
 ·have hi':i=r.length:=by simp at h; omega
  subst hi'
  rw[aU] at hp
  simp only[Gz,bP,bF] at hp
  have e:spread r=out:=by rw[spread,← hp]; rfl
  rw[e]
  simp only[go_sem]
  try simp[AU,AO]
def VH (r:DVal×Int):List Int:=EM r.2++UB r.1
theorem SB (l:List DVal) (h:typeOf l≠0):ET l=EM (runs l).length++((runs l).map VH).flatten:=aV h
theorem ed {α:Type} (f:α→List Int) {l:List α} {i:Nat} (h:i<l.length):((l.take (i+1)).map f).flatten=((l.take i).map f).flatten++f l[i]:=by
 rw[aas h]
 simp only[Vp,aaP,XA,dh,bT,Zh,bF]
theorem P8 {α:Type} (f:α→List Int) (m:Nat):∀ (l:List α),(∀ x∈l,(f x).length≤m)→((l.map f).flatten).length≤m*l.length
 | [],_=>by simp
 | x::l,h=>by
  have h1:=h x (by simp)
  have h2:=P8 f m l fun y hy=>h y (by simp[hy])
  simp only[XA,bT,aW,bU,Nat.mul_add]
  omega
theorem RI (l:List DVal) (hl:l.length≤1048576):Ctr prog 296 [.c (.sl (l.map DVal.c))] [.own 5 1 ((ET l).map byteC) true]:=by
 refine CM call296 func296 ntmps296 results296 fun hw=>?_
 simp only[go_sem]
 refine CallK.mk _ (Bz l hl) fun _=>?_
 rcases h1:typeOf l==0 with _ | _
 rotate_left
 ·have h1':typeOf l=0:=by simpa using h1
  have e:ET l = []:=bz h1'
  rw[e]
  simp only[go_sem,h1]
  try simp[AU,AO,Df]
 have h1':typeOf l≠0:=by simpa using h1
 obtain⟨q1,q2,q3⟩:=Cc h1'
 rw[SB l h1']
 simp only[go_sem,h1]
 refine CallK.mk _ (uT l hl) fun _=>?_
 simp only[go_sem]
 refine CallK.mk _ (FI [] ((runs l).length:Int) (by simp)) fun _=>?_
 have hrl:=Nl l
 have hq:=DR ((runs l).length:Int)
 rw[JB (by simp[DX,Ac]; omega),aI]
 simp only[go_sem]
 refine LoopH.mk [7,14,17] (A:=Nat) (fun x=>[(20,.c (.v (.int .i64 (x)))),(3,.c (.ref 0))]) (fun x=>[⟨5,1,(EM (runs l).length++(((runs l).take x).map VH).flatten).map byteC,true,true⟩]) (fun x=>x≤(runs l).length) (fun x=>(runs l).length-x) 0 (Head.sel [(1,false)] ⟨rfl,rfl,EG _,trivial⟩ (by simp only[abj,dh,Zh,bF]; rfl)) (ax _) ?_
 rintro i hi
 simp only[go_sem]
 refine cndC.mk (fun h=>?_) (fun h=>?_)
 ·have hi':i<(runs l).length:=by simp at h; omega
  obtain⟨b1,b2,b3⟩:=J3 (aj hi')
  have hv:=(q3 _ b1).1
  have hn:DX (runs l)[i].2=true:=(DL _).2 ⟨by omega,by omega⟩
  have hfl:=P8 VH 12 ((runs l).take i) fun x hx=>by
   have hx':=J3 (yR hx)
   have h1:=DR x.2
   have h2:=UH (q3 _ hx'.1).1
   simp only[VH,aW]; omega
  rw[bC] at hfl
  have hq2:=DR (runs l)[i].2
  simp only[go_sem,AA _ hi',EY]
  refine DrawK.mkE ?_
  simp only[go_sem,AA _ hi',EY]
  refine CallE.mk _ (FI _ _ (by simp only[aW]; omega)) ?_
  rw[JB hn]
  simp only[go_sem,AA _ hi',EY]
  refine CallE.mk _ (OX _ (runs l)[i].1 (by simp only[aW]; omega)) ?_
  rw[Qn hv]
  simp only[go_sem,AA _ hi',EY,wrap_i64 (n:=(i:Int)+1) (by omega) (by omega)]
  exact⟨i+1,Head.sel [(3,false)] ⟨rfl,rfl,EG _,trivial⟩ (by rw[ed VH hi',VH]; simp only[bM]; rfl),hi',by omega⟩
 ·have hi':i=(runs l).length:=by simp at h; omega
  subst hi'
  simp only[go_sem,bG]
  try simp[AU,AO]
theorem RJ (l:List DVal) (hl:l.length≤1048576):Ctr prog 283 [.c (.sl (l.map DVal.c))] [.own 5 1 ((ET l).map byteC) true]:=by
 refine CM call283 func283 ntmps283 results283 fun hw=>?_
 simp only[go_sem]
 refine CallK.mk _ (D8 l hl) fun _=>?_
 rcases h1:typeOf l==0 with _ | _
 rotate_left
 ·have h1':typeOf l=0:=by simpa using h1
  have e:ET l = []:=bz h1'
  rw[e]
  simp only[go_sem,h1]
  try simp[AU,AO,Df]
 have h1':typeOf l≠0:=by simpa using h1
 obtain⟨q1,q2,q3⟩:=Cc h1'
 rw[SB l h1']
 simp only[go_sem,h1]
 refine CallK.mk _ (uU l hl) fun _=>?_
 simp only[go_sem]
 refine CallK.mk _ (JA [] ((runs l).length:Int) (by simp)) fun _=>?_
 have hrl:=Nl l
 have hq:=DR ((runs l).length:Int)
 rw[JB (by simp[DX,Ac]; omega),aI]
 simp only[go_sem]
 refine LoopH.mk [12,15] (A:=Nat) (fun x=>[(5,.c (.v (.int .i64 (x)))),(4,.c (.ref 0))]) (fun x=>[⟨5,1,(EM (runs l).length++(((runs l).take x).map VH).flatten).map byteC,true,true⟩]) (fun x=>x≤(runs l).length) (fun x=>(runs l).length-x) 0 (Head.sel [(1,false)] ⟨rfl,rfl,EG _,trivial⟩ (by simp only[abj,dh,Zh,bF]; rfl)) (ax _) ?_
 rintro i hi
 simp only[go_sem]
 refine cndC.mk (fun h=>?_) (fun h=>?_)
 ·have hi':i<(runs l).length:=by simp at h; omega
  obtain⟨b1,b2,b3⟩:=J3 (aj hi')
  have hv:=(q3 _ b1).1
  have hn:DX (runs l)[i].2=true:=(DL _).2 ⟨by omega,by omega⟩
  have hfl:=P8 VH 12 ((runs l).take i) fun x hx=>by
   have hx':=J3 (yR hx)
   have h1:=DR x.2
   have h2:=UH (q3 _ hx'.1).1
   simp only[VH,aW]; omega
  rw[bC] at hfl
  have hq2:=DR (runs l)[i].2
  simp only[go_sem,AA _ hi',EY]
  refine DrawK.mkE ?_
  simp only[go_sem,AA _ hi',EY]
  refine CallE.mk _ (JA _ _ (by simp only[aW]; omega)) ?_
  rw[JB hn]
  simp only[go_sem,AA _ hi',EY]
  refine CallE.mk _ (OY _ (runs l)[i].1 (by simp only[aW]; omega)) ?_
  rw[Qn hv]
  simp only[go_sem,AA _ hi',EY,wrap_i64 (n:=(i:Int)+1) (by omega) (by omega)]
  exact⟨i+1,Head.sel [(2,false)] ⟨rfl,rfl,EG _,trivial⟩ (by rw[ed VH hi',VH]; simp only[bM]; rfl),hi',by omega⟩
 ·have hi':i=(runs l).length:=by simp at h; omega
  subst hi'
  simp only[go_sem,bG]
  try simp[AU,AO]
theorem V9:∀ {r:List (DVal×Int)} {n:Nat} {l:List DVal},n≤64→Gz r n=some l→n+l.length≤64
 | [],n,l,hn,h=>by
  simp only[Gz,ah] at h
  subst h; simpa using hn
 | (v,k)::r,n,l,hn,h=>by
  rw[Oa] at h
  split at h
  ·cases h
  ·rename_i hk
   cases h2:Gz r (n+k.toNat) with
   | none=>rw[h2] at h; cases h
   | some l' =>
    rw[h2] at h
    simp only[bP,ah] at h
    subst h
    have:=V9 (by omega) h2
    simp only[aW,qx]; omega
theorem Yk (r:List (DVal×Int)):(spread r).length≤64:=by
 unfold spread
 cases h:Gz r 0 with
 | none=>simp
 | some l =>
  have:=V9 (ax _) h
  simpa using this
theorem jr (rs:List (DVal×Int)) (v:DVal) (m:Int):(rs ++ [(v,m)]).map EY=rs.map EY ++ [[.v (.int .i64 v.ty),.v (.int .i64 v.n),.v (.string v.s),.v (.int .i64 m)]]:=by simp[EY]
theorem AD8 (rs:List (DVal×Int)) (v:DVal) (m:Int):F5 (rs.map EY ++ [[.v (.int .i64 v.ty),.v (.int .i64 v.n),.v (.string v.s),.v (.int .i64 m)]])=true:=by rw[← jr]; exact Jb _
theorem Zw (b:List Int) (ty k:Int) (hb:AY b) (hl:b.length≤1048576):Ctr prog 271 [.c (.sl (b.map byteC)),.c (.v (.int .i64 (ty))),.c (.v (.int .i64 (k)))] (Cj (Dn b ty k)):=by
 refine CM call271 func271 ntmps271 results271 fun hw=>?_
 simp only[go_sem]
 have hg:=FH b 0 hb hl
 rcases h1:BN b 0 with _ | ⟨n,q⟩<;>rw[h1] at hg<;>simp only[UC] at hg
 ·have e:Dn b ty k=none:=by simp only[Dn,h1]
  rw[e]
  refine CallK.mk _ hg fun _=>?_
  simp only[go_sem,Cj]
 refine CallK.mk _ hg fun _=>?_
 simp only[go_sem]
 refine CallK.mk _ (AC _ _ _) fun _=>?_
 rcases h2:Ac n 1 64 with _ | _
 ·have e:Dn b ty k=none:=by simp only[Dn,h1]; exact aV (by simp[Ac] at h2; omega)
  rw[e]
  simp only[go_sem,h2,Cj]
 have h2':1≤n∧n≤64:=by simp[Ac] at h2; omega
 have hall:Dn b ty k=match IP b ty n.toNat q with
   | none=>none
   | some r=>again b k (spread r) (ET (spread r)):=by simp only[Dn,h1]; exact bz h2'
 simp only[go_sem,h2]
 obtain⟨N,rfl⟩:=aP (show 0≤n by omega)
 rw[bY] at hall
 refine LoopH.mk [32] (A:=Nat×Nat×List (DVal×Int)) (fun x=>[(12,.c (.v (.int .i64 (x.1)))),(11,.c (.ref 0)),(9,.c (.v (.int .i64 ((x.2.1:Int)))))]) (fun x=>[⟨279,4,x.2.2.map EY,true,true⟩]) (fun x=>x.1≤N∧x.2.2.length=x.1∧(IP b ty (N-x.1) x.2.1).map (fun y=>x.2.2++y)=IP b ty N q) (fun x=>N-x.1) (0,q,[]) (Head.sel [(0,false)] ⟨rfl,rfl,rfl,trivial⟩ rfl) ⟨ax _,rfl,by simp⟩ ?_
 rintro⟨i,p,r⟩ ⟨hi,hll,hp⟩
 dsimp only at hi hll hp
 simp only[go_sem]
 refine cndC.mk (fun h=>?_) (fun h=>?_)
 ·have hi':i<N:=by simp at h; omega
  rw[show N-i=(N-(i+1))+1 by omega,IP] at hp
  have hg2:=FH b p hb hl
  simp only[go_sem]
  rcases h3:BN b p with _ | ⟨m,p2⟩<;>rw[h3] at hg2 hp<;>simp only[UC] at hg2
  ·refine CallK.mk _ hg2 fun _=>?_
   simp only[di] at hp
   rw[hall,← hp]
   simp only[go_sem,Cj]
  refine CallK.mk _ hg2 fun _=>?_
  have hg3:=UG b p2 ty hb hl
  simp only[go_sem]
  rcases h4:Ec b p2 ty with _ | ⟨v,p3⟩<;>rw[h4] at hg3<;>simp only[h4] at hp<;>simp only[Yf] at hg3
  ·refine CallK.mk _ hg3 fun _=>?_
   simp only[di] at hp
   rw[hall,← hp]
   simp only[go_sem,Cj]
  refine CallK.mk _ hg3 fun _=>?_
  have hl2:r.length+1≤2147483648:=by omega
  simp only[go_sem,hl2,wrap_i64 (n:=(i:Int)+1) (by omega) (by omega)]
  exact⟨(i+1,p3,r ++ [(v,m)]),Head.sel [(3,false)] ⟨rfl,rfl,AD8 _ _ _,trivial⟩ (by rw[jr]; rfl),⟨hi',by simp; omega,by rw[← hp,yV]; congr 1; funext y; simp⟩,by simp only; omega⟩
 ·have hi':i=N:=by simp at h; omega
  subst hi'
  rw[dM,IP] at hp
  simp only[bP,bF] at hp
  rw[hall,← hp]
  simp only[go_sem,Jb]
  refine CallK.mk _ (jo r (by omega)) fun _=>?_
  simp only[go_sem]
  have hsl:(spread r).length≤1048576:=by have:=Yk r; omega
  refine CallK.mk _ (RI (spread r) hsl) fun _=>?_
  simp only[go_sem]
  refine CallK.mk _ (Bh b k (spread r) (ET (spread r))) fun _=>?_
  rcases h4:again b k (spread r) (ET (spread r)) with _ | l'<;>simp only[go_sem,Cj]
theorem Zx (b:List Int) (ty k:Int) (hb:AY b) (hl:b.length≤1048576):Ctr prog 262 [.c (.sl (b.map byteC)),.c (.v (.int .i64 (ty))),.c (.v (.int .i64 (k)))] (Cj (Dn b ty k)):=by
 refine CM call262 func262 ntmps262 results262 fun hw=>?_
 simp only[go_sem]
 have hg:=FD b 0 hb hl
 rcases h1:BN b 0 with _ | ⟨n,q⟩<;>rw[h1] at hg<;>simp only[UC] at hg
 ·have e:Dn b ty k=none:=by simp only[Dn,h1]
  rw[e]
  refine CallK.mk _ hg fun _=>?_
  simp only[go_sem,Cj]
  try simp[Df]
 refine CallK.mk _ hg fun _=>?_
 simp only[go_sem]
 refine CallK.mk _ (AL _ _ _) fun _=>?_
 have hkn:¬ (1≤k∧k≤64)→Dn b ty k=none:=fun hk=>by
  simp only[Dn,h1]
  split
  ·split
   ·rfl
   ·exact aV fun q=>hk ⟨q.1,q.2.1⟩
  ·rfl
 rcases h2:Ac k 1 64 with _ | _
 ·rw[hkn (by simp[Ac] at h2; omega)]
  simp only[go_sem,h2,Cj]
  try simp[Df]
 simp only[go_sem,h2]
 refine CallK.mk _ (AL _ _ _) fun _=>?_
 have hk:1≤k∧k≤64:=by simp[Ac] at h2; omega
 rcases h3:Ac n 1 64 with _ | _
 ·have e:Dn b ty k=none:=by simp only[Dn,h1]; exact aV (by simp[Ac] at h3; omega)
  rw[e]
  simp only[go_sem,h3,Cj]
  try simp[Df]
 have h3':1≤n∧n≤64:=by simp[Ac] at h3; omega
 have hall:Dn b ty k=match IP b ty n.toNat q with
   | none=>none
   | some r=>again b k (spread r) (ET (spread r)):=by simp only[Dn,h1]; exact bz h3'
 simp only[go_sem,h3]
 obtain⟨N,rfl⟩:=aP (show 0≤n by omega)
 rw[bY] at hall
 refine LoopH.mk [41] (A:=Nat×Nat×List (DVal×Int)) (fun x=>[(13,.c (.v (.int .i64 (x.1)))),(12,.c (.ref 1)),(10,.c (.v (.int .i64 ((x.2.1:Int)))))]) (fun x=>[⟨68,3,[],true,true⟩,⟨279,4,x.2.2.map EY,true,true⟩]) (fun x=>x.1≤N∧x.2.2.length=x.1∧(IP b ty (N-x.1) x.2.1).map (fun y=>x.2.2++y)=IP b ty N q) (fun x=>N-x.1) (0,q,[]) (Head.sel [(0,false),(1,false)] ⟨rfl,rfl,rfl,rfl,trivial⟩ rfl) ⟨ax _,rfl,by simp⟩ ?_
 rintro⟨i,p,r⟩ ⟨hi,hll,hp⟩
 dsimp only at hi hll hp
 simp only[go_sem]
 refine cndC.mk (fun h=>?_) (fun h=>?_)
 ·have hi':i<N:=by simp at h; omega
  rw[show N-i=(N-(i+1))+1 by omega,IP] at hp
  have hg2:=FD b p hb hl
  simp only[go_sem]
  rcases h4:BN b p with _ | ⟨m,p2⟩<;>rw[h4] at hg2 hp<;>simp only[UC] at hg2
  ·refine CallK.mk _ hg2 fun _=>?_
   simp only[di] at hp
   rw[hall,← hp]
   have hg3:=Kt b 0 ty hb hl
   simp only[go_sem]
   rcases h5:Ec b 0 ty with _ | ⟨v,p3⟩<;>rw[h5] at hg3<;>simp only[Yf] at hg3
   ·refine CallK.mk _ hg3 fun _=>?_
    simp only[go_sem,Cj]
   ·refine CallK.mk _ hg3 fun _=>?_
    simp only[go_sem,Cj]
  refine CallK.mk _ hg2 fun _=>?_
  have hg3:=Kt b p2 ty hb hl
  simp only[go_sem]
  rcases h5:Ec b p2 ty with _ | ⟨v,p3⟩<;>rw[h5] at hg3<;>simp only[h5] at hp<;>simp only[Yf] at hg3
  ·refine CallK.mk _ hg3 fun _=>?_
   simp only[di] at hp
   rw[hall,← hp]
   simp only[go_sem,Cj]
  refine CallK.mk _ hg3 fun _=>?_
  have hl2:r.length+1≤2147483648:=by omega
  simp only[go_sem,hl2,wrap_i64 (n:=(i:Int)+1) (by omega) (by omega)]
  exact⟨(i+1,p3,r ++ [(v,m)]),Head.sel [(0,false),(4,false)] ⟨rfl,rfl,rfl,AD8 _ _ _,trivial⟩ (by rw[jr]; rfl),⟨hi',by simp; omega,by rw[← hp,yV]; congr 1; funext y; simp⟩,by simp only; omega⟩
 ·have hi':i=N:=by simp at h; omega
  subst hi'
  rw[dM,IP] at hp
  simp only[bP,bF] at hp
  rw[hall,← hp]
  simp only[go_sem,Jb]
  refine CallK.mk _ (jq r (by omega)) fun _=>?_
  simp only[go_sem]
  have hsl:(spread r).length≤1048576:=by have:=Yk r; omega
  rcases h5:((spread r).length:Int) != k with _ | _
  rotate_left
  ·have e:again b k (spread r) (ET (spread r))=none:=aV fun q=>by simp at h5; exact h5 q.2.2.1
   simp only[go_sem,h5,e,Cj]
  have h5':((spread r).length:Int)=k:=by simpa using h5
  simp only[go_sem,h5]
  refine CallK.mk _ (RJ (spread r) hsl) fun _=>?_
  simp only[go_sem]
  refine CallK.mk _ (Hq (ET (spread r)) b) fun _=>?_
  rcases h6:decide (ET (spread r)=b) with _ | _
  ·have e:again b k (spread r) (ET (spread r))=none:=aV fun q=>by simp at h6; exact h6 q.2.2.2.symm
   simp only[go_sem,h5,h6,e,Cj]
  ·have e:again b k (spread r) (ET (spread r))=some (spread r):=bz ⟨hk.1,hk.2,h5',by simp at h6; exact h6.symm⟩
   simp only[go_sem,h5,h6,e,Cj]
end Go.Proofs.YtnfbaclikokapaaGreat
