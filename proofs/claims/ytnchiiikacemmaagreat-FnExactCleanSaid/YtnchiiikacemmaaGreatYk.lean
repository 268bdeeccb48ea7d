/- A part. -/
import Derived.Test.YtnchiiikacemmaaGreatYa
import Derived.Test.YtnchiiikacemmaaGreatYl
import Derived.Test.YtnchiiikacemmaaGreatYh
set_option linter.unusedSimpArgs false
set_option linter.unusedVariables false
set_option maxHeartbeats 4000000
set_option maxRecDepth 100000
open Go.Proofs.Tryz
namespace Go.Proofs.YtnchiiikacemmaaGreat
open Go.Vm Go.RowKit
theorem Yt {w:World} {b:Nat} {l:List DVal} {cs:Array Value} {ty:TypeId} (hb:w.heap[b]?=some (.cells cs ty (0,0))) (hc:∀ (k:Nat) (c:Cl),(l.map DVal.c).flatten[k]?=some c→∃ y,cs[k]?=some y∧c = .v y) :
  Go.Sort.HoldsK Dc 3 w b 0 l.toArray:=by
 intro t ht
 have ht':t<l.length*3:=by simpa using ht
 have hk:t/3<l.length:=by omega
 have hr:(l.map DVal.c)[t/3]?=some l[t/3].c:=by simp[hk]
 have hlen:∀ x∈l.map DVal.c,x.length=3:=fun x hx=>by
  obtain⟨v,_,rfl⟩:=RX.1 hx
  rfl
 have h3:t%3<3:=Nat.mod_lt _ (by omega)
 have he:(Dc l.toArray[t/3]!)[t%3]! = (Dc l[t/3])[t%3]!:=by simp[hk]
 rw[Go.Sort.get_flatK _ _ _ _ (by simpa using ht'),he,oJ]
 have hc1:∃ y,l[t/3].c[t%3]?=some (.v y)∧(Dc l[t/3])[t%3]! = y:=by
  rcases(show t%3=0∨t%3=1∨t%3=2 by omega) with e | e | e<;>rw[e]<;>exact⟨_,rfl,rfl⟩
 obtain⟨y,hy1,hy2⟩:=hc1
 have hf:=GX hlen (t/3) (t%3) _ _ hr hy1
 rw[show t/3*3+t%3=t by omega] at hf
 obtain⟨z,hz1,hz2⟩:=hc t _ hf
 cases hz2
 rw[hy2]
 constructor
 ·show (match w.heap[b]? with | some (.cells cs _ _)=>cs[t]? | _=>none)=some y
  rw[hb]; exact hz1
 ·show (match w.heap[b]? with | some (.cells _ _ (lo,hi))=>decide (lo≤t)&&decide (t<hi) | _=>false)=false
  rw[hb]; simp
theorem qN {w:World} {b q:Nat} {F:Array Value} {n:Nat} (h:Go.Sort.Holds id w b 0 F) {G:Array Value} (hs:G.size=F.size) (hn:n<F.size):(Go.Sort.putRow id (Go.Sort.ahead w q) b 0 G).cell? ⟨b,n,none⟩=some G[n]!:=by
 have:=(Go.Sort.holds_putRow id (Go.Sort.ahead w q) b 0 F G (Go.Sort.holds_ahead id w q b 0 F h) hs n (by omega)).1
 rwa [oJ] at this
theorem Z9 (l:List DVal) (hl:l.length≤1048576) (w:World) (St:Nat→Nat→Prop) (u:Value) (hSt:∀ b o,St b o→b<w.heap.size) (hu:RdA w St (.c (.sl (l.map DVal.c))) u) :
  Calls prog 180 #[u] w fun e w1=>∃ a cap,e = .returned (.slice a l.length cap)∧l.length≤cap∧cap≤maxLen∧Below w.heap.size w w1∧(l = []∨∃ b,a=some ⟨b,0,none⟩∧w.heap.size≤b∧b<w1.heap.size∧Go.Sort.HoldsK Dc 3 w1 b 0 l.toArray):=by
 refine((Ff l hl).2 w St [u] hSt ⟨u,[],rfl,hu,rfl⟩).mono ?_
 rintro e w1 ⟨us,bs,St1,hb⟩
 obtain⟨Φs,hR,_⟩:=hb.res
 obtain⟨u1,us',b1,bs',Φ,Φs',rfl,rfl,rfl,h1,h2,_,_⟩:=hR
 subst h2
 have hret:=hb.ret
 cases b1 with
 | none =>
  obtain⟨rfl,h3⟩:=h1
  have:l = []:=by simpa using h3
  subst this
  exact⟨none,0,hret,aK _,ak _,hb.below,.inl rfl⟩
 | some b =>
  obtain⟨g1,g2,g3,g4,cap,cs,rfl,g5,g6,g7,g8,g9⟩:=h1
  rw[ae] at g5
  refine⟨_,cap,by rw[hret]; simp[TS],g5,g6,hb.below,.inr ⟨b,rfl,g1,g2,Yt g7 fun k c hc=>?_⟩⟩
  obtain⟨y,hy1,hy2⟩:=g9 k c hc
  have hm:=aZ hc
  obtain⟨r,hr,hcr⟩:=aa5.1 hm
  obtain⟨v,_,rfl⟩:=RX.1 hr
  have hcr:c∈ [Cl.v (.int .i64 v.ty),Cl.v (.int .i64 v.n),Cl.v (.string v.s)]:=hcr
  simp only[bW,List.not_mem_nil,or_false] at hcr
  rcases hcr with rfl | rfl | rfl<;>simp only[RdO] at hy2<;>exact⟨_,hy1,by rw[hy2.1]⟩
theorem qO:∀ args w,(callFunc 331 args).run prog w = .ok (.enter 331 args) w:=call331
theorem Z_ (a:Option Addr) (cap:Nat) (w:World):Calls prog 332 #[.slice a 0 cap] w fun e w'=>e = .returned (.slice a 0 cap)∧w'=w:=by
 go_enter func332,ntmps332
 go_wp2
 go_ret
 exact⟨rfl,rfl⟩
def xx (l:List DVal) (b:Nat) (w w':World):Prop:=∃ d n os,Go.Sort.PermIn 0 l.length l.toArray d∧(∀ i j,i<j→j<d.size→EP d[j]! d[i]! = false)∧w'=sortWorldK Dc 3 w b 0 n d os
def vG (l:List DVal) (b:Nat) (w w':World):Prop:=∃ q F,w'=Go.Sort.putRow id (Go.Sort.ahead w q) b 0 F∧F.size=l.length*3∧∀ j,j<(CO l).length→∀ c,c<3→F[j*3+c]! = (Dc (CO l)[j]!)[c]!
theorem qP {l:List DVal} {b cap:Nat} {w1 w2:World} (hH:Go.Sort.HoldsK Dc 3 w1 b 0 l.toArray) (hb:b<w1.heap.size) (hl:l.length≤1048576) (hc:l.length≤cap) (h:xx l b w1 w2) :
  Calls prog 332 #[.slice (some ⟨b,0,none⟩) l.length cap] w2 fun e w3=>e = .returned (.slice (some ⟨b,0,none⟩) (CO l).length cap)∧vG l b w2 w3:=by
 obtain⟨d,n,os,hp,hs,rfl⟩:=h
 have hd:d.size=l.length:=by simpa using hp.1
 have hH2:=Go.Proofs.holdsK_sortWorldK_c Dc 3 w1 b 0 l.toArray d n os hH hb (by simpa using hd)
 have hk:=jw b 0 cap d _ hH2 (by omega) (by omega)
 rw[ADZ hp hs,hd] at hk
 exact hk.mono fun e w3 ⟨h1,q,F,h2,h3,h4⟩=>⟨h1,q,F,h2,h3,h4⟩
theorem qQ (b cap:Nat) (l:List DVal) (w:World) (hH:Go.Sort.HoldsK Dc 3 w b 0 l.toArray) (hb:b<w.heap.size) (hl:l.length≤1048576) :
  Calls prog 330 #[.slice (some ⟨b,0,none⟩) l.length cap,.func (.func 331) #[] #[]] w fun e w'=>e = .returned (.tuple #[])∧xx l b w w':=by
 have h:=AnyQ.slices_SortFunc yH 3 isAgg119 sizeOf119 Dc (fun _=>rfl) (fun x v hv=>by
  simp only[Dc,bW,List.not_mem_nil,or_false] at hv
  rcases hv with rfl | rfl | rfl<;>rfl) vS AIS 331 #[] b 0 cap l.toArray w qO (ADb b 0 _ w) hH hb (by show l.length<_; omega)
 refine Calls.mono h ?_
 rintro e w' ⟨rfl,d,n,os,hp,hs,rfl⟩
 refine⟨rfl,d,n,os,hp,fun i j hij hj=>?_,rfl⟩
 have:=hs i j (ak _) hij (by rw[← hp.1]; exact hj)
 rwa [UX] at this
theorem AAD {w:World} {b:Nat} {St:Nat→Nat→Prop} (l:List DVal) (F:Array Value) (hF:l.length*3≤F.size) (hSt:∀ o,o<l.length*3→St b o) (hc:∀ n,n<F.size→w.cell? ⟨b,n,none⟩=some F[n]!) (hv:∀ j,j<l.length→∀ c,c<3→F[j*3+c]! = (Dc l[j]!)[c]!) (hw:∀ v∈l,TN v.c):RdE w St (l.map DVal.c) b 0:=by
 refine RdE.mk 3 (fun x hx=>by obtain⟨v,_,rfl⟩:=RX.1 hx; rfl) fun i x hx=>?_
 have hi:i<l.length:=by
  have:=(ay.1 hx).1
  simpa using this
 have hx':x=l[i].c:=by
  rw[lS,aA hi] at hx
  exact(XK hx).symm
 subst hx'
 refine RdL.mk fun j c hj=>?_
 have hj3:j<3:=(ay.1 hj).1
 refine⟨hSt _ (by omega),(Dc l[i])[j]!, ?_, ?_⟩
 ·rw[hc _ (by omega),oJ,hv i hi j hj3,getElem!_pos l i hi]
 ·have hwl:TN [Cl.v (.int .i64 l[i].ty),Cl.v (.int .i64 l[i].n),Cl.v (.string l[i].s)]:=hw _ (aj hi)
  simp only[TN,oU,zK] at hwl
  rcases(show j=0∨j=1∨j=2 by omega) with rfl | rfl | rfl<;>cases hj<;>simp only[RdD]<;>refine⟨rfl, ?_⟩
  ·exact hwl.1
  ·exact hwl.2.1
  ·exact hwl.2.2
theorem qR {w w':World} {St St':Nat→Nat→Prop} {x:AV} {u:Value} (hb:Below w.heap.size w w') (h1:∀ b o,St b o→St' b o) (h2:∀ b o,St' b o→b<w.heap.size→St b o) (h3:∀ b o,St' b o→b<w'.heap.size) (hr:RdA w' St' x u):Back w St [.val x] (.returned u) w' [u] [none] St' where
 ret:=rfl
 below:=hb
 st:=h1
 stOld:=h2
 stIn:=h3
 res:=⟨[fun _ _=>False],⟨u,[],none,[],_,[],rfl,rfl,rfl,⟨hr,rfl⟩,rfl,rfl,rfl⟩,{
  nodup:=fun i j b hi=>by
   cases i with
   | zero=>simp at hi
   | succ i=>simp at hi
  fresh:=fun i Φ k x hi hx=>by
   cases i with
   | zero=>simp at hi; subst hi; exact hx.elim
   | succ i=>simp at hi
  dis:=fun i i' Φ Φ' k k' x hi _ hx=>by
   cases i with
   | zero=>simp at hi; subst hi; exact hx.elim
   | succ i=>simp at hi }⟩
theorem below_putRow (w:World) {b B:Nat} (q:Nat) (F:Array Value) (hB:B≤b):Below B w (Go.Sort.putRow id (Go.Sort.ahead w q) b 0 F):=
 ⟨rfl,rfl,rfl,by rw[Go.Sort.size_putRow]; exact aK _,fun k hk=>by
  show (w.heap.modify b _)[k]?=_
  rw[Array.getElem?_modify,aV (by omega)]⟩
theorem below_grow (w:World) {B:Nat} (os:Array Obj) (hB:B≤w.heap.size):Below B w (Go.Sort.grow w os):=
 ⟨rfl,rfl,rfl,by rw[Go.Sort.size_grow]; omega,fun k hk=>by
  show (w.heap++os)[k]?=_
  rw[wZ (by omega)]⟩
theorem vH (l:List DVal) (hl:l.length≤1048576):Ctr prog 318 [.c (.sl (l.map DVal.c))] [.val (.c (.sl ((CO l).map DVal.c)))]:=by
 refine⟨call318,fun w St vs hSt hrd=>?_⟩
 obtain⟨u,vs',rfl,hu,hvs⟩:=hrd
 obtain rfl:vs' = []:=hvs
 have hcl:=Z9 l hl w St u hSt hu
 have hwf:∀ v∈l,TN v.c:=fun v hv=>by
  have h:=hu.wf
  simp only[WfA,oU] at h
  exact XO h.2 _ (RX.2 ⟨v,hv,rfl⟩)
 clear hu
 by_cases hl0:l = []
 ·subst hl0
  clear hwf
  go_enter func318,ntmps318
  go_wp2_with (first | (go_at_call 180; refine hcl.mono ?_; rintro e w1 ⟨a,cap,rfl,q1,q2,q3,q4⟩) | (go_at_call 330; refine(AnyF.slices_SortFunc_none yH a cap _ _).mono ?_; rintro e w2 ⟨rfl,rfl⟩) | (go_at_call 332; refine(Z_ a cap _).mono ?_; rintro e w3 ⟨rfl,rfl⟩))
  go_ret
  refine⟨[.slice a 0 cap],[none],St,qR q3 (fun _ _ h=>h) (fun _ _ h _=>h) (fun b o h=>bI (hSt b o h) q3.size) ?_⟩
  show RdD _ _ (.sl []) _
  simp only[RdD]
  exact⟨a,cap,rfl,ak _,q2,⟨0,fun x hx=>by cases hx⟩,by simp⟩
 ·have HF:Go.RowKit.Hid (∀ v∈l,TN v.c):=hwf
  clear hwf
  have hcl2:Calls prog 180 #[u] w fun e w1=>∃ b cap,e = .returned (.slice (some ⟨b,0,none⟩) l.length cap)∧Go.RowKit.Hid (l.length≤cap∧cap≤maxLen∧Below w.heap.size w w1∧w.heap.size≤b∧b<w1.heap.size∧Go.Sort.HoldsK Dc 3 w1 b 0 l.toArray):=hcl.mono fun e w1 ⟨a,cap,q0,q1,q2,q3,q4⟩=>by
   rcases q4 with q4 | ⟨b,rfl,q5,q6,q7⟩
   ·exact absurd q4 hl0
   ·exact⟨b,cap,q0,q1,q2,q3,q5,q6,q7⟩
  clear hcl
  go_enter func318,ntmps318
  go_wp2_with (first | (go_at_call 180; refine hcl2.mono ?_; rintro e w1 ⟨b,cap,rfl,HQ⟩) | (go_at_call 330; refine(qQ b cap l w1 HQ.out.2.2.2.2.2 HQ.out.2.2.2.2.1 hl).mono ?_; rintro e w2 ⟨rfl,HS⟩) | (go_at_call 332; refine(qP HQ.out.2.2.2.2.2 HQ.out.2.2.2.2.1 hl HQ.out.1 HS).mono ?_; rintro e w3 ⟨rfl,HC⟩))
  go_ret
  obtain⟨q1,q2,q3,q4,q5,q6⟩:=HQ.out
  obtain⟨d,n,os,hp,hs,rfl⟩:=HS
  obtain⟨q,F,rfl,hF,hv⟩:=HC
  have hd:d.size=l.length:=by simpa using hp.1
  have hH2:=Go.Proofs.holdsK_sortWorldK_c Dc 3 w1 b 0 l.toArray d n os q6 q5 (by simpa using hd)
  have hsz2:=Go.Proofs.size_sortWorldK_c Dc 3 w1 b 0 n d os
  have hdl:=NP l
  have hB1:Below w.heap.size w1 (sortWorldK Dc 3 w1 b 0 n d os):=by
   unfold sortWorldK
   have h1:=below_putRow w1 (B:=w.heap.size) n (Go.Sort.flatK Dc 3 d) q4
   exact h1.trans (below_grow _ os (by show w.heap.size≤(Go.Sort.putRow id (Go.Sort.ahead w1 n) b 0 (Go.Sort.flatK Dc 3 d)).heap.size; rw[Go.Sort.size_putRow]; exact q3.size))
  have hB2:=below_putRow (sortWorldK Dc 3 w1 b 0 n d os) (B:=w.heap.size) q F q4
  have hB:=(q3.trans hB1).trans hB2
  have hsz3:(Go.Sort.putRow id (Go.Sort.ahead (sortWorldK Dc 3 w1 b 0 n d os) q) b 0 F).heap.size=(sortWorldK Dc 3 w1 b 0 n d os).heap.size:=by rw[Go.Sort.size_putRow]; rfl
  refine⟨[.slice (some ⟨b,0,none⟩) (CO l).length cap],[none],fun b' o=>St b' o∨(b'=b∧o<(CO l).length*3),qR hB (fun _ _ h=>.inl h) (fun b' o h hlt=>?_) (fun b' o h=>?_) ?_⟩
  ·rcases h with h | ⟨rfl,_⟩
   ·exact h
   ·omega
  ·rcases h with h | ⟨rfl,_⟩
   ·exact bI (hSt b' o h) hB.size
   ·rw[hsz3]; omega
  ·show RdD _ _ (.sl ((CO l).map DVal.c)) _
   simp only[RdD,ae]
   refine⟨_,cap,rfl,by omega,q2,⟨3,fun x hx=>by obtain⟨v,_,rfl⟩:=RX.1 hx; rfl⟩,.inr ⟨b,0,rfl, ?_⟩⟩
   refine AAD (CO l) F (by omega) (fun o ho=>.inr ⟨rfl,ho⟩) (fun m hm=>qN hH2 (by simp[hF,hd]) (by simpa [hd,hF] using hm)) hv fun v hv=>HF.out v ((Jw l v).1 hv)
theorem kJ (r:List (DVal×Int)) (hl:r.length≤1048576):Ctr prog 277 [.c (.sl (r.map Gf))] [.val (.c (.sl ((spread r).map DVal.c)))]:=by
 refine CM call277 func277 ntmps277 results277 fun hw=>?_
 simp only[go_sem]
 refine LoopH.mk [6] (A:=Nat×List DVal) (fun x=>[(4,.c (.v (.int .i64 (x.1)))),(3,.c (.ref 0))]) (fun x=>[⟨119,3,x.2.map DVal.c,true,true⟩]) (fun x=>x.1≤r.length∧x.2.length≤64∧(G9 (r.drop x.1) x.2.length).map (fun y=>x.2++y)=G9 r 0) (fun x=>r.length-x.1) (0,[]) (Head.sel [(0,false)] ⟨rfl,rfl,rfl,trivial⟩ rfl) ⟨ak _,ak _,by simp⟩ ?_
 rintro⟨i,out⟩ ⟨hi,hll,hp⟩
 dsimp only at hi hll hp
 simp only[go_sem]
 refine cndC.mk (fun h=>?_) (fun h=>?_)
 ·have hi':i<r.length:=by simp at h; omega
  rw[OM hi',show r[i]=(r[i].1,r[i].2) from rfl,OL] at hp
  rcases h2:decide (r[i].2<1) with _ | _
  rotate_left
  ·rw[aX (.inl (by simpa using h2))] at hp
   simp only[dm] at hp
   have e:spread r = []:=by rw[spread,← hp]; rfl
   rw[e]
   simp only[go_sem,AA _ hi',Gf,h2,cZ]
   try simp[FT]
  have h2':1≤r[i].2:=by simp at h2; omega
  have hw1:IntKind.i64.wrap (64-(out.length:Int))=64-(out.length:Int):=wrap_i64 (by omega) (by omega)
  rcases h3:decide (r[i].2>64-(out.length:Int)) with _ | _
  rotate_left
  ·rw[aX (.inr (by simpa using h3))] at hp
   simp only[dm] at hp
   have e:spread r = []:=by rw[spread,← hp]; rfl
   rw[e]
   simp only[go_sem,AA _ hi',Gf,h2,hw1,h3,cZ]
   try simp[FT]
  have h3':r[i].2≤64-(out.length:Int):=by simp at h3; omega
  obtain⟨K,hK⟩:=aP (show 0≤r[i].2 by omega)
  rw[aV (by omega),hK,bV] at hp
  rw[hK] at h2 h3 h2' h3'
  simp only[go_sem,AA _ hi',Gf,hK,h2,hw1,h3]
  refine LoopH.mk [25] (A:=Nat) (fun x=>[(5,.c (.v (.int .i64 (x)))),(3,.c (.ref 0))]) (fun x=>[⟨119,3,(out++List.replicate x r[i].1).map DVal.c,true,true⟩]) (fun x=>x≤K) (fun x=>K-x) 0 (Head.sel [(0,false)] ⟨rfl,rfl,OG _,trivial⟩ (by simp only[List.replicate_zero,bz]; rfl)) (ak _) ?_
  rintro j hj
  have hl2:out.length+j+1≤2147483648:=by omega
  simp only[go_sem,AA _ hi',Gf,hK]
  refine cndC.mk (fun h=>?_) (fun h=>?_)
  ·have hj':j<K:=by simp at h; omega
   simp only[go_sem,AA _ hi',Gf,hl2,abp,wrap_i64 (n:=(j:Int)+1) (by omega) (by omega)]
   exact⟨j+1,Head.sel [(2,false)] ⟨rfl,rfl,AB0 _ _ _,trivial⟩ (by rw[qM]; rfl),hj',by omega⟩
  ·have hj':j=K:=by simp at h; omega
   subst hj'
   simp only[go_sem,wrap_i64 (n:=(i:Int)+1) (by omega) (by omega)]
   exact⟨(i+1,out++List.replicate j r[i].1),Head.sel [(0,false)] ⟨rfl,rfl,OG _,trivial⟩ rfl,⟨hi',by simp; omega,by
    rw[← hp,zI,aT,abp]; congr 1; funext y; simp⟩,by simp only; omega⟩
 ·have hi':i=r.length:=by simp at h; omega
  subst hi'
  rw[aO] at hp
  simp only[G9,bU,bz] at hp
  have e:spread r=out:=by rw[spread,← hp]; rfl
  rw[e]
  simp only[go_sem]
  try simp[BX,AY]
def VH (r:DVal×Int):List Int:=EO r.2++UG r.1
theorem Rw (l:List DVal) (h:typeOf l≠0):EZ l=EO (runs l).length++((runs l).map VH).flatten:=aV h
theorem fF {α:Type} (f:α→List Int) {l:List α} {i:Nat} (h:i<l.length):((l.take (i+1)).map f).flatten=((l.take i).map f).flatten++f l[i]:=by
 rw[aau h]
 simp only[Uz,zF,V3,cZ,bM,lT,bz]
theorem Pg {α:Type} (f:α→List Int) (m:Nat):∀ (l:List α),(∀ x∈l,(f x).length≤m)→((l.map f).flatten).length≤m*l.length
 | [],_=>by simp
 | x::l,h=>by
  have h1:=h x (by simp)
  have h2:=Pg f m l fun y hy=>h y (by simp[hy])
  simp only[V3,bM,aT,bY,Nat.mul_add]
  omega
theorem Q3 (l:List DVal) (hl:l.length≤1048576):Ctr prog 291 [.c (.sl (l.map DVal.c))] [.own 5 1 ((EZ l).map byteC) true]:=by
 refine CM call291 func291 ntmps291 results291 fun hw=>?_
 simp only[go_sem]
 refine CallK.mk _ (CB l hl) fun _=>?_
 rcases h1:typeOf l==0 with _ | _
 rotate_left
 ·have h1':typeOf l=0:=by simpa using h1
  have e:EZ l = []:=aX h1'
  rw[e]
  simp only[go_sem,h1]
  try simp
 have h1':typeOf l≠0:=by simpa using h1
 obtain⟨q1,q2,q3⟩:=Cf h1'
 rw[Rw l h1']
 simp only[go_sem,h1]
 refine CallK.mk _ (vC l hl) fun _=>?_
 simp only[go_sem]
 refine CallK.mk _ (FK [] ((runs l).length:Int) (by simp)) fun _=>?_
 have hrl:=NK l
 have hq:=DZ ((runs l).length:Int)
 rw[I8 (by simp[Di,Ac]; omega),bi]
 simp only[go_sem]
 refine LoopH.mk [7,14,17] (A:=Nat) (fun x=>[(20,.c (.v (.int .i64 (x)))),(3,.c (.ref 0))]) (fun x=>[⟨5,1,(EO (runs l).length++(((runs l).take x).map VH).flatten).map byteC,true,true⟩]) (fun x=>x≤(runs l).length) (fun x=>(runs l).length-x) 0 (Head.sel [(1,false)] ⟨rfl,rfl,EJ _,trivial⟩ (by simp only[abh,cZ,lT,bz]; rfl)) (ak _) ?_
 rintro i hi
 simp only[go_sem]
 refine cndC.mk (fun h=>?_) (fun h=>?_)
 ·have hi':i<(runs l).length:=by simp at h; omega
  obtain⟨b1,b2,b3⟩:=Ju (aj hi')
  have hv:=(q3 _ b1).1
  have hn:Di (runs l)[i].2=true:=(DW _).2 ⟨by omega,by omega⟩
  have hfl:=Pg VH 12 ((runs l).take i) fun x hx=>by
   have hx':=Ju (zD hx)
   have h1:=DZ x.2
   have h2:=UM (q3 _ hx'.1).1
   simp only[VH,aT]; omega
  rw[bn] at hfl
  have hq2:=DZ (runs l)[i].2
  simp only[go_sem,AA _ hi',Gf]
  refine DrawK.mkE ?_
  simp only[go_sem]
  refine CallE.mk _ (FK _ _ (by simp only[aT]; omega)) ?_
  rw[I8 hn]
  simp only[go_sem]
  refine CallE.mk _ (OH _ (runs l)[i].1 (by simp only[aT]; omega)) ?_
  rw[QW hv]
  simp only[go_sem,wrap_i64 (n:=(i:Int)+1) (by omega) (by omega)]
  exact⟨i+1,Head.sel [(3,false)] ⟨rfl,rfl,EJ _,trivial⟩ (by rw[fF VH hi',VH]; simp only[bJ]; rfl),hi',by omega⟩
 ·have hi':i=(runs l).length:=by simp at h; omega
  subst hi'
  simp only[go_sem,bP]
  try simp
theorem Q4 (l:List DVal) (hl:l.length≤1048576):Ctr prog 278 [.c (.sl (l.map DVal.c))] [.own 5 1 ((EZ l).map byteC) true]:=by
 refine CM call278 func278 ntmps278 results278 fun hw=>?_
 simp only[go_sem]
 refine CallK.mk _ (D_ l hl) fun _=>?_
 rcases h1:typeOf l==0 with _ | _
 rotate_left
 ·have h1':typeOf l=0:=by simpa using h1
  have e:EZ l = []:=aX h1'
  rw[e]
  simp only[go_sem,h1]
  try simp
 have h1':typeOf l≠0:=by simpa using h1
 obtain⟨q1,q2,q3⟩:=Cf h1'
 rw[Rw l h1']
 simp only[go_sem,h1]
 refine CallK.mk _ (vF l hl) fun _=>?_
 simp only[go_sem]
 refine CallK.mk _ (I7 [] ((runs l).length:Int) (by simp)) fun _=>?_
 have hrl:=NK l
 have hq:=DZ ((runs l).length:Int)
 rw[I8 (by simp[Di,Ac]; omega),bi]
 simp only[go_sem]
 refine LoopH.mk [12,15] (A:=Nat) (fun x=>[(5,.c (.v (.int .i64 (x)))),(4,.c (.ref 0))]) (fun x=>[⟨5,1,(EO (runs l).length++(((runs l).take x).map VH).flatten).map byteC,true,true⟩]) (fun x=>x≤(runs l).length) (fun x=>(runs l).length-x) 0 (Head.sel [(1,false)] ⟨rfl,rfl,EJ _,trivial⟩ (by simp only[abh,cZ,lT,bz]; rfl)) (ak _) ?_
 rintro i hi
 simp only[go_sem]
 refine cndC.mk (fun h=>?_) (fun h=>?_)
 ·have hi':i<(runs l).length:=by simp at h; omega
  obtain⟨b1,b2,b3⟩:=Ju (aj hi')
  have hv:=(q3 _ b1).1
  have hn:Di (runs l)[i].2=true:=(DW _).2 ⟨by omega,by omega⟩
  have hfl:=Pg VH 12 ((runs l).take i) fun x hx=>by
   have hx':=Ju (zD hx)
   have h1:=DZ x.2
   have h2:=UM (q3 _ hx'.1).1
   simp only[VH,aT]; omega
  rw[bn] at hfl
  have hq2:=DZ (runs l)[i].2
  simp only[go_sem]
  refine DrawK.mkE ?_
  simp only[go_sem,AA _ hi',Gf]
  refine CallE.mk _ (I7 _ _ (by simp only[aT]; omega)) ?_
  rw[I8 hn]
  simp only[go_sem,AA _ hi',Gf]
  refine CallE.mk _ (OI _ (runs l)[i].1 (by simp only[aT]; omega)) ?_
  rw[QW hv]
  simp only[go_sem,AA _ hi',Gf,wrap_i64 (n:=(i:Int)+1) (by omega) (by omega)]
  exact⟨i+1,Head.sel [(2,false)] ⟨rfl,rfl,EJ _,trivial⟩ (by rw[fF VH hi',VH]; simp only[bJ]; rfl),hi',by omega⟩
 ·have hi':i=(runs l).length:=by simp at h; omega
  subst hi'
  simp only[go_sem,bP]
  try simp
theorem WL:∀ {r:List (DVal×Int)} {n:Nat} {l:List DVal},n≤64→G9 r n=some l→n+l.length≤64
 | [],n,l,hn,h=>by
  simp only[G9,ah] at h
  subst h; simpa using hn
 | (v,k)::r,n,l,hn,h=>by
  rw[OL] at h
  split at h
  ·cases h
  ·rename_i hk
   cases h2:G9 r (n+k.toNat) with
   | none=>rw[h2] at h; cases h
   | some l' =>
    rw[h2] at h
    simp only[bU,ah] at h
    subst h
    have:=WL (by omega) h2
    simp only[aT,abp]; omega
theorem Yu (r:List (DVal×Int)):(spread r).length≤64:=by
 unfold spread
 cases h:G9 r 0 with
 | none=>simp
 | some l =>
  have:=WL (ak _) h
  simpa using this
theorem kK (rs:List (DVal×Int)) (v:DVal) (m:Int):(rs ++ [(v,m)]).map Gf=rs.map Gf ++ [[.v (.int .i64 v.ty),.v (.int .i64 v.n),.v (.string v.s),.v (.int .i64 m)]]:=by simp[Gf]
theorem AEN (rs:List (DVal×Int)) (v:DVal) (m:Int):Gj (rs.map Gf ++ [[.v (.int .i64 v.ty),.v (.int .i64 v.n),.v (.string v.s),.v (.int .i64 m)]])=true:=by rw[← kK]; exact Ru _
theorem a_ (b:List Int) (ty k:Int) (hb:AQ b) (hl:b.length≤1048576):Ctr prog 264 [.c (.sl (b.map byteC)),.c (.v (.int .i64 (ty))),.c (.v (.int .i64 (k)))] (C_ (Dt b ty k)):=by
 refine CM call264 func264 ntmps264 results264 fun hw=>?_
 simp only[go_sem]
 have hg:=FI b 0 hb hl
 rcases h1:BK b 0 with _ | ⟨n,q⟩<;>rw[h1] at hg<;>simp only[UH] at hg
 ·have e:Dt b ty k=none:=by simp only[Dt,h1]
  rw[e]
  refine CallK.mk _ hg fun _=>?_
  simp only[go_sem,C_]
 refine CallK.mk _ hg fun _=>?_
 simp only[go_sem]
 refine CallK.mk _ (AC _ _ _) fun _=>?_
 rcases h2:Ac n 1 64 with _ | _
 ·have e:Dt b ty k=none:=by simp only[Dt,h1]; exact aV (by simp[Ac] at h2; omega)
  rw[e]
  simp only[go_sem,C_]
 have h2':1≤n∧n≤64:=by simp[Ac] at h2; omega
 have hall:Dt b ty k=match IP b ty n.toNat q with
   | none=>none
   | some r=>again b k (spread r) (EZ (spread r)):=by simp only[Dt,h1]; exact aX h2'
 simp only[go_sem]
 obtain⟨N,rfl⟩:=aP (show 0≤n by omega)
 rw[bV] at hall
 refine LoopH.mk [32] (A:=Nat×Nat×List (DVal×Int)) (fun x=>[(12,.c (.v (.int .i64 (x.1)))),(11,.c (.ref 0)),(9,.c (.v (.int .i64 ((x.2.1:Int)))))]) (fun x=>[⟨270,4,x.2.2.map Gf,true,true⟩]) (fun x=>x.1≤N∧x.2.2.length=x.1∧(IP b ty (N-x.1) x.2.1).map (fun y=>x.2.2++y)=IP b ty N q) (fun x=>N-x.1) (0,q,[]) (Head.sel [(0,false)] ⟨rfl,rfl,rfl,trivial⟩ rfl) ⟨ak _,rfl,by simp⟩ ?_
 rintro⟨i,p,r⟩ ⟨hi,hll,hp⟩
 dsimp only at hi hll hp
 simp only[go_sem]
 refine cndC.mk (fun h=>?_) (fun h=>?_)
 ·have hi':i<N:=by simp at h; omega
  rw[show N-i=(N-(i+1))+1 by omega,IP] at hp
  have hg2:=FI b p hb hl
  simp only[go_sem]
  rcases h3:BK b p with _ | ⟨m,p2⟩<;>rw[h3] at hg2 hp<;>simp only[UH] at hg2
  ·refine CallK.mk _ hg2 fun _=>?_
   simp only[dm] at hp
   rw[hall,← hp]
   simp only[go_sem,C_]
  refine CallK.mk _ hg2 fun _=>?_
  have hg3:=UL b p2 ty hb hl
  simp only[go_sem]
  rcases h4:Ei b p2 ty with _ | ⟨v,p3⟩<;>rw[h4] at hg3<;>simp only[h4] at hp<;>simp only[Yo] at hg3
  ·refine CallK.mk _ hg3 fun _=>?_
   simp only[dm] at hp
   rw[hall,← hp]
   simp only[go_sem,C_]
  refine CallK.mk _ hg3 fun _=>?_
  have hl2:r.length+1≤2147483648:=by omega
  simp only[go_sem,hl2,wrap_i64 (n:=(i:Int)+1) (by omega) (by omega)]
  exact⟨(i+1,p3,r ++ [(v,m)]),Head.sel [(3,false)] ⟨rfl,rfl,AEN _ _ _,trivial⟩ (by rw[kK]; rfl),⟨hi',by simp; omega,by rw[← hp,zI]; congr 1; funext y; simp⟩,by simp only; omega⟩
 ·have hi':i=N:=by simp at h; omega
  subst hi'
  rw[XL,IP] at hp
  simp only[bU,bz] at hp
  rw[hall,← hp]
  simp only[go_sem,Ru]
  refine CallK.mk _ (kH r (by omega)) fun _=>?_
  simp only[go_sem]
  have hsl:(spread r).length≤1048576:=by have:=Yu r; omega
  refine CallK.mk _ (Q3 (spread r) hsl) fun _=>?_
  simp only[go_sem]
  refine CallK.mk _ (Bg b k (spread r) (EZ (spread r))) fun _=>?_
  rcases h4:again b k (spread r) (EZ (spread r)) with _ | l'<;>simp only[go_sem,C_]
theorem b_ (b:List Int) (ty k:Int) (hb:AQ b) (hl:b.length≤1048576):Ctr prog 252 [.c (.sl (b.map byteC)),.c (.v (.int .i64 (ty))),.c (.v (.int .i64 (k)))] (C_ (Dt b ty k)):=by
 refine CM call252 func252 ntmps252 results252 fun hw=>?_
 simp only[go_sem]
 have hg:=FH b 0 hb hl
 rcases h1:BK b 0 with _ | ⟨n,q⟩<;>rw[h1] at hg<;>simp only[UH] at hg
 ·have e:Dt b ty k=none:=by simp only[Dt,h1]
  rw[e]
  refine CallK.mk _ hg fun _=>?_
  simp only[go_sem,C_]
  try simp[FT]
 refine CallK.mk _ hg fun _=>?_
 simp only[go_sem]
 refine CallK.mk _ (AL _ _ _) fun _=>?_
 have hkn:¬ (1≤k∧k≤64)→Dt b ty k=none:=fun hk=>by
  simp only[Dt,h1]
  split
  ·split
   ·rfl
   ·exact aV fun q=>hk ⟨q.1,q.2.1⟩
  ·rfl
 rcases h2:Ac k 1 64 with _ | _
 ·rw[hkn (by simp[Ac] at h2; omega)]
  simp only[go_sem,C_]
  try simp[FT]
 simp only[go_sem]
 refine CallK.mk _ (AL _ _ _) fun _=>?_
 have hk:1≤k∧k≤64:=by simp[Ac] at h2; omega
 rcases h3:Ac n 1 64 with _ | _
 ·have e:Dt b ty k=none:=by simp only[Dt,h1]; exact aV (by simp[Ac] at h3; omega)
  rw[e]
  simp only[go_sem,C_]
  try simp[FT]
 have h3':1≤n∧n≤64:=by simp[Ac] at h3; omega
 have hall:Dt b ty k=match IP b ty n.toNat q with
   | none=>none
   | some r=>again b k (spread r) (EZ (spread r)):=by simp only[Dt,h1]; exact aX h3'
 simp only[go_sem]
 obtain⟨N,rfl⟩:=aP (show 0≤n by omega)
 rw[bV] at hall
 refine LoopH.mk [41] (A:=Nat×Nat×List (DVal×Int)) (fun x=>[(13,.c (.v (.int .i64 (x.1)))),(12,.c (.ref 1)),(10,.c (.v (.int .i64 ((x.2.1:Int)))))]) (fun x=>[⟨119,3,[],true,true⟩,⟨270,4,x.2.2.map Gf,true,true⟩]) (fun x=>x.1≤N∧x.2.2.length=x.1∧(IP b ty (N-x.1) x.2.1).map (fun y=>x.2.2++y)=IP b ty N q) (fun x=>N-x.1) (0,q,[]) (Head.sel [(0,false),(1,false)] ⟨rfl,rfl,rfl,rfl,trivial⟩ rfl) ⟨ak _,rfl,by simp⟩ ?_
 rintro⟨i,p,r⟩ ⟨hi,hll,hp⟩
 dsimp only at hi hll hp
 simp only[go_sem]
 refine cndC.mk (fun h=>?_) (fun h=>?_)
 ·have hi':i<N:=by simp at h; omega
  rw[show N-i=(N-(i+1))+1 by omega,IP] at hp
  have hg2:=FH b p hb hl
  simp only[go_sem]
  rcases h4:BK b p with _ | ⟨m,p2⟩<;>rw[h4] at hg2 hp<;>simp only[UH] at hg2
  ·refine CallK.mk _ hg2 fun _=>?_
   simp only[dm] at hp
   rw[hall,← hp]
   have hg3:=KR b 0 ty hb hl
   simp only[go_sem]
   rcases h5:Ei b 0 ty with _ | ⟨v,p3⟩<;>rw[h5] at hg3<;>simp only[Yo] at hg3
   ·refine CallK.mk _ hg3 fun _=>?_
    simp only[go_sem,C_]
   ·refine CallK.mk _ hg3 fun _=>?_
    simp only[go_sem,C_]
  refine CallK.mk _ hg2 fun _=>?_
  have hg3:=KR b p2 ty hb hl
  simp only[go_sem]
  rcases h5:Ei b p2 ty with _ | ⟨v,p3⟩<;>rw[h5] at hg3<;>simp only[h5] at hp<;>simp only[Yo] at hg3
  ·refine CallK.mk _ hg3 fun _=>?_
   simp only[dm] at hp
   rw[hall,← hp]
   simp only[go_sem,C_]
  refine CallK.mk _ hg3 fun _=>?_
  have hl2:r.length+1≤2147483648:=by omega
  simp only[go_sem,hl2,wrap_i64 (n:=(i:Int)+1) (by omega) (by omega)]
  exact⟨(i+1,p3,r ++ [(v,m)]),Head.sel [(0,false),(4,false)] ⟨rfl,rfl,rfl,AEN _ _ _,trivial⟩ (by rw[kK]; rfl),⟨hi',by simp; omega,by rw[← hp,zI]; congr 1; funext y; simp⟩,by simp only; omega⟩
 ·have hi':i=N:=by simp at h; omega
  subst hi'
  rw[XL,IP] at hp
  simp only[bU,bz] at hp
  rw[hall,← hp]
  simp only[go_sem,Ru]
  refine CallK.mk _ (kJ r (by omega)) fun _=>?_
  simp only[go_sem]
  have hsl:(spread r).length≤1048576:=by have:=Yu r; omega
  rcases h5:((spread r).length:Int) != k with _ | _
  rotate_left
  ·have e:again b k (spread r) (EZ (spread r))=none:=aV fun q=>by simp at h5; exact h5 q.2.2.1
   simp only[go_sem,e,C_]
  have h5':((spread r).length:Int)=k:=by simpa using h5
  simp only[go_sem]
  refine CallK.mk _ (Q4 (spread r) hsl) fun _=>?_
  simp only[go_sem]
  refine CallK.mk _ (Hr (EZ (spread r)) b) fun _=>?_
  rcases h6:decide (EZ (spread r)=b) with _ | _
  ·have e:again b k (spread r) (EZ (spread r))=none:=aV fun q=>by simp at h6; exact h6 q.2.2.2.symm
   simp only[go_sem,e,C_]
  ·have e:again b k (spread r) (EZ (spread r))=some (spread r):=aX ⟨hk.1,hk.2,h5',by simp at h6; exact h6.symm⟩
   simp only[go_sem,e,C_]
end Go.Proofs.YtnchiiikacemmaaGreat
