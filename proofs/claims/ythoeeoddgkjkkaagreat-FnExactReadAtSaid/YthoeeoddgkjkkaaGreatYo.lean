/- Walks: the dictionary of the program. -/
import Derived.Test.YthoeeoddgkjkkaaGreatYu
import Derived.Test.YthoeeoddgkjkkaaGreatYl
namespace Go.Proofs.YthoeeoddgkjkkaaGreat
set_option linter.unusedSimpArgs false
set_option linter.unusedVariables false
open Go.Vm Go.RowKit
set_option maxHeartbeats 4000000
set_option maxRecDepth 100000
theorem Uo {w:World} {b:Nat} {l:List DVal} {cs:Array Value} {ty:TypeId} (hb:w.heap[b]?=some (.cells cs ty (0,0))) (hc:∀ (k:Nat) (c:Cl),(l.map DVal.c).flatten[k]?=some c→∃ y,cs[k]?=some y∧c = .v y) :
  Go.Sort.HoldsK Cj 3 w b 0 l.toArray:=by
 intro t ht
 have ht':t<l.length*3:=by simpa using ht
 have hk:t/3<l.length:=by omega
 have hr:(l.map DVal.c)[t/3]?=some l[t/3].c:=by simp[hk]
 have hlen:∀ x∈l.map DVal.c,x.length=3:=fun x hx=>by
  obtain⟨v,_,rfl⟩:=List.mem_map.1 hx
  rfl
 have h3:t%3<3:=Nat.mod_lt _ (by omega)
 have he:(Cj l.toArray[t/3]!)[t%3]! = (Cj l[t/3])[t%3]!:=by simp[hk]
 rw[Go.Sort.get_flatK _ _ _ _ (by simpa using ht'),he,Nat.zero_add]
 have hc1:∃ y,l[t/3].c[t%3]?=some (.v y)∧(Cj l[t/3])[t%3]! = y:=by
  rcases(show t%3=0∨t%3=1∨t%3=2 by omega) with e | e | e<;>rw[e]<;>exact⟨_,rfl,rfl⟩
 obtain⟨y,hy1,hy2⟩:=hc1
 have hf:=Es hlen (t/3) (t%3) _ _ hr hy1
 rw[show t/3*3+t%3=t by omega] at hf
 obtain⟨z,hz1,hz2⟩:=hc t _ hf
 cases hz2
 rw[hy2]
 constructor
 ·show (match w.heap[b]? with | some (.cells cs _ _)=>cs[t]? | _=>none)=some y
  rw[hb]; exact hz1
 ·show (match w.heap[b]? with | some (.cells _ _ (lo,hi))=>decide (lo≤t)&&decide (t<hi) | _=>false)=false
  rw[hb]; simp
theorem Zz {w:World} {b q:Nat} {F:Array Value} {n:Nat} (h:Go.Sort.Holds id w b 0 F) {G:Array Value} (hs:G.size=F.size) (hn:n<F.size):(Go.Sort.putRow id (Go.Sort.ahead w q) b 0 G).cell? ⟨b,n,none⟩=some G[n]!:=by
 have:=(Go.Sort.holds_putRow id (Go.Sort.ahead w q) b 0 F G (Go.Sort.holds_ahead id w q b 0 F h) hs n (by omega)).1
 rwa [Nat.zero_add] at this
theorem VL (l:List DVal) (hl:l.length≤1048576) (w:World) (St:Nat→Nat→Prop) (u:Value) (hSt:∀ b o,St b o→b<w.heap.size) (hu:RdA w St (.c (.sl (l.map DVal.c))) u) :
  Calls Tryz.prog 120 #[u] w fun e w1=>∃ a cap,e = .returned (.slice a l.length cap)∧l.length≤cap∧cap≤maxLen∧Below w.heap.size w w1∧(l = []∨∃ b,a=some ⟨b,0,none⟩∧w.heap.size≤b∧b<w1.heap.size∧Go.Sort.HoldsK Cj 3 w1 b 0 l.toArray):=by
 refine((Il l hl).2 w St [u] hSt ⟨u,[],rfl,hu,rfl⟩).mono ?_
 rintro e w1 ⟨us,bs,St1,hb⟩
 obtain⟨Φs,hR,_⟩:=hb.res
 obtain⟨u1,us',b1,bs',Φ,Φs',rfl,rfl,rfl,h1,h2,_,_⟩:=hR
 subst h2
 have hret:=hb.ret
 cases b1 with
 | none =>
  obtain⟨rfl,h3⟩:=h1
  have:l = []:=by simpa using h3
  subst this
  exact⟨none,0,hret,Nat.le_refl _,Nat.zero_le _,hb.below,.inl rfl⟩
 | some b =>
  obtain⟨g1,g2,g3,g4,cap,cs,rfl,g5,g6,g7,g8,g9⟩:=h1
  rw[List.length_map] at g5
  refine⟨_,cap,by rw[hret]; simp[O8],g5,g6,hb.below,.inr ⟨b,rfl,g1,g2,Uo g7 fun k c hc=>?_⟩⟩
  obtain⟨y,hy1,hy2⟩:=g9 k c hc
  have hm:=List.mem_of_getElem? hc
  obtain⟨r,hr,hcr⟩:=List.mem_flatten.1 hm
  obtain⟨v,_,rfl⟩:=List.mem_map.1 hr
  have hcr:c∈ [Cl.v (.int .i64 v.ty),Cl.v (.int .i64 v.n),Cl.v (.string v.s)]:=hcr
  simp only[List.mem_cons,List.not_mem_nil,or_false] at hcr
  rcases hcr with rfl | rfl | rfl<;>simp only[RdO] at hy2<;>exact⟨_,hy1,by rw[hy2.1]⟩
theorem Z4:∀ args w,(callFunc 265 args).run Tryz.prog w = .ok (.enter 265 args) w:=Tryz.call265
theorem VM (a:Option Addr) (cap:Nat) (w:World):Calls Tryz.prog 266 #[.slice a 0 cap] w fun e w'=>e = .returned (.slice a 0 cap)∧w'=w:=by
 go_enter Tryz.func266,Tryz.ntmps266
 go_wp2
 go_ret
 exact⟨rfl,rfl⟩
def g_ (l:List DVal) (b:Nat) (w w':World):Prop:=∃ d n os,Go.Sort.PermIn 0 l.length l.toArray d∧(∀ i j,i<j→j<d.size→Bi d[j]! d[i]! = false)∧w'=sortWorldK Cj 3 w b 0 n d os
def dw (l:List DVal) (b:Nat) (w w':World):Prop:=∃ q F,w'=Go.Sort.putRow id (Go.Sort.ahead w q) b 0 F∧F.size=l.length*3∧∀ j,j<(BV l).length→∀ c,c<3→F[j*3+c]! = (Cj (BV l)[j]!)[c]!
theorem Z5 {l:List DVal} {b cap:Nat} {w1 w2:World} (hH:Go.Sort.HoldsK Cj 3 w1 b 0 l.toArray) (hb:b<w1.heap.size) (hl:l.length≤1048576) (hc:l.length≤cap) (h:g_ l b w1 w2) :
  Calls Tryz.prog 266 #[.slice (some ⟨b,0,none⟩) l.length cap] w2 fun e w3=>e = .returned (.slice (some ⟨b,0,none⟩) (BV l).length cap)∧dw l b w2 w3:=by
 obtain⟨d,n,os,hp,hs,rfl⟩:=h
 have hd:d.size=l.length:=by simpa using hp.1
 have hH2:=Go.Proofs.holdsK_sortWorldK_c Cj 3 w1 b 0 l.toArray d n os hH hb (by simpa using hd)
 have hk:=YB b 0 cap d _ hH2 (by omega) (by omega)
 rw[qI hp hs,hd] at hk
 exact hk.mono fun e w3 ⟨h1,q,F,h2,h3,h4⟩=>⟨h1,q,F,h2,h3,h4⟩
theorem Z7 (b cap:Nat) (l:List DVal) (w:World) (hH:Go.Sort.HoldsK Cj 3 w b 0 l.toArray) (hb:b<w.heap.size) (hl:l.length≤1048576) :
  Calls Tryz.prog 264 #[.slice (some ⟨b,0,none⟩) l.length cap,.func (.func 265) #[] #[]] w fun e w'=>e = .returned (.tuple #[])∧g_ l b w w':=by
 have h:=AnyQ.slices_SortFunc iI 3 Tryz.isAgg72 Tryz.sizeOf72 Cj (fun _=>rfl) (fun x v hv=>by
  simp only[Cj,List.mem_cons,List.not_mem_nil,or_false] at hv
  rcases hv with rfl | rfl | rfl<;>rfl) eH AGY 265 #[] b 0 cap l.toArray w Z4 (qK b 0 _ w) hH hb (by show l.length<_; omega)
 refine Calls.mono h ?_
 rintro e w' ⟨rfl,d,n,os,hp,hs,rfl⟩
 refine⟨rfl,d,n,os,hp,fun i j hij hj=>?_,rfl⟩
 have:=hs i j (Nat.zero_le _) hij (by rw[← hp.1]; exact hj)
 rwa [P8] at this
theorem jr {w:World} {b:Nat} {St:Nat→Nat→Prop} (l:List DVal) (F:Array Value) (hF:l.length*3≤F.size) (hSt:∀ o,o<l.length*3→St b o) (hc:∀ n,n<F.size→w.cell? ⟨b,n,none⟩=some F[n]!) (hv:∀ j,j<l.length→∀ c,c<3→F[j*3+c]! = (Cj l[j]!)[c]!) (hw:∀ v∈l,O4 v.c):RdE w St (l.map DVal.c) b 0:=by
 refine RdE.mk 3 (fun x hx=>by obtain⟨v,_,rfl⟩:=List.mem_map.1 hx; rfl) fun i x hx=>?_
 have hi:i<l.length:=by
  have:=(List.getElem?_eq_some_iff.1 hx).1
  simpa using this
 have hx':x=l[i].c:=by
  rw[List.getElem?_map,List.getElem?_eq_getElem hi] at hx
  exact(Option.some.inj hx).symm
 subst hx'
 refine RdL.mk fun j c hj=>?_
 have hj3:j<3:=(List.getElem?_eq_some_iff.1 hj).1
 refine⟨hSt _ (by omega),(Cj l[i])[j]!, ?_, ?_⟩
 ·rw[hc _ (by omega),Nat.zero_add,hv i hi j hj3,getElem!_pos l i hi]
 ·have hwl:O4 [Cl.v (.int .i64 l[i].ty),Cl.v (.int .i64 l[i].n),Cl.v (.string l[i].s)]:=hw _ (List.getElem_mem hi)
  simp only[O4,YC,and_true] at hwl
  rcases(show j=0∨j=1∨j=2 by omega) with rfl | rfl | rfl<;>cases hj<;>simp only[RdD]<;>refine⟨rfl, ?_⟩
  ·exact hwl.1
  ·exact hwl.2.1
  ·exact hwl.2.2
theorem Z8 {w w':World} {St St':Nat→Nat→Prop} {x:AV} {u:Value} (hb:Below w.heap.size w w') (h1:∀ b o,St b o→St' b o) (h2:∀ b o,St' b o→b<w.heap.size→St b o) (h3:∀ b o,St' b o→b<w'.heap.size) (hr:RdA w' St' x u):Back w St [.val x] (.returned u) w' [u] [none] St' where
 ret:=rfl
 below:=hb
 st:=h1
 stOld:=h2
 stIn:=h3
 res:=⟨[fun _ _=>False],⟨u,[],none,[],_,[],rfl,rfl,rfl,⟨hr,rfl⟩,rfl,rfl,rfl⟩,{
  nodup:=fun i j b hi=>by
   cases i with
   | zero=>simp at hi
   | succ i=>simp at hi
  fresh:=fun i Φ k x hi hx=>by
   cases i with
   | zero=>simp at hi; subst hi; exact hx.elim
   | succ i=>simp at hi
  dis:=fun i i' Φ Φ' k k' x hi _ hx=>by
   cases i with
   | zero=>simp at hi; subst hi; exact hx.elim
   | succ i=>simp at hi }⟩
theorem below_putRow (w:World) {b B:Nat} (q:Nat) (F:Array Value) (hB:B≤b):Below B w (Go.Sort.putRow id (Go.Sort.ahead w q) b 0 F):=
 ⟨rfl,rfl,rfl,by rw[Go.Sort.size_putRow]; exact Nat.le_refl _,fun k hk=>by
  show (w.heap.modify b _)[k]?=_
  rw[Array.getElem?_modify,if_neg (by omega)]⟩
theorem below_grow (w:World) {B:Nat} (os:Array Obj) (hB:B≤w.heap.size):Below B w (Go.Sort.grow w os):=
 ⟨rfl,rfl,rfl,by rw[Go.Sort.size_grow]; omega,fun k hk=>by
  show (w.heap++os)[k]?=_
  rw[Array.getElem?_append_left (by omega)]⟩
theorem d_ (l:List DVal) (hl:l.length≤1048576):Ctr Tryz.prog 253 [.c (.sl (l.map DVal.c))] [.val (.c (.sl ((BV l).map DVal.c)))]:=by
 refine⟨Tryz.call253,fun w St vs hSt hrd=>?_⟩
 obtain⟨u,vs',rfl,hu,hvs⟩:=hrd
 obtain rfl:vs' = []:=hvs
 have hcl:=VL l hl w St u hSt hu
 have hwf:∀ v∈l,O4 v.c:=fun v hv=>by
  have h:=hu.wf
  simp only[rG,YC] at h
  exact SQ h.2 _ (List.mem_map.2 ⟨v,hv,rfl⟩)
 clear hu
 by_cases hl0:l = []
 ·subst hl0
  clear hwf
  go_enter Tryz.func253,Tryz.ntmps253
  go_wp2_with (first | (go_at_call 120; refine hcl.mono ?_; rintro e w1 ⟨a,cap,rfl,q1,q2,q3,q4⟩) | (go_at_call 264; refine(AnyF.slices_SortFunc_none iI a cap _ _).mono ?_; rintro e w2 ⟨rfl,rfl⟩) | (go_at_call 266; refine(VM a cap _).mono ?_; rintro e w3 ⟨rfl,rfl⟩))
  go_ret
  refine⟨[.slice a 0 cap],[none],St,Z8 q3 (fun _ _ h=>h) (fun _ _ h _=>h) (fun b o h=>Nat.lt_of_lt_of_le (hSt b o h) q3.size) ?_⟩
  show RdD _ _ (.sl []) _
  simp only[RdD]
  exact⟨a,cap,rfl,Nat.zero_le _,q2,⟨0,fun x hx=>by cases hx⟩,by simp⟩
 ·have HF:Go.RowKit.Hid (∀ v∈l,O4 v.c):=hwf
  clear hwf
  have hcl2:Calls Tryz.prog 120 #[u] w fun e w1=>∃ b cap,e = .returned (.slice (some ⟨b,0,none⟩) l.length cap)∧Go.RowKit.Hid (l.length≤cap∧cap≤maxLen∧Below w.heap.size w w1∧w.heap.size≤b∧b<w1.heap.size∧Go.Sort.HoldsK Cj 3 w1 b 0 l.toArray):=hcl.mono fun e w1 ⟨a,cap,q0,q1,q2,q3,q4⟩=>by
   rcases q4 with q4 | ⟨b,rfl,q5,q6,q7⟩
   ·exact absurd q4 hl0
   ·exact⟨b,cap,q0,q1,q2,q3,q5,q6,q7⟩
  clear hcl
  go_enter Tryz.func253,Tryz.ntmps253
  go_wp2_with (first | (go_at_call 120; refine hcl2.mono ?_; rintro e w1 ⟨b,cap,rfl,HQ⟩) | (go_at_call 264; refine(Z7 b cap l w1 HQ.out.2.2.2.2.2 HQ.out.2.2.2.2.1 hl).mono ?_; rintro e w2 ⟨rfl,HS⟩) | (go_at_call 266; refine(Z5 HQ.out.2.2.2.2.2 HQ.out.2.2.2.2.1 hl HQ.out.1 HS).mono ?_; rintro e w3 ⟨rfl,HC⟩))
  go_ret
  obtain⟨q1,q2,q3,q4,q5,q6⟩:=HQ.out
  obtain⟨d,n,os,hp,hs,rfl⟩:=HS
  obtain⟨q,F,rfl,hF,hv⟩:=HC
  have hd:d.size=l.length:=by simpa using hp.1
  have hH2:=Go.Proofs.holdsK_sortWorldK_c Cj 3 w1 b 0 l.toArray d n os q6 q5 (by simpa using hd)
  have hsz2:=Go.Proofs.size_sortWorldK_c Cj 3 w1 b 0 n d os
  have hdl:=Jv l
  have hB1:Below w.heap.size w1 (sortWorldK Cj 3 w1 b 0 n d os):=by
   unfold sortWorldK
   have h1:=below_putRow w1 (B:=w.heap.size) n (Go.Sort.flatK Cj 3 d) q4
   exact h1.trans (below_grow _ os (by show w.heap.size≤(Go.Sort.putRow id (Go.Sort.ahead w1 n) b 0 (Go.Sort.flatK Cj 3 d)).heap.size; rw[Go.Sort.size_putRow]; exact q3.size))
  have hB2:=below_putRow (sortWorldK Cj 3 w1 b 0 n d os) (B:=w.heap.size) q F q4
  have hB:=(q3.trans hB1).trans hB2
  have hsz3:(Go.Sort.putRow id (Go.Sort.ahead (sortWorldK Cj 3 w1 b 0 n d os) q) b 0 F).heap.size=(sortWorldK Cj 3 w1 b 0 n d os).heap.size:=by rw[Go.Sort.size_putRow]; rfl
  refine⟨[.slice (some ⟨b,0,none⟩) (BV l).length cap],[none],fun b' o=>St b' o∨(b'=b∧o<(BV l).length*3),Z8 hB (fun _ _ h=>.inl h) (fun b' o h hlt=>?_) (fun b' o h=>?_) ?_⟩
  ·rcases h with h | ⟨rfl,_⟩
   ·exact h
   ·omega
  ·rcases h with h | ⟨rfl,_⟩
   ·exact Nat.lt_of_lt_of_le (hSt b' o h) hB.size
   ·rw[hsz3]; omega
  ·show RdD _ _ (.sl ((BV l).map DVal.c)) _
   simp only[RdD,List.length_map]
   refine⟨_,cap,rfl,by omega,q2,⟨3,fun x hx=>by obtain⟨v,_,rfl⟩:=List.mem_map.1 hx; rfl⟩,.inr ⟨b,0,rfl, ?_⟩⟩
   refine jr (BV l) F (by omega) (fun o ho=>.inr ⟨rfl,ho⟩) (fun m hm=>Zz hH2 (by simp[hF,hd]) (by simpa [hd,hF] using hm)) hv fun v hv=>HF.out v ((IA l v).1 hv)
end Go.Proofs.YthoeeoddgkjkkaaGreat
