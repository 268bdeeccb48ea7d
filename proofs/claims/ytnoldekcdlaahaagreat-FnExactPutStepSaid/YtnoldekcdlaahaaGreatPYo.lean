/- A part. -/
import Derived.Test.YtnoldekcdlaahaaGreatPYh
import Derived.Test.YtnoldekcdlaahaaGreatPYi
import Derived.Test.YtnoldekcdlaahaaGreatPYj
import Derived.Test.YtnoldekcdlaahaaGreatPYu
set_option linter.unusedSimpArgs false
set_option linter.unusedVariables false
set_option maxHeartbeats 4000000
set_option maxRecDepth 100000
open Go.Proofs.Tryz
namespace Go.Proofs.YtnoldekcdlaahaaGreat
open Go.Vm
section
variable {p q r:Prop}
theorem AP9(h:p:=by kernel_rfl):p:=h
end
theorem M_ {s:MS} (l:Nat) {ob:Ob} (h:Cf s.st l=some ob) (hp:Gq ob.xs=true):Head s ⟨s.n,s.env,QO s.st l⟩:=Head.frz [l] (by simp only[Xq,h,hp,bf])
theorem S9 (l:List DVal):((l.map DVal.c).all fun r=>r.length==3)=true:=aJ.2 fun r hr=>by
 obtain⟨x,_,rfl⟩:=sD.1 hr
 rfl
theorem fJ (v x:DVal) (r:List DVal):ins v (x::r)=if FY x v=true then x::ins v r else if ND x v=true then x::r else v::x::r:=rfl
theorem AAf (v:DVal):∀ {d:List DVal},(∀ m (h:m<d.length),FY d[m] v=true)→ins v d=d ++ [v]
 | [],_=>rfl
 | x::r,h=>by
  have h0:=h 0 AOR
  simp only[abu] at h0
  rw[fJ,bF h0,AAf v fun m hm=>by
   have:=h (m+1) (by simpa using hm)
   simpa using this]
  rfl
theorem AAg (v:DVal):∀ {d:List DVal} {k:Nat} (hk:k<d.length),(∀ m (h:m<d.length),m<k→FY d[m] v=true)→FY d[k] v=false→ins v d=if ND d[k] v=true then d else d.take k++v::d.drop k
 | [],k,hk,_,_=>APA
 | x::r,0,_,_,h2=>by
  simp only[abu] at h2
  rw[fJ,h2,bz AOR]
  rfl
 | x::r,k+1,hk,h1,h2=>by
  have h0:=h1 0 AOR AOQ
  simp only[abu] at h0
  simp only[abv] at h2
  rw[fJ,bF h0,AAg v (k:=k) AO1 (fun m hm hm2=>by
   have:=h1 (m+1) (by simpa using hm) AOQ
   simpa using this) h2]
  simp only[abv]
  split<;>rfl
theorem AB1 {l:List DVal} {i:Nat} (h:i<l.length):DL (l.take (i+1))=ins l[i] (DL (l.take i)):=by
 rw[take_snoc h]
 simp only[DL,List.foldl_append,abB,List.foldl_nil]
theorem UT (a b:List DVal) (v:DVal):(a++v::b).map DVal.c=a.map DVal.c ++ [v.c]++b.map DVal.c:=AOR
theorem L6 (a b:List DVal) (v:DVal):Gq (a.map DVal.c ++ [v.c]++b.map DVal.c)=true:=by rw[← UT]; exact Pq _
theorem yu (l:List DVal) (hl:l.length≤1048576):Ctr prog 427 [.c (.sl (l.map DVal.c))] [.val (.c (.sl ((DL l).map DVal.c)))]:=by
 refine CM call427 func427 ntmps427 results427 fun hw=>?_
 simp only[go_sem]
 refine ABZ [6] (A:=Nat) (fun x=>[(4,.c (.v (.int .i64 (x)))),(3,.c (.ref 0))]) (fun x=>[⟨64,3,(DL (l.take x)).map DVal.c,false,true⟩]) (fun x=>x≤l.length) (fun x=>l.length-x) 0 (Head.trans (Head.frz [0] rfl) (ABJ [(0,false)] ⟨rfl,rfl,rfl,trivial⟩ rfl)) (aA _) ?_
 rintro i hi
 refine AOJ (fun h=>?_) fun h=>?_
 ·have hi':i<l.length:=by simp at h; omega
  have hdl:=O6 (l.take i)
  rw[bI] at hdl
  have hds:=AB1 hi'
  generalize hd:DL (l.take i)=d at hdl hds
  simp only[go_sem,hd]
  refine ABK 1 (A:=Nat) (fun x=>[(5,.c (.v (.int .i64 (x))))]) (fun _=>[⟨64,3,d.map DVal.c,false,true⟩]) (fun x=>x≤d.length∧∀ m (h:m<d.length),m<x→FY d[m] l[i]=true) (fun x=>d.length-x) 0 ⟨⟨rfl,all1 (AU (DD _))⟩,rfl,aA _,fun m h h2=>AOQ⟩ ?_
  rintro k ⟨hk,hless⟩
  rcases h2:decide ((k:Int)<(d.length:Int)) with _ | _
  ·have h2':k=d.length:=by simp at h2; omega
   have hkle:k≤d.length:=hk
   have hins:=AAf l[i] fun m hm=>hless m hm AOQ
   have hds:DL (l.take (i+1))=d.take k++l[i]::d.drop k:=by rw[hds,hins,h2']; simp
   have h3:((k:Int)==(d.length:Int))=true:=AOS
   simp only[go_sem]
   refine AAm ?_
   simp only[go_sem,h2]
   refine AAm ?_
   simp only[go_sem,h3]
   have hkm:min k d.length=k:=AOQ
   have g1:k≤2147483648:=AOQ
   have g2:k+1≤2147483648:=AOQ
   have g3:k+1+(d.length-k)≤2147483648:=AOQ
   have htk:(d.drop k).take (d.length-k)=d.drop k:=aaD AOR
   refine ACQ 4 9 [0,1,2,3,4,5,6,7,8,9,10,11,12,13,14,15] [0,5,6,7,8,9,1,2,3,4,10,11,12,13,14,15] rfl AP9 AP9 ?_ ?_
   ·exact AFY
   ·simp only[go_sem]
    refine ACQ 0 5 [0,1,2,3,4,5,6,7,8,9,10,11,12,13,14,15] [1,2,3,4,5,0,6,7,8,9,10,11,12,13,14,15] rfl AP9 AP9 ?_ ?_
    ·exact AFY
    ·exact AFY
  have h2':k<d.length:=APG
  simp only[go_sem]
  refine AAm ?_
  simp only[go_sem,h2,h2',AA _ h2',AA _ hi']
  have e1:(d[k].ty==l[i].ty&&(d[k].n==l[i].n&&d[k].s.toList==l[i].s.toList))=ND d[k] l[i]:=rfl
  refine CY (iF d[k] l[i]) ?_
  rcases h3:FY d[k] l[i] with _ | _
  ·have hins:=AAg l[i] h2' hless h3
   have h4:((k:Int)==(d.length:Int))=false:=AOS
   simp only[go_sem]
   refine AAm ?_
   simp only[go_sem,h4,h2',AA _ h2',AA _ hi',ES,IL,e1]
   rcases h5:ND d[k] l[i] with _ | _
   rotate_left
   ·have hds:DL (l.take (i+1))=d:=by rw[hds,hins,bF h5]
    simp only[go_sem,h5,wrap_i64 (n:=(i:Int)+1) AOQ AOQ]
    exact⟨i+1,ABJ [(0,false)] ⟨rfl,rfl,Pq _,trivial⟩ (by rw[hds]; rfl),hi',AOQ⟩
   have hds:DL (l.take (i+1))=d.take k++l[i]::d.drop k:=by rw[hds,hins,h5,bz AOR]
   have hkle:k≤d.length:=hk
   simp only[go_sem,h5]
   have hkm:min k d.length=k:=AOQ
   have g1:k≤2147483648:=AOQ
   have g2:k+1≤2147483648:=AOQ
   have g3:k+1+(d.length-k)≤2147483648:=AOQ
   have htk:(d.drop k).take (d.length-k)=d.drop k:=aaD AOR
   refine ACQ 4 9 [0,1,2,3,4,5,6,7,8,9,10,11,12,13,14,15] [0,5,6,7,8,9,1,2,3,4,10,11,12,13,14,15] rfl AP9 AP9 ?_ ?_
   ·exact AFY
   ·simp only[go_sem]
    refine ACQ 0 5 [0,1,2,3,4,5,6,7,8,9,10,11,12,13,14,15] [1,2,3,4,5,0,6,7,8,9,10,11,12,13,14,15] rfl AP9 AP9 ?_ ?_
    ·exact AFY
    ·exact AFY
  ·simp only[go_sem,wrap_i64 (n:=(k:Int)+1) AOQ AOQ]
   exact⟨k+1,⟨rfl,all1 (AU (DD _))⟩,rfl,⟨h2',fun m h4 h5=>by
    by_cases e:m=k
    ·subst e; exact h3
    ·exact hless m h4 AOQ⟩,AOQ⟩
 ·have hi':i=l.length:=by simp at h; omega
  subst hi'
  simp only[go_sem,bM]
  try exact AII
open Go.RowKit
theorem fK {w:World} {b:Nat} {l:List DVal} {cs:Array Value} {ty:TypeId} (hb:w.heap[b]?=some (.cells cs ty (0,0))) (hc:∀ (k:Nat) (c:Cl),(l.map DVal.c).flatten[k]?=some c→∃ y,cs[k]?=some y∧c = .v y) :
  Go.Sort.HoldsK EO 3 w b 0 l.toArray:=by
 intro t ht
 have ht':t<l.length*3:=by simpa using ht
 have hk:t/3<l.length:=AOQ
 have hr:(l.map DVal.c)[t/3]?=some l[t/3].c:=by simp[hk]
 have hlen:∀ x∈l.map DVal.c,x.length=3:=fun x hx=>by
  obtain⟨v,_,rfl⟩:=sD.1 hx
  rfl
 have h3:t%3<3:=Nat.mod_lt _ AOQ
 have he:(EO l.toArray[t/3]!)[t%3]! = (EO l[t/3])[t%3]!:=by simp[hk]
 rw[Go.Sort.get_flatK _ _ _ _ (by simpa using ht'),he,sF]
 have hc1:∃ y,l[t/3].c[t%3]?=some (.v y)∧(EO l[t/3])[t%3]! = y:=by
  rcases(show t%3=0∨t%3=1∨t%3=2 from AOQ) with e | e | e<;>rw[e]<;>exact⟨_,rfl,rfl⟩
 obtain⟨y,hy1,hy2⟩:=hc1
 have hf:=Fh hlen (t/3) (t%3) _ _ hr hy1
 rw[show t/3*3+t%3=t from AOQ] at hf
 obtain⟨z,hz1,hz2⟩:=hc t _ hf
 cases hz2
 rw[hy2]
 constructor
 ·show (match w.heap[b]? with | some (.cells cs _ _)=>cs[t]? | _=>none)=some y
  rw[hb]; exact hz1
 ·show (match w.heap[b]? with | some (.cells _ _ (lo,hi))=>decide (lo≤t)&&decide (t<hi) | _=>false)=false
  rw[hb]; simp
theorem u_ {w:World} {b q:Nat} {F:Array Value} {n:Nat} (h:Go.Sort.Holds id w b 0 F) {G:Array Value} (hs:G.size=F.size) (hn:n<F.size):(Go.Sort.putRow id (Go.Sort.ahead w q) b 0 G).cell? ⟨b,n,none⟩=some G[n]!:=by
 have:=(Go.Sort.holds_putRow id (Go.Sort.ahead w q) b 0 F G (Go.Sort.holds_ahead id w q b 0 F h) hs n AOQ).1
 rwa [sF] at this
theorem jD (l:List DVal) (hl:l.length≤1048576) (w:World) (St:Nat→Nat→Prop) (u:Value) (hSt:∀ b o,St b o→b<w.heap.size) (hu:RdA w St (.c (.sl (l.map DVal.c))) u) :
  Calls prog 235 #[u] w fun e w1=>∃ a cap,e = .returned (.slice a l.length cap)∧l.length≤cap∧cap≤maxLen∧Below w.heap.size w w1∧(l = []∨∃ b,a=some ⟨b,0,none⟩∧w.heap.size≤b∧b<w1.heap.size∧Go.Sort.HoldsK EO 3 w1 b 0 l.toArray):=by
 refine((FD l hl).2 w St [u] hSt ⟨u,[],rfl,hu,rfl⟩).mono ?_
 rintro e w1 ⟨us,bs,St1,hb⟩
 obtain⟨Φs,hR,_⟩:=hb.res
 obtain⟨u1,us',b1,bs',Φ,Φs',rfl,rfl,rfl,h1,h2,_,_⟩:=hR
 subst h2
 have hret:=hb.ret
 cases b1 with
 | none =>
  obtain⟨rfl,h3⟩:=h1
  have:l = []:=AOm
  subst this
  exact⟨none,0,hret,aT _,aA _,hb.below,.inl rfl⟩
 | some b =>
  obtain⟨g1,g2,g3,g4,cap,cs,rfl,g5,g6,g7,g8,g9⟩:=h1
  rw[ae] at g5
  refine⟨_,cap,by rw[hret]; simp[Wi],g5,g6,hb.below,.inr ⟨b,rfl,g1,g2,fK g7 fun k c hc=>?_⟩⟩
  obtain⟨y,hy1,hy2⟩:=g9 k c hc
  have hm:=bC hc
  obtain⟨r,hr,hcr⟩:=aa2.1 hm
  obtain⟨v,_,rfl⟩:=sD.1 hr
  have hcr:c∈ [Cl.v (.int .i64 v.ty),Cl.v (.int .i64 v.n),Cl.v (.string v.s)]:=hcr
  simp only[SK,List.not_mem_nil,or_false] at hcr
  rcases hcr with rfl | rfl | rfl<;>simp only[RdO] at hy2<;>exact⟨_,hy1,by rw[hy2.1]⟩
theorem vC:∀ args w,(callFunc 459 args).run prog w = .ok (.enter 459 args) w:=call459
theorem jE (a:Option Addr) (cap:Nat) (w:World):Calls prog 460 #[.slice a 0 cap] w fun e w'=>e = .returned (.slice a 0 cap)∧w'=w:=by
 go_enter func460,ntmps460
 go_wp2
 go_ret
 exact⟨rfl,rfl⟩
def AAh (l:List DVal) (b:Nat) (w w':World):Prop:=∃ d n os,Go.Sort.PermIn 0 l.length l.toArray d∧(∀ i j,i<j→j<d.size→FY d[j]! d[i]! = false)∧w'=sortWorldK EO 3 w b 0 n d os
def yw (l:List DVal) (b:Nat) (w w':World):Prop:=∃ q F,w'=Go.Sort.putRow id (Go.Sort.ahead w q) b 0 F∧F.size=l.length*3∧∀ j,j<(DL l).length→∀ c,c<3→F[j*3+c]! = (EO (DL l)[j]!)[c]!
theorem vF {l:List DVal} {b cap:Nat} {w1 w2:World} (hH:Go.Sort.HoldsK EO 3 w1 b 0 l.toArray) (hb:b<w1.heap.size) (hl:l.length≤1048576) (hc:l.length≤cap) (h:AAh l b w1 w2) :
  Calls prog 460 #[.slice (some ⟨b,0,none⟩) l.length cap] w2 fun e w3=>e = .returned (.slice (some ⟨b,0,none⟩) (DL l).length cap)∧yw l b w2 w3:=by
 obtain⟨d,n,os,hp,hs,rfl⟩:=h
 have hd:d.size=l.length:=by simpa using hp.1
 have hH2:=Go.Proofs.holdsK_sortWorldK_c EO 3 w1 b 0 l.toArray d n os hH hb (by simpa using hd)
 have hk:=pF b 0 cap d _ hH2 AOQ AOQ
 rw[AFx hp hs,hd] at hk
 exact hk.mono fun e w3 ⟨h1,q,F,h2,h3,h4⟩=>⟨h1,q,F,h2,h3,h4⟩
theorem vG (b cap:Nat) (l:List DVal) (w:World) (hH:Go.Sort.HoldsK EO 3 w b 0 l.toArray) (hb:b<w.heap.size) (hl:l.length≤1048576) :
  Calls prog 458 #[.slice (some ⟨b,0,none⟩) l.length cap,.func (.func 459) #[] #[]] w fun e w'=>e = .returned (.tuple #[])∧AAh l b w w':=by
 have h:=AnyQ.slices_SortFunc AAl 3 isAgg64 sizeOf64 EO (fun _=>rfl) (fun x v hv=>by
  simp only[EO,SK,List.not_mem_nil,or_false] at hv
  rcases hv with rfl | rfl | rfl<;>rfl) y8 AK1 459 #[] b 0 cap l.toArray w vC (AFy b 0 _ w) hH hb (by show l.length<_; omega)
 refine Calls.mono h ?_
 rintro e w' ⟨rfl,d,n,os,hp,hs,rfl⟩
 refine⟨rfl,d,n,os,hp,fun i j hij hj=>?_,rfl⟩
 have:=hs i j (aA _) hij (by rw[← hp.1]; exact hj)
 rwa [Vs] at this
theorem AB2 {w:World} {b:Nat} {St:Nat→Nat→Prop} (l:List DVal) (F:Array Value) (hF:l.length*3≤F.size) (hSt:∀ o,o<l.length*3→St b o) (hc:∀ n,n<F.size→w.cell? ⟨b,n,none⟩=some F[n]!) (hv:∀ j,j<l.length→∀ c,c<3→F[j*3+c]! = (EO l[j]!)[c]!) (hw:∀ v∈l,WZ v.c):RdE w St (l.map DVal.c) b 0:=by
 refine AEK 3 (fun x hx=>by obtain⟨v,_,rfl⟩:=sD.1 hx; rfl) fun i x hx=>?_
 have hi:i<l.length:=by
  have:=(aF.1 hx).1
  simpa using this
 have hx':x=l[i].c:=by
  rw[mW,au hi] at hx
  exact(ry hx).symm
 subst hx'
 refine AEM fun j c hj=>?_
 have hj3:j<3:=(aF.1 hj).1
 refine⟨hSt _ AOQ,(EO l[i])[j]!, ?_, ?_⟩
 ·rw[hc _ AOQ,sF,hv i hi j hj3,getElem!_pos l i hi]
 ·have hwl:WZ [Cl.v (.int .i64 l[i].ty),Cl.v (.int .i64 l[i].n),Cl.v (.string l[i].s)]:=hw _ (ax hi)
  simp only[WZ,sS,xU] at hwl
  rcases(show j=0∨j=1∨j=2 from AOQ) with rfl | rfl | rfl<;>cases hj<;>simp only[RdD]<;>refine⟨rfl, ?_⟩
  ·exact hwl.1
  ·exact hwl.2.1
  ·exact hwl.2.2
theorem vH {w w':World} {St St':Nat→Nat→Prop} {x:AV} {u:Value} (hb:Below w.heap.size w w') (h1:∀ b o,St b o→St' b o) (h2:∀ b o,St' b o→b<w.heap.size→St b o) (h3:∀ b o,St' b o→b<w'.heap.size) (hr:RdA w' St' x u):Back w St [.val x] (.returned u) w' [u] [none] St' where
 ret:=rfl
 below:=hb
 st:=h1
 stOld:=h2
 stIn:=h3
 res:=⟨[fun _ _=>False],⟨u,[],none,[],_,[],rfl,rfl,rfl,⟨hr,rfl⟩,rfl,rfl,rfl⟩,{
  nodup:=fun i j b hi=>by
   cases i with
   | zero=>simp at hi
   | succ i=>simp at hi
  fresh:=fun i Φ k x hi hx=>by
   cases i with
   | zero=>simp at hi; subst hi; exact hx.elim
   | succ i=>simp at hi
  dis:=fun i i' Φ Φ' k k' x hi _ hx=>by
   cases i with
   | zero=>simp at hi; subst hi; exact hx.elim
   | succ i=>simp at hi }⟩
theorem below_putRow (w:World) {b B:Nat} (q:Nat) (F:Array Value) (hB:B≤b):Below B w (Go.Sort.putRow id (Go.Sort.ahead w q) b 0 F):=
 ⟨rfl,rfl,rfl,by rw[Go.Sort.size_putRow]; exact aT _,fun k hk=>by
  show (w.heap.modify b _)[k]?=_
  rw[Array.getElem?_modify,bz AOQ]⟩
theorem below_grow (w:World) {B:Nat} (os:Array Obj) (hB:B≤w.heap.size):Below B w (Go.Sort.grow w os):=
 ⟨rfl,rfl,rfl,by rw[Go.Sort.size_grow]; omega,fun k hk=>by
  show (w.heap++os)[k]?=_
  rw[aax AOQ]⟩
theorem yx (l:List DVal) (hl:l.length≤1048576):Ctr prog 435 [.c (.sl (l.map DVal.c))] [.val (.c (.sl ((DL l).map DVal.c)))]:=by
 refine⟨call435,fun w St vs hSt hrd=>?_⟩
 obtain⟨u,vs',rfl,hu,hvs⟩:=hrd
 obtain rfl:vs' = []:=hvs
 have hcl:=jD l hl w St u hSt hu
 have hwf:∀ v∈l,WZ v.c:=fun v hv=>by
  have h:=hu.wf
  simp only[WfA,sS] at h
  exact Yk h.2 _ (sD.2 ⟨v,hv,rfl⟩)
 clear hu
 by_cases hl0:l = []
 ·subst hl0
  clear hwf
  go_enter func435,ntmps435
  go_wp2_with (first | (go_at_call 235; refine hcl.mono ?_; rintro e w1 ⟨a,cap,rfl,q1,q2,q3,q4⟩) | (go_at_call 458; refine(AnyF.slices_SortFunc_none AAl a cap _ _).mono ?_; rintro e w2 ⟨rfl,rfl⟩) | (go_at_call 460; refine(jE a cap _).mono ?_; rintro e w3 ⟨rfl,rfl⟩))
  go_ret
  refine⟨[.slice a 0 cap],[none],St,vH q3 (fun _ _ h=>h) (fun _ _ h _=>h) (fun b o h=>cO (hSt b o h) q3.size) ?_⟩
  show RdD _ _ (.sl []) _
  simp only[RdD]
  exact⟨a,cap,rfl,aA _,q2,⟨0,fun x hx=>by cases hx⟩,AOR⟩
 ·have HF:Go.RowKit.Hid (∀ v∈l,WZ v.c):=hwf
  clear hwf
  have hcl2:Calls prog 235 #[u] w fun e w1=>∃ b cap,e = .returned (.slice (some ⟨b,0,none⟩) l.length cap)∧Go.RowKit.Hid (l.length≤cap∧cap≤maxLen∧Below w.heap.size w w1∧w.heap.size≤b∧b<w1.heap.size∧Go.Sort.HoldsK EO 3 w1 b 0 l.toArray):=hcl.mono fun e w1 ⟨a,cap,q0,q1,q2,q3,q4⟩=>by
   rcases q4 with q4 | ⟨b,rfl,q5,q6,q7⟩
   ·exact absurd q4 hl0
   ·exact⟨b,cap,q0,q1,q2,q3,q5,q6,q7⟩
  clear hcl
  go_enter func435,ntmps435
  go_wp2_with (first | (go_at_call 235; refine hcl2.mono ?_; rintro e w1 ⟨b,cap,rfl,HQ⟩) | (go_at_call 458; refine(vG b cap l w1 HQ.out.2.2.2.2.2 HQ.out.2.2.2.2.1 hl).mono ?_; rintro e w2 ⟨rfl,HS⟩) | (go_at_call 460; refine(vF HQ.out.2.2.2.2.2 HQ.out.2.2.2.2.1 hl HQ.out.1 HS).mono ?_; rintro e w3 ⟨rfl,HC⟩))
  go_ret
  obtain⟨q1,q2,q3,q4,q5,q6⟩:=HQ.out
  obtain⟨d,n,os,hp,hs,rfl⟩:=HS
  obtain⟨q,F,rfl,hF,hv⟩:=HC
  have hd:d.size=l.length:=by simpa using hp.1
  have hH2:=Go.Proofs.holdsK_sortWorldK_c EO 3 w1 b 0 l.toArray d n os q6 q5 (by simpa using hd)
  have hsz2:=Go.Proofs.size_sortWorldK_c EO 3 w1 b 0 n d os
  have hdl:=O6 l
  have hB1:Below w.heap.size w1 (sortWorldK EO 3 w1 b 0 n d os):=by
   unfold sortWorldK
   have h1:=below_putRow w1 (B:=w.heap.size) n (Go.Sort.flatK EO 3 d) q4
   exact h1.trans (below_grow _ os (by show w.heap.size≤(Go.Sort.putRow id (Go.Sort.ahead w1 n) b 0 (Go.Sort.flatK EO 3 d)).heap.size; rw[Go.Sort.size_putRow]; exact q3.size))
  have hB2:=below_putRow (sortWorldK EO 3 w1 b 0 n d os) (B:=w.heap.size) q F q4
  have hB:=(q3.trans hB1).trans hB2
  have hsz3:(Go.Sort.putRow id (Go.Sort.ahead (sortWorldK EO 3 w1 b 0 n d os) q) b 0 F).heap.size=(sortWorldK EO 3 w1 b 0 n d os).heap.size:=by rw[Go.Sort.size_putRow]; rfl
  refine⟨[.slice (some ⟨b,0,none⟩) (DL l).length cap],[none],fun b' o=>St b' o∨(b'=b∧o<(DL l).length*3),vH hB (fun _ _ h=>.inl h) (fun b' o h hlt=>?_) (fun b' o h=>?_) ?_⟩
  ·rcases h with h | ⟨rfl,_⟩
   ·exact h
   ·omega
  ·rcases h with h | ⟨rfl,_⟩
   ·exact cO (hSt b' o h) hB.size
   ·rw[hsz3]; omega
  ·show RdD _ _ (.sl ((DL l).map DVal.c)) _
   simp only[RdD,ae]
   refine⟨_,cap,rfl,AOQ,q2,⟨3,fun x hx=>by obtain⟨v,_,rfl⟩:=sD.1 hx; rfl⟩,.inr ⟨b,0,rfl, ?_⟩⟩
   refine AB2 (DL l) F AOQ (fun o ho=>.inr ⟨rfl,ho⟩) (fun m hm=>u_ hH2 (by simp[hF,hd]) (by simpa [hd,hF] using hm)) hv fun v hv=>HF.out v ((Ld l v).1 hv)
end Go.Proofs.YtnoldekcdlaahaaGreat
