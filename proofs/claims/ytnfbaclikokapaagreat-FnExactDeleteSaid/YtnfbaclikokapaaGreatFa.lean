/- A part. -/
import Derived.Test.YtnfbaclikokapaaGreatDa
import Derived.Test.YtnfbaclikokapaaGreatTy
set_option linter.unusedSimpArgs false
set_option linter.unusedVariables false
set_option maxHeartbeats 1000000
set_option maxRecDepth 10000
open Go.Proofs.Tryz
namespace Go.Proofs.YtnfbaclikokapaaGreat
open Go.Vm
theorem Iq {x:Int} {k:Int→Int} (h:decide (x<0)=true):sq x k = -1:=AEH (Zg h)
theorem Ir {x:Int} {k:Int→Int} (h:decide (x<0)=false):sq x k=k x:=AEI (of_decide_eq_false h)
theorem O8 {x:Int} (h:decide (x<0)=false):0≤x:=Int.not_lt.1 (of_decide_eq_false h)
theorem ltN {a b:Nat} (h:decide ((a:Int)<b)=true):a<b:=by simpa using h
def szP {α:Type} (sz:α→Int→Int) (xs:List α) (r:Int) (x:Nat×Int):Prop:=x.1≤xs.length∧0≤x.2∧Wu sz (xs.drop x.1) x.2=r
section
variable {α:Type} {sz:α→Int→Int} {xs:List α} {r m l:Int} {k:Nat}
theorem Xp (h:decide (l-xs.length<0)=true):Ce sz xs l = -1:=by
 have:=Zg h
 simp[Ce,sq,Ew,this]
theorem szP.start (h:0≤l-xs.length):szP sz xs (Ce sz xs l) (0,l-xs.length):=⟨ax _,h,by
 have:¬ l-xs.length<0:=by omega
 simp[Ce,sq,Ew,this]⟩
theorem szP.neg (hP:szP sz xs r (k,m)) (hk:k<xs.length) (h:decide (sz xs[k] m<0)=true):r = -1:=by
 have hm:=hP.2.2
 simp only at hm
 rw[aG hk,Wu,Iq h] at hm
 exact hm.symm
theorem szP.step (hP:szP sz xs r (k,m)) (hk:k<xs.length) (h:decide (sz xs[k] m<0)=false):szP sz xs r (k+1,sz xs[k] m):=by
 have hm:=hP.2.2
 simp only at hm
 rw[aG hk,Wu,Ir h] at hm
 exact⟨hk,O8 h,hm⟩
theorem szP.fin (hP:szP sz xs r (k,m)) (h:decide ((k:Int)<xs.length)=false):r=m:=by
 have h1:=hP.1
 have hm:=hP.2.2
 simp only at hm h1
 have:k=xs.length:=by simp at h; omega
 subst this
 simpa [Wu] using hm.symm
end
def TJ {α:Type} (n:Nat) (e:α→List Cl) (xs:List α) (x:Nat×Int):MS:=⟨n,[(0,.c (.sl (xs.map e))),(1,.c (.v (.int .i64 x.2))),(5,.c (.v (.int .i64 x.1)))],[]⟩
theorem MK (xs:List Int) (l:Int) (hl:0≤l):Ctr prog 28 [.c (.sl (xs.map intC)),.c (.v (.int .i64 l))] [.val (.c (.v (.int .i64 (Ew xs.length l))))]:=by
 refine CM call28 func28 ntmps28 results28 fun hw=>?_
 have hlen:xs.length≤9223372036854775807:=by have:=hw.1.1; simpa [Go.maxLen] using this
 have hl2:l≤9223372036854775807:=KE hw.2.1
 simp only[go_sem,ae,wrap_i64 (n:=l-xs.length) (by omega) (by omega)]
 refine cndC.mk (fun h=>?_) (fun h=>?_)
 ·have h':l-xs.length<0:=by simpa using h
  simp only[go_sem]
  simp[Ew,h']
 ·have h':¬ l-xs.length<0:=by simpa using h
  simp only[go_sem]
  simp[Ew,h']
theorem h_ (xs:List Int) (l:Int) (hl:0≤l):Ctr prog 149 [.c (.sl (xs.map byteC)),.c (.v (.int .i64 l))] [.val (.c (.v (.int .i64 (Ew xs.length l))))]:=by
 refine CM call149 func149 ntmps149 results149 fun hw=>?_
 have hlen:xs.length≤9223372036854775807:=by have:=hw.1.1; simpa [Go.maxLen] using this
 have hl2:l≤9223372036854775807:=KE hw.2.1
 simp only[go_sem,ae,wrap_i64 (n:=l-xs.length) (by omega) (by omega)]
 refine cndC.mk (fun h=>?_) (fun h=>?_)
 ·have h':l-xs.length<0:=by simpa using h
  simp only[go_sem]
  simp[Ew,h']
 ·have h':¬ l-xs.length<0:=by simpa using h
  simp only[go_sem]
  simp[Ew,h']
theorem Rh (d:DVal) (l:Int) (hl:0≤l):Ctr prog 68 [.agg d.c,.c (.v (.int .i64 l))] [.val (.c (.v (.int .i64 (Ai d l))))]:=by
 refine CM call68 func68 ntmps68 results68 fun hw=>?_
 rw[Gf]
 have hl2:l≤9223372036854775807:=KE hw.2.1
 have hs:d.s.size≤9223372036854775807:=uD hw.1.2.2.1
 simp only[go_sem,wrap_i64 (n:=l-d.s.size) (by omega) (by omega)]
 refine cndC.mk (fun h=>?_) (fun h=>?_)
 ·have h0:l-d.s.size<0:=by simpa using h
  simp only[go_sem]
  simp[Ew,sq,h0]
 ·have h0:¬ l-d.s.size<0:=by simpa using h
  simp only[go_sem]
  simp[Ew,sq,h0]
theorem xu (xs:List DVal) (hx:∀ x∈xs,∀ l,0≤l→Ctr prog 68 [.agg x.c,.c (.v (.int .i64 l))] [.val (.c (.v (.int .i64 (Ai x l))))]) (l:Int) (hl:0≤l):Ctr prog 13 [.c (.sl (xs.map DVal.c)),.c (.v (.int .i64 l))] [.val (.c (.v (.int .i64 (Ce Ai xs l))))]:=by
 refine CM call13 func13 ntmps13 results13 fun hw=>?_
 have hlen:xs.length≤9223372036854775807:=by have:=hw.1.1; simpa [Go.maxLen] using this
 have hl2:l≤9223372036854775807:=KE hw.2.1
 simp only[go_sem,ae,wrap_i64 (n:=l-xs.length) (by omega) (by omega)]
 refine cndC.mk (fun h=>by simp only[go_sem,Xp h]) (fun h=>?_)
 simp only[go_sem]
 refine LoopK.mk 0 [0,1,5] (TJ 27 DVal.c xs) (szP Ai xs (Ce Ai xs l)) (fun x=>xs.length-x.1) (0,l-xs.length) ⟨⟨rfl,rfl⟩,rfl,szP.start (O8 h)⟩ ?_
 rintro⟨k,m⟩ hP
 simp only[go_sem,TJ,ae]
 refine cndC.mk (fun h=>?_) (fun h=>?_)
 ·have hk:=ltN h
  simp only[go_sem,AA _ hk]
  refine CW (hx xs[k] (aj hk) m hP.2.1) fun _=>?_
  simp only[go_sem]
  refine cndC.mk (fun h=>by simp only[go_sem,hP.neg hk h]) (fun h=>?_)
  simp only[go_sem,wrap_i64 (n:=(k:Int)+1) (by omega) (by omega)]
  exact⟨(k+1,Ai xs[k] m),⟨rfl,rfl⟩,rfl,hP.step hk h,by simp only; omega⟩
 ·simp only[go_sem,hP.fin h]
theorem ML (xs:List DVal) (l:Int) (hl:0≤l):Ctr prog 13 [.c (.sl (xs.map DVal.c)),.c (.v (.int .i64 l))] [.val (.c (.v (.int .i64 (Ce Ai xs l))))]:=xu xs (fun x _ l hl=>Rh x l hl) l hl
theorem rM (d:DRow) (l:Int) (hl:0≤l):Ctr prog 209 [.agg d.c,.c (.v (.int .i64 l))] [.val (.c (.v (.int .i64 (Gv d l))))]:=by
 refine CM call209 func209 ntmps209 results209 fun hw=>?_
 rw[SY]
 simp only[go_sem]
 refine CallK.mk _ (by simpa only[go_sem] using ML d.l _ (by omega)) fun _=>?_
 simp only[go_sem]
 refine cndC.mk (fun h=>by simp only[go_sem,Iq h]) fun h=>?_
 have h0:=O8 h
 simp only[go_sem,Ir h]
theorem xw (xs:List DRow) (hx:∀ x∈xs,∀ l,0≤l→Ctr prog 209 [.agg x.c,.c (.v (.int .i64 l))] [.val (.c (.v (.int .i64 (Gv x l))))]) (l:Int) (hl:0≤l):Ctr prog 150 [.c (.sl (xs.map DRow.c)),.c (.v (.int .i64 l))] [.val (.c (.v (.int .i64 (Ce Gv xs l))))]:=by
 refine CM call150 func150 ntmps150 results150 fun hw=>?_
 have hlen:xs.length≤9223372036854775807:=by have:=hw.1.1; simpa [Go.maxLen] using this
 have hl2:l≤9223372036854775807:=KE hw.2.1
 simp only[go_sem,ae,wrap_i64 (n:=l-xs.length) (by omega) (by omega)]
 refine cndC.mk (fun h=>by simp only[go_sem,Xp h]) (fun h=>?_)
 simp only[go_sem]
 refine LoopK.mk 0 [0,1,5] (TJ 27 DRow.c xs) (szP Gv xs (Ce Gv xs l)) (fun x=>xs.length-x.1) (0,l-xs.length) ⟨⟨rfl,rfl⟩,rfl,szP.start (O8 h)⟩ ?_
 rintro⟨k,m⟩ hP
 simp only[go_sem,TJ,ae]
 refine cndC.mk (fun h=>?_) (fun h=>?_)
 ·have hk:=ltN h
  simp only[go_sem,AA _ hk]
  refine CW (hx xs[k] (aj hk) m hP.2.1) fun _=>?_
  simp only[go_sem]
  refine cndC.mk (fun h=>by simp only[go_sem,hP.neg hk h]) (fun h=>?_)
  simp only[go_sem,wrap_i64 (n:=(k:Int)+1) (by omega) (by omega)]
  exact⟨(k+1,Gv xs[k] m),⟨rfl,rfl⟩,rfl,hP.step hk h,by simp only; omega⟩
 ·simp only[go_sem,hP.fin h]
theorem Vg (xs:List DRow) (l:Int) (hl:0≤l):Ctr prog 150 [.c (.sl (xs.map DRow.c)),.c (.v (.int .i64 l))] [.val (.c (.v (.int .i64 (Ce Gv xs l))))]:=xw xs (fun x _ l hl=>rM x l hl) l hl
theorem rO (xs:List DPred) (hx:∀ x∈xs,∀ l,0≤l→Ctr prog 74 [.agg x.c,.c (.v (.int .i64 l))] [.val (.c (.v (.int .i64 (BK x l))))]) (l:Int) (hl:0≤l):Ctr prog 142 [.c (.sl (xs.map DPred.c)),.c (.v (.int .i64 l))] [.val (.c (.v (.int .i64 (Ce BK xs l))))]:=by
 refine CM call142 func142 ntmps142 results142 fun hw=>?_
 have hlen:xs.length≤9223372036854775807:=by have:=hw.1.1; simpa [Go.maxLen] using this
 have hl2:l≤9223372036854775807:=KE hw.2.1
 simp only[go_sem,ae,wrap_i64 (n:=l-xs.length) (by omega) (by omega)]
 refine cndC.mk (fun h=>by simp only[go_sem,Xp h]) (fun h=>?_)
 simp only[go_sem]
 refine LoopK.mk 0 [0,1,5] (TJ 27 DPred.c xs) (szP BK xs (Ce BK xs l)) (fun x=>xs.length-x.1) (0,l-xs.length) ⟨⟨rfl,rfl⟩,rfl,szP.start (O8 h)⟩ ?_
 rintro⟨k,m⟩ hP
 simp only[go_sem,TJ,ae]
 refine cndC.mk (fun h=>?_) (fun h=>?_)
 ·have hk:=ltN h
  simp only[go_sem,AA _ hk]
  refine CW (hx xs[k] (aj hk) m hP.2.1) fun _=>?_
  simp only[go_sem]
  refine cndC.mk (fun h=>by simp only[go_sem,hP.neg hk h]) (fun h=>?_)
  simp only[go_sem,wrap_i64 (n:=(k:Int)+1) (by omega) (by omega)]
  exact⟨(k+1,BK xs[k] m),⟨rfl,rfl⟩,rfl,hP.step hk h,by simp only; omega⟩
 ·simp only[go_sem,hP.fin h]
theorem xx (d:DPred) (hx:∀ x∈d.l,∀ l,0≤l→Ctr prog 74 [.agg x.c,.c (.v (.int .i64 l))] [.val (.c (.v (.int .i64 (BK x l))))]) (l:Int) (hl:0≤l):Ctr prog 74 [.agg d.c,.c (.v (.int .i64 l))] [.val (.c (.v (.int .i64 (BK d l))))]:=by
 refine CM call74 func74 ntmps74 results74 fun hw=>?_
 rw[Ia]
 simp only[go_sem]
 refine CallK.mk _ (by simpa only[go_sem] using Rh d.v _ (by omega)) fun _=>?_
 simp only[go_sem]
 refine cndC.mk (fun h=>by simp only[go_sem,Iq h]) fun h=>?_
 have h0:=O8 h
 simp only[go_sem,Ir h]
 refine CallK.mk _ (by simpa only[go_sem] using rO d.l hx _ (by omega)) fun _=>?_
 simp only[go_sem]
 refine cndC.mk (fun h=>by simp only[go_sem,Iq h]) fun h=>?_
 have h1:=O8 h
 simp only[go_sem,Ir h]
theorem Vh:∀ (n:Nat) (d:DPred),SizeOf.sizeOf d≤n→∀ l,0≤l→Ctr prog 74 [.agg d.c,.c (.v (.int .i64 l))] [.val (.c (.v (.int .i64 (BK d l))))]
 | 0,d,h=>by cases d; simp at h
 | n+1,d,h=>xx d fun x hx=>Vh n x (by
  have h1:SizeOf.sizeOf x<SizeOf.sizeOf d.l:=v_ hx
  have h2:SizeOf.sizeOf d.l<SizeOf.sizeOf d:=by cases d; simp[DPred.l]; omega
  omega)
theorem lm (d:DPred) (l:Int) (hl:0≤l):Ctr prog 74 [.agg d.c,.c (.v (.int .i64 l))] [.val (.c (.v (.int .i64 (BK d l))))]:=Vh _ d (aN _) l hl
theorem TK (d:DQuery) (l:Int) (hl:0≤l):Ctr prog 19 [.agg d.c,.c (.v (.int .i64 l))] [.val (.c (.v (.int .i64 (DU d l))))]:=by
 refine CM call19 func19 ntmps19 results19 fun hw=>?_
 rw[JL]
 simp only[go_sem]
 refine CallK.mk _ (by simpa only[go_sem] using lm d.p _ (by omega)) fun _=>?_
 simp only[go_sem]
 refine cndC.mk (fun h=>by simp only[go_sem,Iq h]) fun h=>?_
 have h0:=O8 h
 simp only[go_sem,Ir h]
 refine CallK.mk _ (by simpa only[go_sem] using MK d.out _ (by omega)) fun _=>?_
 simp only[go_sem]
 refine cndC.mk (fun h=>by simp only[go_sem,Iq h]) fun h=>?_
 have h1:=O8 h
 simp only[go_sem,Ir h]
theorem Zd (d:DResult) (l:Int) (hl:0≤l):Ctr prog 151 [.agg d.c,.c (.v (.int .i64 l))] [.val (.c (.v (.int .i64 (Jq d l))))]:=by
 refine CM call151 func151 ntmps151 results151 fun hw=>?_
 rw[MB]
 simp only[go_sem]
 refine CallK.mk _ (by simpa only[go_sem] using Vg d.rows _ (by omega)) fun _=>?_
 simp only[go_sem]
 refine cndC.mk (fun h=>by simp only[go_sem,Iq h]) fun h=>?_
 have h0:=O8 h
 simp only[go_sem,Ir h]
 refine CallK.mk _ (by simpa only[go_sem] using Rh d.v _ (by omega)) fun _=>?_
 simp only[go_sem]
 refine cndC.mk (fun h=>by simp only[go_sem,Iq h]) fun h=>?_
 have h1:=O8 h
 simp only[go_sem,Ir h]
theorem lq (d:DSlot) (l:Int) (hl:0≤l):Ctr prog 240 [.agg d.c,.c (.v (.int .i64 l))] [.val (.c (.v (.int .i64 (G5 d l))))]:=by
 refine CM call240 func240 ntmps240 results240 fun hw=>?_
 rw[QU]
 simp only[go_sem]
 refine CallK.mk _ (by simpa only[go_sem] using ML d.l _ (by omega)) fun _=>?_
 simp only[go_sem]
 refine cndC.mk (fun h=>by simp only[go_sem,Iq h]) fun h=>?_
 have h0:=O8 h
 simp only[go_sem,Ir h]
theorem rP (xs:List DSlot) (hx:∀ x∈xs,∀ l,0≤l→Ctr prog 240 [.agg x.c,.c (.v (.int .i64 l))] [.val (.c (.v (.int .i64 (G5 x l))))]) (l:Int) (hl:0≤l):Ctr prog 208 [.c (.sl (xs.map DSlot.c)),.c (.v (.int .i64 l))] [.val (.c (.v (.int .i64 (Ce G5 xs l))))]:=by
 refine CM call208 func208 ntmps208 results208 fun hw=>?_
 have hlen:xs.length≤9223372036854775807:=by have:=hw.1.1; simpa [Go.maxLen] using this
 have hl2:l≤9223372036854775807:=KE hw.2.1
 simp only[go_sem,ae,wrap_i64 (n:=l-xs.length) (by omega) (by omega)]
 refine cndC.mk (fun h=>by simp only[go_sem,Xp h]) (fun h=>?_)
 simp only[go_sem]
 refine LoopK.mk 0 [0,1,5] (TJ 27 DSlot.c xs) (szP G5 xs (Ce G5 xs l)) (fun x=>xs.length-x.1) (0,l-xs.length) ⟨⟨rfl,rfl⟩,rfl,szP.start (O8 h)⟩ ?_
 rintro⟨k,m⟩ hP
 simp only[go_sem,TJ,ae]
 refine cndC.mk (fun h=>?_) (fun h=>?_)
 ·have hk:=ltN h
  simp only[go_sem,AA _ hk]
  refine CW (hx xs[k] (aj hk) m hP.2.1) fun _=>?_
  simp only[go_sem]
  refine cndC.mk (fun h=>by simp only[go_sem,hP.neg hk h]) (fun h=>?_)
  simp only[go_sem,wrap_i64 (n:=(k:Int)+1) (by omega) (by omega)]
  exact⟨(k+1,G5 xs[k] m),⟨rfl,rfl⟩,rfl,hP.step hk h,by simp only; omega⟩
 ·simp only[go_sem,hP.fin h]
theorem iC (xs:List DSlot) (l:Int) (hl:0≤l):Ctr prog 208 [.c (.sl (xs.map DSlot.c)),.c (.v (.int .i64 l))] [.val (.c (.v (.int .i64 (Ce G5 xs l))))]:=rP xs (fun x _ l hl=>lq x l hl) l hl
theorem iD (d:DChunk) (l:Int) (hl:0≤l):Ctr prog 148 [.agg d.c,.c (.v (.int .i64 l))] [.val (.c (.v (.int .i64 (Jf d l))))]:=by
 refine CM call148 func148 ntmps148 results148 fun hw=>?_
 rw[N9]
 simp only[go_sem]
 refine CallK.mk _ (by simpa only[go_sem] using iC d.l _ (by omega)) fun _=>?_
 simp only[go_sem]
 refine cndC.mk (fun h=>by simp only[go_sem,Iq h]) fun h=>?_
 have h0:=O8 h
 simp only[go_sem,Ir h]
theorem rQ (d:DBuf) (l:Int) (hl:0≤l):Ctr prog 81 [.agg d.c,.c (.v (.int .i64 l))] [.val (.c (.v (.int .i64 (FU d l))))]:=by
 refine CM call81 func81 ntmps81 results81 fun hw=>?_
 rw[Si]
 simp only[go_sem]
 refine CallK.mk _ (by simpa only[go_sem] using iD d.c0 _ (by omega)) fun _=>?_
 simp only[go_sem]
 refine cndC.mk (fun h=>by simp only[go_sem,Iq h]) fun h=>?_
 have h0:=O8 h
 simp only[go_sem,Ir h]
 refine CallK.mk _ (by simpa only[go_sem] using h_ d.g _ (by omega)) fun _=>?_
 simp only[go_sem]
 refine cndC.mk (fun h=>by simp only[go_sem,Iq h]) fun h=>?_
 have h1:=O8 h
 simp only[go_sem,Ir h]
theorem xy (xs:List DBuf) (hx:∀ x∈xs,∀ l,0≤l→Ctr prog 81 [.agg x.c,.c (.v (.int .i64 l))] [.val (.c (.v (.int .i64 (FU x l))))]) (l:Int) (hl:0≤l):Ctr prog 27 [.c (.sl (xs.map DBuf.c)),.c (.v (.int .i64 l))] [.val (.c (.v (.int .i64 (Ce FU xs l))))]:=by
 refine CM call27 func27 ntmps27 results27 fun hw=>?_
 have hlen:xs.length≤9223372036854775807:=by have:=hw.1.1; simpa [Go.maxLen] using this
 have hl2:l≤9223372036854775807:=KE hw.2.1
 simp only[go_sem,ae,wrap_i64 (n:=l-xs.length) (by omega) (by omega)]
 refine cndC.mk (fun h=>by simp only[go_sem,Xp h]) (fun h=>?_)
 simp only[go_sem]
 refine LoopK.mk 0 [0,1,5] (TJ 27 DBuf.c xs) (szP FU xs (Ce FU xs l)) (fun x=>xs.length-x.1) (0,l-xs.length) ⟨⟨rfl,rfl⟩,rfl,szP.start (O8 h)⟩ ?_
 rintro⟨k,m⟩ hP
 simp only[go_sem,TJ,ae]
 refine cndC.mk (fun h=>?_) (fun h=>?_)
 ·have hk:=ltN h
  simp only[go_sem,AA _ hk]
  refine CW (hx xs[k] (aj hk) m hP.2.1) fun _=>?_
  simp only[go_sem]
  refine cndC.mk (fun h=>by simp only[go_sem,hP.neg hk h]) (fun h=>?_)
  simp only[go_sem,wrap_i64 (n:=(k:Int)+1) (by omega) (by omega)]
  exact⟨(k+1,FU xs[k] m),⟨rfl,rfl⟩,rfl,hP.step hk h,by simp only; omega⟩
 ·simp only[go_sem,hP.fin h]
theorem lu (xs:List DBuf) (l:Int) (hl:0≤l):Ctr prog 27 [.c (.sl (xs.map DBuf.c)),.c (.v (.int .i64 l))] [.val (.c (.v (.int .i64 (Ce FU xs l))))]:=xy xs (fun x _ l hl=>rQ x l hl) l hl
theorem iE (xs:List DDead) (l:Int) (hl:0≤l):Ctr prog 29 [.c (.sl (xs.map DDead.c)),.c (.v (.int .i64 l))] [.val (.c (.v (.int .i64 (Ew xs.length l))))]:=by
 refine CM call29 func29 ntmps29 results29 fun hw=>?_
 have hlen:xs.length≤9223372036854775807:=by have:=hw.1.1; simpa [Go.maxLen] using this
 have hl2:l≤9223372036854775807:=KE hw.2.1
 simp only[go_sem,ae,wrap_i64 (n:=l-xs.length) (by omega) (by omega)]
 refine cndC.mk (fun h=>?_) (fun h=>?_)
 ·have h':l-xs.length<0:=by simpa using h
  simp only[go_sem]
  simp[Ew,h']
 ·have h':¬ l-xs.length<0:=by simpa using h
  simp only[go_sem]
  simp[Ew,h']
theorem Vj (xs:List DRef) (l:Int) (hl:0≤l):Ctr prog 80 [.c (.sl (xs.map DRef.c)),.c (.v (.int .i64 l))] [.val (.c (.v (.int .i64 (Ew xs.length l))))]:=by
 refine CM call80 func80 ntmps80 results80 fun hw=>?_
 have hlen:xs.length≤9223372036854775807:=by have:=hw.1.1; simpa [Go.maxLen] using this
 have hl2:l≤9223372036854775807:=KE hw.2.1
 simp only[go_sem,ae,wrap_i64 (n:=l-xs.length) (by omega) (by omega)]
 refine cndC.mk (fun h=>?_) (fun h=>?_)
 ·have h':l-xs.length<0:=by simpa using h
  simp only[go_sem]
  simp[Ew,h']
 ·have h':¬ l-xs.length<0:=by simpa using h
  simp only[go_sem]
  simp[Ew,h']
theorem rU (d:DDir) (l:Int) (hl:0≤l):Ctr prog 26 [.agg d.c,.c (.v (.int .i64 l))] [.val (.c (.v (.int .i64 (G6 d l))))]:=by
 refine CM call26 func26 ntmps26 results26 fun hw=>?_
 rw[XZ]
 simp only[go_sem]
 refine CallK.mk _ (by simpa only[go_sem] using Vj d.l _ (by omega)) fun _=>?_
 simp only[go_sem]
 refine cndC.mk (fun h=>by simp only[go_sem,Iq h]) fun h=>?_
 have h0:=O8 h
 simp only[go_sem,Ir h]
theorem lw (d:DTask) (l:Int) (hl:0≤l):Ctr prog 82 [.agg d.c,.c (.v (.int .i64 l))] [.val (.c (.v (.int .i64 (Fe d l))))]:=by
 refine CM call82 func82 ntmps82 results82 fun hw=>?_
 rw[QV]
 simp only[go_sem]
 refine CallK.mk _ (by simpa only[go_sem] using ML d.r _ (by omega)) fun _=>?_
 simp only[go_sem]
 refine cndC.mk (fun h=>by simp only[go_sem,Iq h]) fun h=>?_
 have h0:=O8 h
 simp only[go_sem,Ir h]
 refine CallK.mk _ (by simpa only[go_sem] using TK d.q _ (by omega)) fun _=>?_
 simp only[go_sem]
 refine cndC.mk (fun h=>by simp only[go_sem,Iq h]) fun h=>?_
 have h1:=O8 h
 simp only[go_sem,Ir h]
 refine CallK.mk _ (by simpa only[go_sem] using Vj d.l _ (by omega)) fun _=>?_
 simp only[go_sem]
 refine cndC.mk (fun h=>by simp only[go_sem,Iq h]) fun h=>?_
 have h2:=O8 h
 simp only[go_sem,Ir h]
 refine CallK.mk _ (by simpa only[go_sem] using Vg d.got _ (by omega)) fun _=>?_
 simp only[go_sem]
 refine cndC.mk (fun h=>by simp only[go_sem,Iq h]) fun h=>?_
 have h3:=O8 h
 simp only[go_sem,Ir h]
theorem rV (xs:List DTask) (hx:∀ x∈xs,∀ l,0≤l→Ctr prog 82 [.agg x.c,.c (.v (.int .i64 l))] [.val (.c (.v (.int .i64 (Fe x l))))]) (l:Int) (hl:0≤l):Ctr prog 30 [.c (.sl (xs.map DTask.c)),.c (.v (.int .i64 l))] [.val (.c (.v (.int .i64 (Ce Fe xs l))))]:=by
 refine CM call30 func30 ntmps30 results30 fun hw=>?_
 have hlen:xs.length≤9223372036854775807:=by have:=hw.1.1; simpa [Go.maxLen] using this
 have hl2:l≤9223372036854775807:=KE hw.2.1
 simp only[go_sem,ae,wrap_i64 (n:=l-xs.length) (by omega) (by omega)]
 refine cndC.mk (fun h=>by simp only[go_sem,Xp h]) (fun h=>?_)
 simp only[go_sem]
 refine LoopK.mk 0 [0,1,5] (TJ 27 DTask.c xs) (szP Fe xs (Ce Fe xs l)) (fun x=>xs.length-x.1) (0,l-xs.length) ⟨⟨rfl,rfl⟩,rfl,szP.start (O8 h)⟩ ?_
 rintro⟨k,m⟩ hP
 simp only[go_sem,TJ,ae]
 refine cndC.mk (fun h=>?_) (fun h=>?_)
 ·have hk:=ltN h
  simp only[go_sem,AA _ hk]
  refine CW (hx xs[k] (aj hk) m hP.2.1) fun _=>?_
  simp only[go_sem]
  refine cndC.mk (fun h=>by simp only[go_sem,hP.neg hk h]) (fun h=>?_)
  simp only[go_sem,wrap_i64 (n:=(k:Int)+1) (by omega) (by omega)]
  exact⟨(k+1,Fe xs[k] m),⟨rfl,rfl⟩,rfl,hP.step hk h,by simp only; omega⟩
 ·simp only[go_sem,hP.fin h]
theorem iF (xs:List DTask) (l:Int) (hl:0≤l):Ctr prog 30 [.c (.sl (xs.map DTask.c)),.c (.v (.int .i64 l))] [.val (.c (.v (.int .i64 (Ce Fe xs l))))]:=rV xs (fun x _ l hl=>lw x l hl) l hl
theorem l7 (d:DDeed) (l:Int) (hl:0≤l):Ctr prog 83 [.agg d.c,.c (.v (.int .i64 l))] [.val (.c (.v (.int .i64 (Gq d l))))]:=by
 refine CM call83 func83 ntmps83 results83 fun hw=>?_
 rw[QW]
 simp only[go_sem]
 refine CallK.mk _ (by simpa only[go_sem] using ML d.r _ (by omega)) fun _=>?_
 simp only[go_sem]
 refine cndC.mk (fun h=>by simp only[go_sem,Iq h]) fun h=>?_
 have h0:=O8 h
 simp only[go_sem,Ir h]
 refine CallK.mk _ (by simpa only[go_sem] using TK d.q _ (by omega)) fun _=>?_
 simp only[go_sem]
 refine cndC.mk (fun h=>by simp only[go_sem,Iq h]) fun h=>?_
 have h1:=O8 h
 simp only[go_sem,Ir h]
 refine CallK.mk _ (by simpa only[go_sem] using Zd d.res _ (by omega)) fun _=>?_
 simp only[go_sem]
 refine cndC.mk (fun h=>by simp only[go_sem,Iq h]) fun h=>?_
 have h2:=O8 h
 simp only[go_sem,Ir h]
theorem rW (xs:List DDeed) (hx:∀ x∈xs,∀ l,0≤l→Ctr prog 83 [.agg x.c,.c (.v (.int .i64 l))] [.val (.c (.v (.int .i64 (Gq x l))))]) (l:Int) (hl:0≤l):Ctr prog 31 [.c (.sl (xs.map DDeed.c)),.c (.v (.int .i64 l))] [.val (.c (.v (.int .i64 (Ce Gq xs l))))]:=by
 refine CM call31 func31 ntmps31 results31 fun hw=>?_
 have hlen:xs.length≤9223372036854775807:=by have:=hw.1.1; simpa [Go.maxLen] using this
 have hl2:l≤9223372036854775807:=KE hw.2.1
 simp only[go_sem,ae,wrap_i64 (n:=l-xs.length) (by omega) (by omega)]
 refine cndC.mk (fun h=>by simp only[go_sem,Xp h]) (fun h=>?_)
 simp only[go_sem]
 refine LoopK.mk 0 [0,1,5] (TJ 27 DDeed.c xs) (szP Gq xs (Ce Gq xs l)) (fun x=>xs.length-x.1) (0,l-xs.length) ⟨⟨rfl,rfl⟩,rfl,szP.start (O8 h)⟩ ?_
 rintro⟨k,m⟩ hP
 simp only[go_sem,TJ,ae]
 refine cndC.mk (fun h=>?_) (fun h=>?_)
 ·have hk:=ltN h
  simp only[go_sem,AA _ hk]
  refine CW (hx xs[k] (aj hk) m hP.2.1) fun _=>?_
  simp only[go_sem]
  refine cndC.mk (fun h=>by simp only[go_sem,hP.neg hk h]) (fun h=>?_)
  simp only[go_sem,wrap_i64 (n:=(k:Int)+1) (by omega) (by omega)]
  exact⟨(k+1,Gq xs[k] m),⟨rfl,rfl⟩,rfl,hP.step hk h,by simp only; omega⟩
 ·simp only[go_sem,hP.fin h]
theorem iG (xs:List DDeed) (l:Int) (hl:0≤l):Ctr prog 31 [.c (.sl (xs.map DDeed.c)),.c (.v (.int .i64 l))] [.val (.c (.v (.int .i64 (Ce Gq xs l))))]:=rW xs (fun x _ l hl=>l7 x l hl) l hl
theorem l9 (d:DConf) (l:Int) (hl:0≤l):Ctr prog 25 [.agg d.c,.c (.v (.int .i64 l))] [.val (.c (.v (.int .i64 (EK d l))))]:=by
 refine CM call25 func25 ntmps25 results25 fun hw=>?_
 rw[Um]
 simp only[go_sem]
 refine CallK.mk _ (by simpa only[go_sem] using MK d.cols _ (by omega)) fun _=>?_
 simp only[go_sem]
 refine cndC.mk (fun h=>by simp only[go_sem,Iq h]) fun h=>?_
 have h0:=O8 h
 simp only[go_sem,Ir h]
theorem iH (d:DWorld) (l:Int) (hl:0≤l):Ctr prog 6 [.agg d.c,.c (.v (.int .i64 l))] [.val (.c (.v (.int .i64 (Il d l))))]:=by
 refine CM call6 func6 ntmps6 results6 fun hw=>?_
 rw[N_]
 simp only[go_sem]
 refine CallK.mk _ (by simpa only[go_sem] using l9 d.c0 _ (by omega)) fun _=>?_
 simp only[go_sem]
 refine cndC.mk (fun h=>by simp only[go_sem,Iq h]) fun h=>?_
 have h0:=O8 h
 simp only[go_sem,Ir h]
 refine CallK.mk _ (by simpa only[go_sem] using rU d.d _ (by omega)) fun _=>?_
 simp only[go_sem]
 refine cndC.mk (fun h=>by simp only[go_sem,Iq h]) fun h=>?_
 have h1:=O8 h
 simp only[go_sem,Ir h]
 refine CallK.mk _ (by simpa only[go_sem] using lu d.b _ (by omega)) fun _=>?_
 simp only[go_sem]
 refine cndC.mk (fun h=>by simp only[go_sem,Iq h]) fun h=>?_
 have h2:=O8 h
 simp only[go_sem,Ir h]
 refine CallK.mk _ (by simpa only[go_sem] using MK d.m _ (by omega)) fun _=>?_
 simp only[go_sem]
 refine cndC.mk (fun h=>by simp only[go_sem,Iq h]) fun h=>?_
 have h3:=O8 h
 simp only[go_sem,Ir h]
 refine CallK.mk _ (by simpa only[go_sem] using iE d.x _ (by omega)) fun _=>?_
 simp only[go_sem]
 refine cndC.mk (fun h=>by simp only[go_sem,Iq h]) fun h=>?_
 have h4:=O8 h
 simp only[go_sem,Ir h]
 refine CallK.mk _ (by simpa only[go_sem] using MK d.p _ (by omega)) fun _=>?_
 simp only[go_sem]
 refine cndC.mk (fun h=>by simp only[go_sem,Iq h]) fun h=>?_
 have h5:=O8 h
 simp only[go_sem,Ir h]
 refine CallK.mk _ (by simpa only[go_sem] using iF d.tasks _ (by omega)) fun _=>?_
 simp only[go_sem]
 refine cndC.mk (fun h=>by simp only[go_sem,Iq h]) fun h=>?_
 have h6:=O8 h
 simp only[go_sem,Ir h]
 refine CallK.mk _ (by simpa only[go_sem] using iG d.deeds _ (by omega)) fun _=>?_
 simp only[go_sem]
 refine cndC.mk (fun h=>by simp only[go_sem,Iq h]) fun h=>?_
 have h7:=O8 h
 simp only[go_sem,Ir h]
theorem OG (xs:List Int) (hf:xs.length≤1048576):Ctr prog 40 [.c (.sl (xs.map intC))] [.own 3 1 (xs.map intC) true]:=by
 refine CM call40 func40 ntmps40 results40 fun _=>?_
 have hc:(0:Int)≤xs.length∧(xs.length:Int)≤xs.length∧(xs.length:Int)≤2147483648:=by omega
 simp only[go_sem,ae,hc,qx]
 have hg:=fun k=>@Le _ intC intC.pure [.v (.int .i64 0)] rfl xs k 3 1 true true
 refine LoopK.mk 1 [0,3,4] (A:=Nat) (fun k=>⟨22,[(0,.c (.sl (xs.map intC))),(3,.c (.ref 0)),(4,.c (.v (.int .i64 k)))],[⟨3,1,grow (xs.map intC) [.v (.int .i64 0)] k,true,true⟩]⟩) (fun k=>k≤xs.length) (fun k=>xs.length-k) 0 ⟨⟨rfl,by have:=hg 0; simp only[Bv,ae] at this; exact this⟩,by simp only[Bv,ae]; rfl,ax _⟩ ?_
 intro k hk
 simp only[go_sem,ae]
 refine cndC.mk (fun h=>?_) (fun h=>?_)
 ·have hk':k<xs.length:=by simpa using h
  have hset:=@Fj _ intC xs [.v (.int .i64 0)] k hk'
  simp only[go_sem] at hset
  simp only[go_sem,AA _ hk',BU hk,DN hk',hk',hset,wrap_i64 (n:=(k:Int)+1) (by omega) (by omega)]
  exact⟨k+1,⟨rfl,hg _⟩,rfl,by omega,by first | omega | (simp only; omega)⟩
 ·have hk':k=xs.length:=by simp at h; omega
  subst hk'
  rw[Fq]
  simp only[go_sem]
  simp[EW (AQ intC.pure)]
theorem l_ (xs:List Int) (hf:xs.length≤1048576):Ctr prog 173 [.c (.sl (xs.map byteC))] [.own 5 1 (xs.map byteC) true]:=by
 refine CM call173 func173 ntmps173 results173 fun _=>?_
 have hc:(0:Int)≤xs.length∧(xs.length:Int)≤xs.length∧(xs.length:Int)≤2147483648:=by omega
 simp only[go_sem,ae,hc,qx]
 have hg:=fun k=>@Le _ byteC byteC.pure [.v (.int .u8 0)] rfl xs k 5 1 true true
 refine LoopK.mk 1 [0,3,4] (A:=Nat) (fun k=>⟨22,[(0,.c (.sl (xs.map byteC))),(3,.c (.ref 0)),(4,.c (.v (.int .i64 k)))],[⟨5,1,grow (xs.map byteC) [.v (.int .u8 0)] k,true,true⟩]⟩) (fun k=>k≤xs.length) (fun k=>xs.length-k) 0 ⟨⟨rfl,by have:=hg 0; simp only[Bv,ae] at this; exact this⟩,by simp only[Bv,ae]; rfl,ax _⟩ ?_
 intro k hk
 simp only[go_sem,ae]
 refine cndC.mk (fun h=>?_) (fun h=>?_)
 ·have hk':k<xs.length:=by simpa using h
  have hset:=@Fj _ byteC xs [.v (.int .u8 0)] k hk'
  simp only[go_sem] at hset
  simp only[go_sem,AA _ hk',BU hk,DN hk',hk',hset,wrap_i64 (n:=(k:Int)+1) (by omega) (by omega)]
  exact⟨k+1,⟨rfl,hg _⟩,rfl,by omega,by first | omega | (simp only; omega)⟩
 ·have hk':k=xs.length:=by simp at h; omega
  subst hk'
  rw[Fq]
  simp only[go_sem]
  simp[EW (AQ byteC.pure)]
theorem JU (d:DVal) (hf:Ff d):Ctr prog 70 [.agg d.c] [.val (.agg d.c)]:=by
 rw[Un] at hf
 have f0:=hf
 refine CM call70 func70 ntmps70 results70 fun _=>?_
 simp only[go_sem]
theorem OH (xs:List DVal) (hf:xs.length≤1048576) (hx:∀ x∈xs,Ctr prog 70 [.agg x.c] [.val (.agg x.c)]):Ctr prog 15 [.c (.sl (xs.map DVal.c))] [.own 68 3 (xs.map DVal.c) true]:=by
 refine CM call15 func15 ntmps15 results15 fun _=>?_
 have hc:(0:Int)≤xs.length∧(xs.length:Int)≤xs.length∧(xs.length:Int)≤2147483648:=by omega
 simp only[go_sem,ae,hc,qx]
 have hg:=fun k=>@Le _ DVal.c DVal.pure [.v (.int .i64 0),.v (.int .i64 0),.v (.string ByteArray.empty)] rfl xs k 68 3 true true
 refine LoopK.mk 1 [0,3,4] (A:=Nat) (fun k=>⟨23,[(0,.c (.sl (xs.map DVal.c))),(3,.c (.ref 0)),(4,.c (.v (.int .i64 k)))],[⟨68,3,grow (xs.map DVal.c) [.v (.int .i64 0),.v (.int .i64 0),.v (.string ByteArray.empty)] k,true,true⟩]⟩) (fun k=>k≤xs.length) (fun k=>xs.length-k) 0 ⟨⟨rfl,by have:=hg 0; simp only[Bv,ae] at this; exact this⟩,by simp only[Bv,ae]; rfl,ax _⟩ ?_
 intro k hk
 simp only[go_sem,ae]
 refine cndC.mk (fun h=>?_) (fun h=>?_)
 ·have hk':k<xs.length:=by simpa using h
  have hset:=@Fj _ DVal.c xs [.v (.int .i64 0),.v (.int .i64 0),.v (.string ByteArray.empty)] k hk'
  simp only[go_sem] at hset
  simp only[go_sem,AA _ hk',BU hk,DN hk',hk',hset,wrap_i64 (n:=(k:Int)+1) (by omega) (by omega)]
  refine CW (hx xs[k] (aj hk')) fun _=>?_
  simp only[go_sem,AA _ hk',BU hk,DN hk',hk',hset,wrap_i64 (n:=(k:Int)+1) (by omega) (by omega)]
  exact⟨k+1,⟨rfl,hg _⟩,rfl,by omega,by first | omega | (simp only; omega)⟩
 ·have hk':k=xs.length:=by simp at h; omega
  subst hk'
  rw[Fq]
  simp only[go_sem]
  simp[EW (AQ DVal.pure)]
theorem mD (d:DDead):Ctr prog 102 [.agg d.c] [.val (.agg d.c)]:=by
 refine CM call102 func102 ntmps102 results102 fun _=>?_
 simp only[go_sem]
theorem mF (xs:List DDead) (hf:xs.length≤1048576) (hx:∀ x∈xs,Ctr prog 102 [.agg x.c] [.val (.agg x.c)]):Ctr prog 41 [.c (.sl (xs.map DDead.c))] [.own 163 3 (xs.map DDead.c) true]:=by
 refine CM call41 func41 ntmps41 results41 fun _=>?_
 have hc:(0:Int)≤xs.length∧(xs.length:Int)≤xs.length∧(xs.length:Int)≤2147483648:=by omega
 simp only[go_sem,ae,hc,qx]
 have hg:=fun k=>@Le _ DDead.c DDead.pure [.v (.int .i64 0),.v (.int .i64 0),.v (.int .i64 0)] rfl xs k 163 3 true true
 refine LoopK.mk 1 [0,3,4] (A:=Nat) (fun k=>⟨23,[(0,.c (.sl (xs.map DDead.c))),(3,.c (.ref 0)),(4,.c (.v (.int .i64 k)))],[⟨163,3,grow (xs.map DDead.c) [.v (.int .i64 0),.v (.int .i64 0),.v (.int .i64 0)] k,true,true⟩]⟩) (fun k=>k≤xs.length) (fun k=>xs.length-k) 0 ⟨⟨rfl,by have:=hg 0; simp only[Bv,ae] at this; exact this⟩,by simp only[Bv,ae]; rfl,ax _⟩ ?_
 intro k hk
 simp only[go_sem,ae]
 refine cndC.mk (fun h=>?_) (fun h=>?_)
 ·have hk':k<xs.length:=by simpa using h
  have hset:=@Fj _ DDead.c xs [.v (.int .i64 0),.v (.int .i64 0),.v (.int .i64 0)] k hk'
  simp only[go_sem] at hset
  simp only[go_sem,AA _ hk',BU hk,DN hk',hk',hset,wrap_i64 (n:=(k:Int)+1) (by omega) (by omega)]
  refine CW (hx xs[k] (aj hk')) fun _=>?_
  simp only[go_sem,AA _ hk',BU hk,DN hk',hk',hset,wrap_i64 (n:=(k:Int)+1) (by omega) (by omega)]
  exact⟨k+1,⟨rfl,hg _⟩,rfl,by omega,by first | omega | (simp only; omega)⟩
 ·have hk':k=xs.length:=by simp at h; omega
  subst hk'
  rw[Fq]
  simp only[go_sem]
  simp[EW (AQ DDead.pure)]
theorem Xq (d:DRef):Ctr prog 171 [.agg d.c] [.val (.agg d.c)]:=by
 refine CM call171 func171 ntmps171 results171 fun _=>?_
 simp only[go_sem]
theorem Xr (xs:List DRef) (hf:xs.length≤1048576) (hx:∀ x∈xs,Ctr prog 171 [.agg x.c] [.val (.agg x.c)]):Ctr prog 100 [.c (.sl (xs.map DRef.c))] [.own 196 5 (xs.map DRef.c) true]:=by
 refine CM call100 func100 ntmps100 results100 fun _=>?_
 have hc:(0:Int)≤xs.length∧(xs.length:Int)≤xs.length∧(xs.length:Int)≤2147483648:=by omega
 simp only[go_sem,ae,hc,qx]
 have hg:=fun k=>@Le _ DRef.c DRef.pure [.v (.int .i64 0),.v (.int .i64 0),.v (.int .i64 0),.v (.int .i64 0),.v (.int .i64 0)] rfl xs k 196 5 true true
 refine LoopK.mk 1 [0,3,4] (A:=Nat) (fun k=>⟨23,[(0,.c (.sl (xs.map DRef.c))),(3,.c (.ref 0)),(4,.c (.v (.int .i64 k)))],[⟨196,5,grow (xs.map DRef.c) [.v (.int .i64 0),.v (.int .i64 0),.v (.int .i64 0),.v (.int .i64 0),.v (.int .i64 0)] k,true,true⟩]⟩) (fun k=>k≤xs.length) (fun k=>xs.length-k) 0 ⟨⟨rfl,by have:=hg 0; simp only[Bv,ae] at this; exact this⟩,by simp only[Bv,ae]; rfl,ax _⟩ ?_
 intro k hk
 simp only[go_sem,ae]
 refine cndC.mk (fun h=>?_) (fun h=>?_)
 ·have hk':k<xs.length:=by simpa using h
  have hset:=@Fj _ DRef.c xs [.v (.int .i64 0),.v (.int .i64 0),.v (.int .i64 0),.v (.int .i64 0),.v (.int .i64 0)] k hk'
  simp only[go_sem] at hset
  simp only[go_sem,AA _ hk',BU hk,DN hk',hk',hset,wrap_i64 (n:=(k:Int)+1) (by omega) (by omega)]
  refine CW (hx xs[k] (aj hk')) fun _=>?_
  simp only[go_sem,AA _ hk',BU hk,DN hk',hk',hset,wrap_i64 (n:=(k:Int)+1) (by omega) (by omega)]
  exact⟨k+1,⟨rfl,hg _⟩,rfl,by omega,by first | omega | (simp only; omega)⟩
 ·have hk':k=xs.length:=by simp at h; omega
  subst hk'
  rw[Fq]
  simp only[go_sem]
  simp[EW (AQ DRef.pure)]
theorem MM (xs:List Int):Ctr prog 50 [.c (.sl (xs.map intC)),.c (.sl (xs.map intC))] [.val (.c (.v (.bool true)))]:=by
 refine CM call50 func50 ntmps50 results50 fun hw=>?_
 have hlen:xs.length≤9223372036854775807:=by have:=hw.1.1; simpa [Go.maxLen] using this
 simp only[go_sem,ae,au,ay]
 refine LoopK.mk 0 [0,1,5] (A:=Nat) (fun k=>⟨26,[(0,.c (.sl (xs.map intC))),(1,.c (.sl (xs.map intC))),(5,.c (.v (.int .i64 k)))],[]⟩) (fun k=>k≤xs.length) (fun k=>xs.length-k) 0 ⟨⟨rfl,rfl⟩,rfl,ax _⟩ ?_
 intro k hk
 simp only[go_sem,ae]
 refine cndC.mk (fun h=>?_) (fun h=>?_)
 ·have hk':k<xs.length:=by simpa using h
  simp only[go_sem]
  refine DrawK.mk ?_
  simp only[go_sem,ae,au,ay,AA _ hk',hk',wrap_i64 (n:=(k:Int)+1) (by omega) (by omega)]
  exact⟨k+1,⟨rfl,rfl⟩,rfl,by omega,by first | omega | (simp only; omega)⟩
 ·simp only[go_sem]
theorem iI (xs:List Int):Ctr prog 200 [.c (.sl (xs.map byteC)),.c (.sl (xs.map byteC))] [.val (.c (.v (.bool true)))]:=by
 refine CM call200 func200 ntmps200 results200 fun hw=>?_
 have hlen:xs.length≤9223372036854775807:=by have:=hw.1.1; simpa [Go.maxLen] using this
 simp only[go_sem,ae,au,ay]
 refine LoopK.mk 0 [0,1,5] (A:=Nat) (fun k=>⟨26,[(0,.c (.sl (xs.map byteC))),(1,.c (.sl (xs.map byteC))),(5,.c (.v (.int .i64 k)))],[]⟩) (fun k=>k≤xs.length) (fun k=>xs.length-k) 0 ⟨⟨rfl,rfl⟩,rfl,ax _⟩ ?_
 intro k hk
 simp only[go_sem,ae]
 refine cndC.mk (fun h=>?_) (fun h=>?_)
 ·have hk':k<xs.length:=by simpa using h
  simp only[go_sem]
  refine DrawK.mk ?_
  simp only[go_sem,ae,au,ay,AA _ hk',hk',wrap_i64 (n:=(k:Int)+1) (by omega) (by omega)]
  exact⟨k+1,⟨rfl,rfl⟩,rfl,by omega,by first | omega | (simp only; omega)⟩
 ·simp only[go_sem]
theorem Ri (d:DVal):Ctr prog 72 [.agg d.c,.agg d.c] [.val (.c (.v (.bool true)))]:=by
 refine CM call72 func72 ntmps72 results72 fun _=>?_
 simp only[go_sem,au,ay]
theorem x_ (xs:List DVal) (hx:∀ x∈xs,Ctr prog 72 [.agg x.c,.agg x.c] [.val (.c (.v (.bool true)))]):Ctr prog 17 [.c (.sl (xs.map DVal.c)),.c (.sl (xs.map DVal.c))] [.val (.c (.v (.bool true)))]:=by
 refine CM call17 func17 ntmps17 results17 fun hw=>?_
 have hlen:xs.length≤9223372036854775807:=by have:=hw.1.1; simpa [Go.maxLen] using this
 simp only[go_sem,ae,au,ay]
 refine LoopK.mk 0 [0,1,5] (A:=Nat) (fun k=>⟨27,[(0,.c (.sl (xs.map DVal.c))),(1,.c (.sl (xs.map DVal.c))),(5,.c (.v (.int .i64 k)))],[]⟩) (fun k=>k≤xs.length) (fun k=>xs.length-k) 0 ⟨⟨rfl,rfl⟩,rfl,ax _⟩ ?_
 intro k hk
 simp only[go_sem,ae]
 refine cndC.mk (fun h=>?_) (fun h=>?_)
 ·have hk':k<xs.length:=by simpa using h
  simp only[go_sem]
  refine DrawK.mk ?_
  simp only[go_sem,ae,au,ay,AA _ hk',hk',wrap_i64 (n:=(k:Int)+1) (by omega) (by omega)]
  refine CY (hx xs[k] (aj hk')) ?_
  simp only[go_sem,AA _ hk',wrap_i64 (n:=(k:Int)+1) (by omega) (by omega)]
  exact⟨k+1,⟨rfl,rfl⟩,rfl,by omega,by first | omega | (simp only; omega)⟩
 ·simp only[go_sem]
theorem MN (xs:List DVal):Ctr prog 17 [.c (.sl (xs.map DVal.c)),.c (.sl (xs.map DVal.c))] [.val (.c (.v (.bool true)))]:=x_ xs fun x _=>Ri x
theorem rX (d:DRow):Ctr prog 234 [.agg d.c,.agg d.c] [.val (.c (.v (.bool true)))]:=by
 refine CM call234 func234 ntmps234 results234 fun _=>?_
 simp only[go_sem,au,ay]
 refine CW (MN d.l) fun _=>?_
 simp only[go_sem,au,ay]
theorem yA (xs:List DRow) (hx:∀ x∈xs,Ctr prog 234 [.agg x.c,.agg x.c] [.val (.c (.v (.bool true)))]):Ctr prog 201 [.c (.sl (xs.map DRow.c)),.c (.sl (xs.map DRow.c))] [.val (.c (.v (.bool true)))]:=by
 refine CM call201 func201 ntmps201 results201 fun hw=>?_
 have hlen:xs.length≤9223372036854775807:=by have:=hw.1.1; simpa [Go.maxLen] using this
 simp only[go_sem,ae,au,ay]
 refine LoopK.mk 0 [0,1,5] (A:=Nat) (fun k=>⟨27,[(0,.c (.sl (xs.map DRow.c))),(1,.c (.sl (xs.map DRow.c))),(5,.c (.v (.int .i64 k)))],[]⟩) (fun k=>k≤xs.length) (fun k=>xs.length-k) 0 ⟨⟨rfl,rfl⟩,rfl,ax _⟩ ?_
 intro k hk
 simp only[go_sem,ae]
 refine cndC.mk (fun h=>?_) (fun h=>?_)
 ·have hk':k<xs.length:=by simpa using h
  simp only[go_sem]
  refine DrawK.mk ?_
  simp only[go_sem,ae,au,ay,AA _ hk',hk',wrap_i64 (n:=(k:Int)+1) (by omega) (by omega)]
  refine CY (hx xs[k] (aj hk')) ?_
  simp only[go_sem,AA _ hk',wrap_i64 (n:=(k:Int)+1) (by omega) (by omega)]
  exact⟨k+1,⟨rfl,rfl⟩,rfl,by omega,by first | omega | (simp only; omega)⟩
 ·simp only[go_sem]
theorem Vk (xs:List DRow):Ctr prog 201 [.c (.sl (xs.map DRow.c)),.c (.sl (xs.map DRow.c))] [.val (.c (.v (.bool true)))]:=yA xs fun x _=>rX x
theorem rY (xs:List DPred) (hx:∀ x∈xs,Ctr prog 78 [.agg x.c,.agg x.c] [.val (.c (.v (.bool true)))]):Ctr prog 147 [.c (.sl (xs.map DPred.c)),.c (.sl (xs.map DPred.c))] [.val (.c (.v (.bool true)))]:=by
 refine CM call147 func147 ntmps147 results147 fun hw=>?_
 have hlen:xs.length≤9223372036854775807:=by have:=hw.1.1; simpa [Go.maxLen] using this
 simp only[go_sem,ae,au,ay]
 refine LoopK.mk 0 [0,1,5] (A:=Nat) (fun k=>⟨27,[(0,.c (.sl (xs.map DPred.c))),(1,.c (.sl (xs.map DPred.c))),(5,.c (.v (.int .i64 k)))],[]⟩) (fun k=>k≤xs.length) (fun k=>xs.length-k) 0 ⟨⟨rfl,rfl⟩,rfl,ax _⟩ ?_
 intro k hk
 simp only[go_sem,ae]
 refine cndC.mk (fun h=>?_) (fun h=>?_)
 ·have hk':k<xs.length:=by simpa using h
  simp only[go_sem]
  refine DrawK.mk ?_
  simp only[go_sem,ae,au,ay,AA _ hk',hk',wrap_i64 (n:=(k:Int)+1) (by omega) (by omega)]
  refine CY (hx xs[k] (aj hk')) ?_
  simp only[go_sem,AA _ hk',wrap_i64 (n:=(k:Int)+1) (by omega) (by omega)]
  exact⟨k+1,⟨rfl,rfl⟩,rfl,by omega,by first | omega | (simp only; omega)⟩
 ·simp only[go_sem]
theorem yB (d:DPred) (hx:∀ x∈d.l,Ctr prog 78 [.agg x.c,.agg x.c] [.val (.c (.v (.bool true)))]):Ctr prog 78 [.agg d.c,.agg d.c] [.val (.c (.v (.bool true)))]:=by
 refine CM call78 func78 ntmps78 results78 fun _=>?_
 simp only[go_sem,au,ay]
 refine CW (Ri d.v) fun _=>?_
 simp only[go_sem,au,ay]
 refine CW (rY d.l hx) fun _=>?_
 simp only[go_sem,au,ay]
theorem Vl:∀ (n:Nat) (d:DPred),SizeOf.sizeOf d≤n→Ctr prog 78 [.agg d.c,.agg d.c] [.val (.c (.v (.bool true)))]
 | 0,d,h=>by cases d; simp at h
 | n+1,d,h=>yB d fun x hx=>Vl n x (by
  have h1:SizeOf.sizeOf x<SizeOf.sizeOf d.l:=v_ hx
  have h2:SizeOf.sizeOf d.l<SizeOf.sizeOf d:=by cases d; simp[DPred.l]; omega
  omega)
theorem mG (d:DPred):Ctr prog 78 [.agg d.c,.agg d.c] [.val (.c (.v (.bool true)))]:=Vl _ d (aN _)
theorem TL (d:DQuery):Ctr prog 23 [.agg d.c,.agg d.c] [.val (.c (.v (.bool true)))]:=by
 refine CM call23 func23 ntmps23 results23 fun _=>?_
 simp only[go_sem,au,ay]
 refine CW (mG d.p) fun _=>?_
 simp only[go_sem,au,ay]
 refine CW (MM d.out) fun _=>?_
 simp only[go_sem,au,ay]
theorem Ze (d:DResult):Ctr prog 202 [.agg d.c,.agg d.c] [.val (.c (.v (.bool true)))]:=by
 refine CM call202 func202 ntmps202 results202 fun _=>?_
 simp only[go_sem,au,ay]
 refine CW (Vk d.rows) fun _=>?_
 simp only[go_sem,au,ay]
 refine CW (Ri d.v) fun _=>?_
 simp only[go_sem,au,ay]
theorem mJ (d:DSlot):Ctr prog 259 [.agg d.c,.agg d.c] [.val (.c (.v (.bool true)))]:=by
 refine CM call259 func259 ntmps259 results259 fun _=>?_
 simp only[go_sem,au,ay]
 refine CW (MN d.l) fun _=>?_
 simp only[go_sem,au,ay]
theorem rZ (xs:List DSlot) (hx:∀ x∈xs,Ctr prog 259 [.agg x.c,.agg x.c] [.val (.c (.v (.bool true)))]):Ctr prog 233 [.c (.sl (xs.map DSlot.c)),.c (.sl (xs.map DSlot.c))] [.val (.c (.v (.bool true)))]:=by
 refine CM call233 func233 ntmps233 results233 fun hw=>?_
 have hlen:xs.length≤9223372036854775807:=by have:=hw.1.1; simpa [Go.maxLen] using this
 simp only[go_sem,ae,au,ay]
 refine LoopK.mk 0 [0,1,5] (A:=Nat) (fun k=>⟨27,[(0,.c (.sl (xs.map DSlot.c))),(1,.c (.sl (xs.map DSlot.c))),(5,.c (.v (.int .i64 k)))],[]⟩) (fun k=>k≤xs.length) (fun k=>xs.length-k) 0 ⟨⟨rfl,rfl⟩,rfl,ax _⟩ ?_
 intro k hk
 simp only[go_sem,ae]
 refine cndC.mk (fun h=>?_) (fun h=>?_)
 ·have hk':k<xs.length:=by simpa using h
  simp only[go_sem]
  refine DrawK.mk ?_
  simp only[go_sem,ae,au,ay,AA _ hk',hk',wrap_i64 (n:=(k:Int)+1) (by omega) (by omega)]
  refine CY (hx xs[k] (aj hk')) ?_
  simp only[go_sem,AA _ hk',wrap_i64 (n:=(k:Int)+1) (by omega) (by omega)]
  exact⟨k+1,⟨rfl,rfl⟩,rfl,by omega,by first | omega | (simp only; omega)⟩
 ·simp only[go_sem]
theorem iJ (xs:List DSlot):Ctr prog 233 [.c (.sl (xs.map DSlot.c)),.c (.sl (xs.map DSlot.c))] [.val (.c (.v (.bool true)))]:=rZ xs fun x _=>mJ x
theorem iK (d:DChunk):Ctr prog 199 [.agg d.c,.agg d.c] [.val (.c (.v (.bool true)))]:=by
 refine CM call199 func199 ntmps199 results199 fun _=>?_
 simp only[go_sem,au,ay]
 refine CW (iJ d.l) fun _=>?_
 simp only[go_sem,au,ay]
theorem rf (d:DBuf):Ctr prog 124 [.agg d.c,.agg d.c] [.val (.c (.v (.bool true)))]:=by
 refine CM call124 func124 ntmps124 results124 fun _=>?_
 simp only[go_sem,au,ay]
 refine CW (iK d.c0) fun _=>?_
 simp only[go_sem,au,ay]
 refine CW (iI d.g) fun _=>?_
 simp only[go_sem,au,ay]
theorem yC (xs:List DBuf) (hx:∀ x∈xs,Ctr prog 124 [.agg x.c,.agg x.c] [.val (.c (.v (.bool true)))]):Ctr prog 49 [.c (.sl (xs.map DBuf.c)),.c (.sl (xs.map DBuf.c))] [.val (.c (.v (.bool true)))]:=by
 refine CM call49 func49 ntmps49 results49 fun hw=>?_
 have hlen:xs.length≤9223372036854775807:=by have:=hw.1.1; simpa [Go.maxLen] using this
 simp only[go_sem,ae,au,ay]
 refine LoopK.mk 0 [0,1,5] (A:=Nat) (fun k=>⟨27,[(0,.c (.sl (xs.map DBuf.c))),(1,.c (.sl (xs.map DBuf.c))),(5,.c (.v (.int .i64 k)))],[]⟩) (fun k=>k≤xs.length) (fun k=>xs.length-k) 0 ⟨⟨rfl,rfl⟩,rfl,ax _⟩ ?_
 intro k hk
 simp only[go_sem,ae]
 refine cndC.mk (fun h=>?_) (fun h=>?_)
 ·have hk':k<xs.length:=by simpa using h
  simp only[go_sem]
  refine DrawK.mk ?_
  simp only[go_sem,ae,au,ay,AA _ hk',hk',wrap_i64 (n:=(k:Int)+1) (by omega) (by omega)]
  refine CY (hx xs[k] (aj hk')) ?_
  simp only[go_sem,AA _ hk',wrap_i64 (n:=(k:Int)+1) (by omega) (by omega)]
  exact⟨k+1,⟨rfl,rfl⟩,rfl,by omega,by first | omega | (simp only; omega)⟩
 ·simp only[go_sem]
theorem mM (xs:List DBuf):Ctr prog 49 [.c (.sl (xs.map DBuf.c)),.c (.sl (xs.map DBuf.c))] [.val (.c (.v (.bool true)))]:=yC xs fun x _=>rf x
theorem mO (d:DDead):Ctr prog 125 [.agg d.c,.agg d.c] [.val (.c (.v (.bool true)))]:=by
 refine CM call125 func125 ntmps125 results125 fun _=>?_
 simp only[go_sem,au,ay]
theorem rq (xs:List DDead) (hx:∀ x∈xs,Ctr prog 125 [.agg x.c,.agg x.c] [.val (.c (.v (.bool true)))]):Ctr prog 51 [.c (.sl (xs.map DDead.c)),.c (.sl (xs.map DDead.c))] [.val (.c (.v (.bool true)))]:=by
 refine CM call51 func51 ntmps51 results51 fun hw=>?_
 have hlen:xs.length≤9223372036854775807:=by have:=hw.1.1; simpa [Go.maxLen] using this
 simp only[go_sem,ae,au,ay]
 refine LoopK.mk 0 [0,1,5] (A:=Nat) (fun k=>⟨27,[(0,.c (.sl (xs.map DDead.c))),(1,.c (.sl (xs.map DDead.c))),(5,.c (.v (.int .i64 k)))],[]⟩) (fun k=>k≤xs.length) (fun k=>xs.length-k) 0 ⟨⟨rfl,rfl⟩,rfl,ax _⟩ ?_
 intro k hk
 simp only[go_sem,ae]
 refine cndC.mk (fun h=>?_) (fun h=>?_)
 ·have hk':k<xs.length:=by simpa using h
  simp only[go_sem]
  refine DrawK.mk ?_
  simp only[go_sem,ae,au,ay,AA _ hk',hk',wrap_i64 (n:=(k:Int)+1) (by omega) (by omega)]
  refine CY (hx xs[k] (aj hk')) ?_
  simp only[go_sem,AA _ hk',wrap_i64 (n:=(k:Int)+1) (by omega) (by omega)]
  exact⟨k+1,⟨rfl,rfl⟩,rfl,by omega,by first | omega | (simp only; omega)⟩
 ·simp only[go_sem]
theorem iL (xs:List DDead):Ctr prog 51 [.c (.sl (xs.map DDead.c)),.c (.sl (xs.map DDead.c))] [.val (.c (.v (.bool true)))]:=rq xs fun x _=>mO x
theorem ru (d:DRef):Ctr prog 198 [.agg d.c,.agg d.c] [.val (.c (.v (.bool true)))]:=by
 refine CM call198 func198 ntmps198 results198 fun _=>?_
 simp only[go_sem,au,ay]
theorem yD (xs:List DRef) (hx:∀ x∈xs,Ctr prog 198 [.agg x.c,.agg x.c] [.val (.c (.v (.bool true)))]):Ctr prog 123 [.c (.sl (xs.map DRef.c)),.c (.sl (xs.map DRef.c))] [.val (.c (.v (.bool true)))]:=by
 refine CM call123 func123 ntmps123 results123 fun hw=>?_
 have hlen:xs.length≤9223372036854775807:=by have:=hw.1.1; simpa [Go.maxLen] using this
 simp only[go_sem,ae,au,ay]
 refine LoopK.mk 0 [0,1,5] (A:=Nat) (fun k=>⟨27,[(0,.c (.sl (xs.map DRef.c))),(1,.c (.sl (xs.map DRef.c))),(5,.c (.v (.int .i64 k)))],[]⟩) (fun k=>k≤xs.length) (fun k=>xs.length-k) 0 ⟨⟨rfl,rfl⟩,rfl,ax _⟩ ?_
 intro k hk
 simp only[go_sem,ae]
 refine cndC.mk (fun h=>?_) (fun h=>?_)
 ·have hk':k<xs.length:=by simpa using h
  simp only[go_sem]
  refine DrawK.mk ?_
  simp only[go_sem,ae,au,ay,AA _ hk',hk',wrap_i64 (n:=(k:Int)+1) (by omega) (by omega)]
  refine CY (hx xs[k] (aj hk')) ?_
  simp only[go_sem,AA _ hk',wrap_i64 (n:=(k:Int)+1) (by omega) (by omega)]
  exact⟨k+1,⟨rfl,rfl⟩,rfl,by omega,by first | omega | (simp only; omega)⟩
 ·simp only[go_sem]
theorem Vo (xs:List DRef):Ctr prog 123 [.c (.sl (xs.map DRef.c)),.c (.sl (xs.map DRef.c))] [.val (.c (.v (.bool true)))]:=yD xs fun x _=>ru x
theorem ry (d:DDir):Ctr prog 48 [.agg d.c,.agg d.c] [.val (.c (.v (.bool true)))]:=by
 refine CM call48 func48 ntmps48 results48 fun _=>?_
 simp only[go_sem,au,ay]
 refine CW (Vo d.l) fun _=>?_
 simp only[go_sem,au,ay]
theorem mP (d:DTask):Ctr prog 126 [.agg d.c,.agg d.c] [.val (.c (.v (.bool true)))]:=by
 refine CM call126 func126 ntmps126 results126 fun _=>?_
 simp only[go_sem,au,ay]
 refine CW (MN d.r) fun _=>?_
 simp only[go_sem,au,ay]
 refine CW (TL d.q) fun _=>?_
 simp only[go_sem,au,ay]
 refine CW (Vo d.l) fun _=>?_
 simp only[go_sem,au,ay]
 refine CW (Vk d.got) fun _=>?_
 simp only[go_sem,au,ay]
theorem r_ (xs:List DTask) (hx:∀ x∈xs,Ctr prog 126 [.agg x.c,.agg x.c] [.val (.c (.v (.bool true)))]):Ctr prog 52 [.c (.sl (xs.map DTask.c)),.c (.sl (xs.map DTask.c))] [.val (.c (.v (.bool true)))]:=by
 refine CM call52 func52 ntmps52 results52 fun hw=>?_
 have hlen:xs.length≤9223372036854775807:=by have:=hw.1.1; simpa [Go.maxLen] using this
 simp only[go_sem,ae,au,ay]
 refine LoopK.mk 0 [0,1,5] (A:=Nat) (fun k=>⟨27,[(0,.c (.sl (xs.map DTask.c))),(1,.c (.sl (xs.map DTask.c))),(5,.c (.v (.int .i64 k)))],[]⟩) (fun k=>k≤xs.length) (fun k=>xs.length-k) 0 ⟨⟨rfl,rfl⟩,rfl,ax _⟩ ?_
 intro k hk
 simp only[go_sem,ae]
 refine cndC.mk (fun h=>?_) (fun h=>?_)
 ·have hk':k<xs.length:=by simpa using h
  simp only[go_sem]
  refine DrawK.mk ?_
  simp only[go_sem,ae,au,ay,AA _ hk',hk',wrap_i64 (n:=(k:Int)+1) (by omega) (by omega)]
  refine CY (hx xs[k] (aj hk')) ?_
  simp only[go_sem,AA _ hk',wrap_i64 (n:=(k:Int)+1) (by omega) (by omega)]
  exact⟨k+1,⟨rfl,rfl⟩,rfl,by omega,by first | omega | (simp only; omega)⟩
 ·simp only[go_sem]
theorem iM (xs:List DTask):Ctr prog 52 [.c (.sl (xs.map DTask.c)),.c (.sl (xs.map DTask.c))] [.val (.c (.v (.bool true)))]:=r_ xs fun x _=>mP x
theorem mQ (d:DDeed):Ctr prog 127 [.agg d.c,.agg d.c] [.val (.c (.v (.bool true)))]:=by
 refine CM call127 func127 ntmps127 results127 fun _=>?_
 simp only[go_sem,au,ay]
 refine CW (MN d.r) fun _=>?_
 simp only[go_sem,au,ay]
 refine CW (TL d.q) fun _=>?_
 simp only[go_sem,au,ay]
 refine CW (Ze d.res) fun _=>?_
 simp only[go_sem,au,ay]
theorem sD (xs:List DDeed) (hx:∀ x∈xs,Ctr prog 127 [.agg x.c,.agg x.c] [.val (.c (.v (.bool true)))]):Ctr prog 53 [.c (.sl (xs.map DDeed.c)),.c (.sl (xs.map DDeed.c))] [.val (.c (.v (.bool true)))]:=by
 refine CM call53 func53 ntmps53 results53 fun hw=>?_
 have hlen:xs.length≤9223372036854775807:=by have:=hw.1.1; simpa [Go.maxLen] using this
 simp only[go_sem,ae,au,ay]
 refine LoopK.mk 0 [0,1,5] (A:=Nat) (fun k=>⟨27,[(0,.c (.sl (xs.map DDeed.c))),(1,.c (.sl (xs.map DDeed.c))),(5,.c (.v (.int .i64 k)))],[]⟩) (fun k=>k≤xs.length) (fun k=>xs.length-k) 0 ⟨⟨rfl,rfl⟩,rfl,ax _⟩ ?_
 intro k hk
 simp only[go_sem,ae]
 refine cndC.mk (fun h=>?_) (fun h=>?_)
 ·have hk':k<xs.length:=by simpa using h
  simp only[go_sem]
  refine DrawK.mk ?_
  simp only[go_sem,ae,au,ay,AA _ hk',hk',wrap_i64 (n:=(k:Int)+1) (by omega) (by omega)]
  refine CY (hx xs[k] (aj hk')) ?_
  simp only[go_sem,AA _ hk',wrap_i64 (n:=(k:Int)+1) (by omega) (by omega)]
  exact⟨k+1,⟨rfl,rfl⟩,rfl,by omega,by first | omega | (simp only; omega)⟩
 ·simp only[go_sem]
theorem iO (xs:List DDeed):Ctr prog 53 [.c (.sl (xs.map DDeed.c)),.c (.sl (xs.map DDeed.c))] [.val (.c (.v (.bool true)))]:=sD xs fun x _=>mQ x
theorem mV (d:DConf):Ctr prog 47 [.agg d.c,.agg d.c] [.val (.c (.v (.bool true)))]:=by
 refine CM call47 func47 ntmps47 results47 fun _=>?_
 simp only[go_sem,au,ay]
 refine CW (MM d.cols) fun _=>?_
 simp only[go_sem,au,ay]
theorem KU (d:DWorld):Ctr prog 10 [.agg d.c,.agg d.c] [.val (.c (.v (.bool true)))]:=by
 refine CM call10 func10 ntmps10 results10 fun _=>?_
 simp only[go_sem,au,ay]
 refine CW (mV d.c0) fun _=>?_
 simp only[go_sem,au,ay]
 refine CW (ry d.d) fun _=>?_
 simp only[go_sem,au,ay]
 refine CW (mM d.b) fun _=>?_
 simp only[go_sem,au,ay]
 refine CW (MM d.m) fun _=>?_
 simp only[go_sem,au,ay]
 refine CW (iL d.x) fun _=>?_
 simp only[go_sem,au,ay]
 refine CW (MM d.p) fun _=>?_
 simp only[go_sem,au,ay]
 refine CW (iM d.tasks) fun _=>?_
 simp only[go_sem,au,ay]
 refine CW (iO d.deeds) fun _=>?_
 simp only[go_sem,au,ay]
end Go.Proofs.YtnfbaclikokapaaGreat
