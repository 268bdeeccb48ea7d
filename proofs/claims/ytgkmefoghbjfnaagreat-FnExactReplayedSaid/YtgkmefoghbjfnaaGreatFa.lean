/- A part. -/
import Derived.Test.YtgkmefoghbjfnaaGreatDa
import Derived.Test.YtgkmefoghbjfnaaGreatTy
set_option linter.unusedSimpArgs false
set_option linter.unusedVariables false
set_option maxHeartbeats 1000000
set_option maxRecDepth 10000
open Go.Proofs.Tryz
namespace Go.Proofs.YtgkmefoghbjfnaaGreat
open Go.Vm
theorem FV {x:Int} {k:Int→Int} (h:decide (x<0)=true):sq x k = -1:=qA (vJ h)
theorem FW {x:Int} {k:Int→Int} (h:decide (x<0)=false):sq x k=k x:=qB (of_decide_eq_false h)
theorem Ji {x:Int} (h:decide (x<0)=false):0≤x:=Int.not_lt.1 (of_decide_eq_false h)
theorem qF {a b:Nat} (h:decide ((a:Int)<b)=true):a<b:=by simpa using h
def szP {α:Type} (sz:α→Int→Int) (xs:List α) (r:Int) (x:Nat×Int):Prop:=x.1≤xs.length∧0≤x.2∧SN sz (xs.drop x.1) x.2=r
section
variable {α:Type} {sz:α→Int→Int} {xs:List α} {r m l:Int} {k:Nat}
theorem Q4 (h:decide (l-xs.length<0)=true):BZ sz xs l = -1:=by
 have:=vJ h
 simp[BZ,sq,Di,this]
theorem szP.start (h:0≤l-xs.length):szP sz xs (BZ sz xs l) (0,l-xs.length):=⟨aJ _,h,by
 have:¬ l-xs.length<0:=by omega
 simp[BZ,sq,Di,this]⟩
theorem szP.neg (hP:szP sz xs r (k,m)) (hk:k<xs.length) (h:decide (sz xs[k] m<0)=true):r = -1:=by
 have hm:=hP.2.2
 simp only at hm
 rw[aF hk,SN,FV h] at hm
 exact hm.symm
theorem szP.step (hP:szP sz xs r (k,m)) (hk:k<xs.length) (h:decide (sz xs[k] m<0)=false):szP sz xs r (k+1,sz xs[k] m):=by
 have hm:=hP.2.2
 simp only at hm
 rw[aF hk,SN,FW h] at hm
 exact⟨hk,Ji h,hm⟩
theorem szP.fin (hP:szP sz xs r (k,m)) (h:decide ((k:Int)<xs.length)=false):r=m:=by
 have h1:=hP.1
 have hm:=hP.2.2
 simp only at hm h1
 have:k=xs.length:=by simp at h; omega
 subst this
 simpa [SN] using hm.symm
end
def Na {α:Type} (n:Nat) (e:α→List Cl) (xs:List α) (x:Nat×Int):MS:=⟨n,[(0,.c (.sl (xs.map e))),(1,.c (.v (.int .i64 x.2))),(5,.c (.v (.int .i64 x.1)))],[]⟩
theorem IU (xs:List Int) (l:Int) (hl:0≤l):Ctr prog 16 [.c (.sl (xs.map intC)),.c (.v (.int .i64 l))] [.val (.c (.v (.int .i64 (Di xs.length l))))]:=by
 refine CM call16 func16 ntmps16 results16 fun hw=>?_
 have hlen:xs.length≤9223372036854775807:=by have:=hw.1.1; simpa [Go.maxLen] using this
 have hl2:l≤9223372036854775807:=Gy hw.2.1
 simp only[go_sem,ae,wrap_i64 (n:=l-xs.length) (by omega) (by omega)]
 refine cndC.mk (fun h=>?_) (fun h=>?_)
 ·have h':l-xs.length<0:=by simpa using h
  simp only[go_sem]
  simp[Di,h']
 ·have h':¬ l-xs.length<0:=by simpa using h
  simp only[go_sem]
  simp[Di,h']
theorem Ua (xs:List Int) (l:Int) (hl:0≤l):Ctr prog 81 [.c (.sl (xs.map byteC)),.c (.v (.int .i64 l))] [.val (.c (.v (.int .i64 (Di xs.length l))))]:=by
 refine CM call81 func81 ntmps81 results81 fun hw=>?_
 have hlen:xs.length≤9223372036854775807:=by have:=hw.1.1; simpa [Go.maxLen] using this
 have hl2:l≤9223372036854775807:=Gy hw.2.1
 simp only[go_sem,ae,wrap_i64 (n:=l-xs.length) (by omega) (by omega)]
 refine cndC.mk (fun h=>?_) (fun h=>?_)
 ·have h':l-xs.length<0:=by simpa using h
  simp only[go_sem]
  simp[Di,h']
 ·have h':¬ l-xs.length<0:=by simpa using h
  simp only[go_sem]
  simp[Di,h']
theorem MK (d:DVal) (l:Int) (hl:0≤l):Ctr prog 121 [.agg d.c,.c (.v (.int .i64 l))] [.val (.c (.v (.int .i64 (Ad d l))))]:=by
 refine CM call121 func121 ntmps121 results121 fun hw=>?_
 rw[D8]
 have hl2:l≤9223372036854775807:=Gy hw.2.1
 have hs:d.s.size≤9223372036854775807:=Y8 hw.1.2.2.1
 simp only[go_sem,wrap_i64 (n:=l-d.s.size) (by omega) (by omega)]
 refine cndC.mk (fun h=>?_) (fun h=>?_)
 ·have h0:l-d.s.size<0:=by simpa using h
  simp only[go_sem]
  simp[Di,sq,h0]
 ·have h0:¬ l-d.s.size<0:=by simpa using h
  simp only[go_sem]
  simp[Di,sq,h0]
theorem dE (xs:List DVal) (hx:∀ x∈xs,∀ l,0≤l→Ctr prog 121 [.agg x.c,.c (.v (.int .i64 l))] [.val (.c (.v (.int .i64 (Ad x l))))]) (l:Int) (hl:0≤l):Ctr prog 82 [.c (.sl (xs.map DVal.c)),.c (.v (.int .i64 l))] [.val (.c (.v (.int .i64 (BZ Ad xs l))))]:=by
 refine CM call82 func82 ntmps82 results82 fun hw=>?_
 have hlen:xs.length≤9223372036854775807:=by have:=hw.1.1; simpa [Go.maxLen] using this
 have hl2:l≤9223372036854775807:=Gy hw.2.1
 simp only[go_sem,ae,wrap_i64 (n:=l-xs.length) (by omega) (by omega)]
 refine cndC.mk (fun h=>by simp only[go_sem,Q4 h]) (fun h=>?_)
 simp only[go_sem]
 refine LoopK.mk 0 [0,1,5] (Na 27 DVal.c xs) (szP Ad xs (BZ Ad xs l)) (fun x=>xs.length-x.1) (0,l-xs.length) ⟨⟨rfl,rfl⟩,rfl,szP.start (Ji h)⟩ ?_
 rintro⟨k,m⟩ hP
 simp only[go_sem,Na,ae]
 refine cndC.mk (fun h=>?_) (fun h=>?_)
 ·have hk:=qF h
  simp only[go_sem,AA _ hk]
  refine CW (hx xs[k] (au hk) m hP.2.1) fun _=>?_
  simp only[go_sem]
  refine cndC.mk (fun h=>by simp only[go_sem,hP.neg hk h]) (fun h=>?_)
  simp only[go_sem,wrap_i64 (n:=(k:Int)+1) (by omega) (by omega)]
  exact⟨(k+1,Ad xs[k] m),⟨rfl,rfl⟩,rfl,hP.step hk h,by simp only; omega⟩
 ·simp only[go_sem,hP.fin h]
theorem IV (xs:List DVal) (l:Int) (hl:0≤l):Ctr prog 82 [.c (.sl (xs.map DVal.c)),.c (.v (.int .i64 l))] [.val (.c (.v (.int .i64 (BZ Ad xs l))))]:=dE xs (fun x _ l hl=>MK x l hl) l hl
theorem YG (d:DRow) (l:Int) (hl:0≤l):Ctr prog 123 [.agg d.c,.c (.v (.int .i64 l))] [.val (.c (.v (.int .i64 (EM d l))))]:=by
 refine CM call123 func123 ntmps123 results123 fun hw=>?_
 rw[NI]
 simp only[go_sem]
 refine CallK.mk _ (by simpa only[go_sem] using IV d.l _ (by omega)) fun _=>?_
 simp only[go_sem]
 refine cndC.mk (fun h=>by simp only[go_sem,FV h]) fun h=>?_
 have h0:=Ji h
 simp only[go_sem,FW h]
theorem dF (xs:List DRow) (hx:∀ x∈xs,∀ l,0≤l→Ctr prog 123 [.agg x.c,.c (.v (.int .i64 l))] [.val (.c (.v (.int .i64 (EM x l))))]) (l:Int) (hl:0≤l):Ctr prog 84 [.c (.sl (xs.map DRow.c)),.c (.v (.int .i64 l))] [.val (.c (.v (.int .i64 (BZ EM xs l))))]:=by
 refine CM call84 func84 ntmps84 results84 fun hw=>?_
 have hlen:xs.length≤9223372036854775807:=by have:=hw.1.1; simpa [Go.maxLen] using this
 have hl2:l≤9223372036854775807:=Gy hw.2.1
 simp only[go_sem,ae,wrap_i64 (n:=l-xs.length) (by omega) (by omega)]
 refine cndC.mk (fun h=>by simp only[go_sem,Q4 h]) (fun h=>?_)
 simp only[go_sem]
 refine LoopK.mk 0 [0,1,5] (Na 27 DRow.c xs) (szP EM xs (BZ EM xs l)) (fun x=>xs.length-x.1) (0,l-xs.length) ⟨⟨rfl,rfl⟩,rfl,szP.start (Ji h)⟩ ?_
 rintro⟨k,m⟩ hP
 simp only[go_sem,Na,ae]
 refine cndC.mk (fun h=>?_) (fun h=>?_)
 ·have hk:=qF h
  simp only[go_sem,AA _ hk]
  refine CW (hx xs[k] (au hk) m hP.2.1) fun _=>?_
  simp only[go_sem]
  refine cndC.mk (fun h=>by simp only[go_sem,hP.neg hk h]) (fun h=>?_)
  simp only[go_sem,wrap_i64 (n:=(k:Int)+1) (by omega) (by omega)]
  exact⟨(k+1,EM xs[k] m),⟨rfl,rfl⟩,rfl,hP.step hk h,by simp only; omega⟩
 ·simp only[go_sem,hP.fin h]
theorem PY (xs:List DRow) (l:Int) (hl:0≤l):Ctr prog 84 [.c (.sl (xs.map DRow.c)),.c (.v (.int .i64 l))] [.val (.c (.v (.int .i64 (BZ EM xs l))))]:=dF xs (fun x _ l hl=>YG x l hl) l hl
theorem YH (xs:List DPred) (hx:∀ x∈xs,∀ l,0≤l→Ctr prog 122 [.agg x.c,.c (.v (.int .i64 l))] [.val (.c (.v (.int .i64 (Ar x l))))]) (l:Int) (hl:0≤l):Ctr prog 157 [.c (.sl (xs.map DPred.c)),.c (.v (.int .i64 l))] [.val (.c (.v (.int .i64 (BZ Ar xs l))))]:=by
 refine CM call157 func157 ntmps157 results157 fun hw=>?_
 have hlen:xs.length≤9223372036854775807:=by have:=hw.1.1; simpa [Go.maxLen] using this
 have hl2:l≤9223372036854775807:=Gy hw.2.1
 simp only[go_sem,ae,wrap_i64 (n:=l-xs.length) (by omega) (by omega)]
 refine cndC.mk (fun h=>by simp only[go_sem,Q4 h]) (fun h=>?_)
 simp only[go_sem]
 refine LoopK.mk 0 [0,1,5] (Na 27 DPred.c xs) (szP Ar xs (BZ Ar xs l)) (fun x=>xs.length-x.1) (0,l-xs.length) ⟨⟨rfl,rfl⟩,rfl,szP.start (Ji h)⟩ ?_
 rintro⟨k,m⟩ hP
 simp only[go_sem,Na,ae]
 refine cndC.mk (fun h=>?_) (fun h=>?_)
 ·have hk:=qF h
  simp only[go_sem,AA _ hk]
  refine CW (hx xs[k] (au hk) m hP.2.1) fun _=>?_
  simp only[go_sem]
  refine cndC.mk (fun h=>by simp only[go_sem,hP.neg hk h]) (fun h=>?_)
  simp only[go_sem,wrap_i64 (n:=(k:Int)+1) (by omega) (by omega)]
  exact⟨(k+1,Ar xs[k] m),⟨rfl,rfl⟩,rfl,hP.step hk h,by simp only; omega⟩
 ·simp only[go_sem,hP.fin h]
theorem dG (d:DPred) (hx:∀ x∈d.l,∀ l,0≤l→Ctr prog 122 [.agg x.c,.c (.v (.int .i64 l))] [.val (.c (.v (.int .i64 (Ar x l))))]) (l:Int) (hl:0≤l):Ctr prog 122 [.agg d.c,.c (.v (.int .i64 l))] [.val (.c (.v (.int .i64 (Ar d l))))]:=by
 refine CM call122 func122 ntmps122 results122 fun hw=>?_
 rw[FI]
 simp only[go_sem]
 refine CallK.mk _ (by simpa only[go_sem] using MK d.v _ (by omega)) fun _=>?_
 simp only[go_sem]
 refine cndC.mk (fun h=>by simp only[go_sem,FV h]) fun h=>?_
 have h0:=Ji h
 simp only[go_sem,FW h]
 refine CallK.mk _ (by simpa only[go_sem] using YH d.l hx _ (by omega)) fun _=>?_
 simp only[go_sem]
 refine cndC.mk (fun h=>by simp only[go_sem,FV h]) fun h=>?_
 have h1:=Ji h
 simp only[go_sem,FW h]
theorem PZ:∀ (n:Nat) (d:DPred),SizeOf.sizeOf d≤n→∀ l,0≤l→Ctr prog 122 [.agg d.c,.c (.v (.int .i64 l))] [.val (.c (.v (.int .i64 (Ar d l))))]
 | 0,d,h=>by cases d; simp at h
 | n+1,d,h=>dG d fun x hx=>PZ n x (by
  have h1:SizeOf.sizeOf x<SizeOf.sizeOf d.l:=eu hx
  have h2:SizeOf.sizeOf d.l<SizeOf.sizeOf d:=by cases d; simp[DPred.l]; omega
  omega)
theorem WI (d:DPred) (l:Int) (hl:0≤l):Ctr prog 122 [.agg d.c,.c (.v (.int .i64 l))] [.val (.c (.v (.int .i64 (Ar d l))))]:=PZ _ d (aQ _) l hl
theorem Nb (d:DQuery) (l:Int) (hl:0≤l):Ctr prog 83 [.agg d.c,.c (.v (.int .i64 l))] [.val (.c (.v (.int .i64 (Bv d l))))]:=by
 refine CM call83 func83 ntmps83 results83 fun hw=>?_
 rw[Fv]
 simp only[go_sem]
 refine CallK.mk _ (by simpa only[go_sem] using WI d.p _ (by omega)) fun _=>?_
 simp only[go_sem]
 refine cndC.mk (fun h=>by simp only[go_sem,FV h]) fun h=>?_
 have h0:=Ji h
 simp only[go_sem,FW h]
 refine CallK.mk _ (by simpa only[go_sem] using IU d.out _ (by omega)) fun _=>?_
 simp only[go_sem]
 refine cndC.mk (fun h=>by simp only[go_sem,FV h]) fun h=>?_
 have h1:=Ji h
 simp only[go_sem,FW h]
theorem Sj (d:DResult) (l:Int) (hl:0≤l):Ctr prog 85 [.agg d.c,.c (.v (.int .i64 l))] [.val (.c (.v (.int .i64 (GY d l))))]:=by
 refine CM call85 func85 ntmps85 results85 fun hw=>?_
 rw[IL]
 simp only[go_sem]
 refine CallK.mk _ (by simpa only[go_sem] using PY d.rows _ (by omega)) fun _=>?_
 simp only[go_sem]
 refine cndC.mk (fun h=>by simp only[go_sem,FV h]) fun h=>?_
 have h0:=Ji h
 simp only[go_sem,FW h]
 refine CallK.mk _ (by simpa only[go_sem] using MK d.v _ (by omega)) fun _=>?_
 simp only[go_sem]
 refine cndC.mk (fun h=>by simp only[go_sem,FV h]) fun h=>?_
 have h1:=Ji h
 simp only[go_sem,FW h]
theorem WJ (d:DSlot) (l:Int) (hl:0≤l):Ctr prog 156 [.agg d.c,.c (.v (.int .i64 l))] [.val (.c (.v (.int .i64 (ER d l))))]:=by
 refine CM call156 func156 ntmps156 results156 fun hw=>?_
 rw[KW]
 simp only[go_sem]
 refine CallK.mk _ (by simpa only[go_sem] using IV d.l _ (by omega)) fun _=>?_
 simp only[go_sem]
 refine cndC.mk (fun h=>by simp only[go_sem,FV h]) fun h=>?_
 have h0:=Ji h
 simp only[go_sem,FW h]
theorem YI (xs:List DSlot) (hx:∀ x∈xs,∀ l,0≤l→Ctr prog 156 [.agg x.c,.c (.v (.int .i64 l))] [.val (.c (.v (.int .i64 (ER x l))))]) (l:Int) (hl:0≤l):Ctr prog 120 [.c (.sl (xs.map DSlot.c)),.c (.v (.int .i64 l))] [.val (.c (.v (.int .i64 (BZ ER xs l))))]:=by
 refine CM call120 func120 ntmps120 results120 fun hw=>?_
 have hlen:xs.length≤9223372036854775807:=by have:=hw.1.1; simpa [Go.maxLen] using this
 have hl2:l≤9223372036854775807:=Gy hw.2.1
 simp only[go_sem,ae,wrap_i64 (n:=l-xs.length) (by omega) (by omega)]
 refine cndC.mk (fun h=>by simp only[go_sem,Q4 h]) (fun h=>?_)
 simp only[go_sem]
 refine LoopK.mk 0 [0,1,5] (Na 27 DSlot.c xs) (szP ER xs (BZ ER xs l)) (fun x=>xs.length-x.1) (0,l-xs.length) ⟨⟨rfl,rfl⟩,rfl,szP.start (Ji h)⟩ ?_
 rintro⟨k,m⟩ hP
 simp only[go_sem,Na,ae]
 refine cndC.mk (fun h=>?_) (fun h=>?_)
 ·have hk:=qF h
  simp only[go_sem,AA _ hk]
  refine CW (hx xs[k] (au hk) m hP.2.1) fun _=>?_
  simp only[go_sem]
  refine cndC.mk (fun h=>by simp only[go_sem,hP.neg hk h]) (fun h=>?_)
  simp only[go_sem,wrap_i64 (n:=(k:Int)+1) (by omega) (by omega)]
  exact⟨(k+1,ER xs[k] m),⟨rfl,rfl⟩,rfl,hP.step hk h,by simp only; omega⟩
 ·simp only[go_sem,hP.fin h]
theorem Ub (xs:List DSlot) (l:Int) (hl:0≤l):Ctr prog 120 [.c (.sl (xs.map DSlot.c)),.c (.v (.int .i64 l))] [.val (.c (.v (.int .i64 (BZ ER xs l))))]:=YI xs (fun x _ l hl=>WJ x l hl) l hl
theorem Uc (d:DChunk) (l:Int) (hl:0≤l):Ctr prog 80 [.agg d.c,.c (.v (.int .i64 l))] [.val (.c (.v (.int .i64 (F9 d l))))]:=by
 refine CM call80 func80 ntmps80 results80 fun hw=>?_
 rw[JH]
 simp only[go_sem]
 refine CallK.mk _ (by simpa only[go_sem] using Ub d.l _ (by omega)) fun _=>?_
 simp only[go_sem]
 refine cndC.mk (fun h=>by simp only[go_sem,FV h]) fun h=>?_
 have h0:=Ji h
 simp only[go_sem,FW h]
theorem YJ (d:DBuf) (l:Int) (hl:0≤l):Ctr prog 50 [.agg d.c,.c (.v (.int .i64 l))] [.val (.c (.v (.int .i64 (Dp d l))))]:=by
 refine CM call50 func50 ntmps50 results50 fun hw=>?_
 rw[NJ]
 simp only[go_sem]
 refine CallK.mk _ (by simpa only[go_sem] using Uc d.c0 _ (by omega)) fun _=>?_
 simp only[go_sem]
 refine cndC.mk (fun h=>by simp only[go_sem,FV h]) fun h=>?_
 have h0:=Ji h
 simp only[go_sem,FW h]
 refine CallK.mk _ (by simpa only[go_sem] using Ua d.g _ (by omega)) fun _=>?_
 simp only[go_sem]
 refine cndC.mk (fun h=>by simp only[go_sem,FV h]) fun h=>?_
 have h1:=Ji h
 simp only[go_sem,FW h]
theorem dH (xs:List DBuf) (hx:∀ x∈xs,∀ l,0≤l→Ctr prog 50 [.agg x.c,.c (.v (.int .i64 l))] [.val (.c (.v (.int .i64 (Dp x l))))]) (l:Int) (hl:0≤l):Ctr prog 15 [.c (.sl (xs.map DBuf.c)),.c (.v (.int .i64 l))] [.val (.c (.v (.int .i64 (BZ Dp xs l))))]:=by
 refine CM call15 func15 ntmps15 results15 fun hw=>?_
 have hlen:xs.length≤9223372036854775807:=by have:=hw.1.1; simpa [Go.maxLen] using this
 have hl2:l≤9223372036854775807:=Gy hw.2.1
 simp only[go_sem,ae,wrap_i64 (n:=l-xs.length) (by omega) (by omega)]
 refine cndC.mk (fun h=>by simp only[go_sem,Q4 h]) (fun h=>?_)
 simp only[go_sem]
 refine LoopK.mk 0 [0,1,5] (Na 27 DBuf.c xs) (szP Dp xs (BZ Dp xs l)) (fun x=>xs.length-x.1) (0,l-xs.length) ⟨⟨rfl,rfl⟩,rfl,szP.start (Ji h)⟩ ?_
 rintro⟨k,m⟩ hP
 simp only[go_sem,Na,ae]
 refine cndC.mk (fun h=>?_) (fun h=>?_)
 ·have hk:=qF h
  simp only[go_sem,AA _ hk]
  refine CW (hx xs[k] (au hk) m hP.2.1) fun _=>?_
  simp only[go_sem]
  refine cndC.mk (fun h=>by simp only[go_sem,hP.neg hk h]) (fun h=>?_)
  simp only[go_sem,wrap_i64 (n:=(k:Int)+1) (by omega) (by omega)]
  exact⟨(k+1,Dp xs[k] m),⟨rfl,rfl⟩,rfl,hP.step hk h,by simp only; omega⟩
 ·simp only[go_sem,hP.fin h]
theorem WL (xs:List DBuf) (l:Int) (hl:0≤l):Ctr prog 15 [.c (.sl (xs.map DBuf.c)),.c (.v (.int .i64 l))] [.val (.c (.v (.int .i64 (BZ Dp xs l))))]:=dH xs (fun x _ l hl=>YJ x l hl) l hl
theorem Ud (xs:List DDead) (l:Int) (hl:0≤l):Ctr prog 17 [.c (.sl (xs.map DDead.c)),.c (.v (.int .i64 l))] [.val (.c (.v (.int .i64 (Di xs.length l))))]:=by
 refine CM call17 func17 ntmps17 results17 fun hw=>?_
 have hlen:xs.length≤9223372036854775807:=by have:=hw.1.1; simpa [Go.maxLen] using this
 have hl2:l≤9223372036854775807:=Gy hw.2.1
 simp only[go_sem,ae,wrap_i64 (n:=l-xs.length) (by omega) (by omega)]
 refine cndC.mk (fun h=>?_) (fun h=>?_)
 ·have h':l-xs.length<0:=by simpa using h
  simp only[go_sem]
  simp[Di,h']
 ·have h':¬ l-xs.length<0:=by simpa using h
  simp only[go_sem]
  simp[Di,h']
theorem Pe (xs:List DRef) (l:Int) (hl:0≤l):Ctr prog 49 [.c (.sl (xs.map DRef.c)),.c (.v (.int .i64 l))] [.val (.c (.v (.int .i64 (Di xs.length l))))]:=by
 refine CM call49 func49 ntmps49 results49 fun hw=>?_
 have hlen:xs.length≤9223372036854775807:=by have:=hw.1.1; simpa [Go.maxLen] using this
 have hl2:l≤9223372036854775807:=Gy hw.2.1
 simp only[go_sem,ae,wrap_i64 (n:=l-xs.length) (by omega) (by omega)]
 refine cndC.mk (fun h=>?_) (fun h=>?_)
 ·have h':l-xs.length<0:=by simpa using h
  simp only[go_sem]
  simp[Di,h']
 ·have h':¬ l-xs.length<0:=by simpa using h
  simp only[go_sem]
  simp[Di,h']
theorem YK (d:DDir) (l:Int) (hl:0≤l):Ctr prog 14 [.agg d.c,.c (.v (.int .i64 l))] [.val (.c (.v (.int .i64 (ES d l))))]:=by
 refine CM call14 func14 ntmps14 results14 fun hw=>?_
 rw[Qj]
 simp only[go_sem]
 refine CallK.mk _ (by simpa only[go_sem] using Pe d.l _ (by omega)) fun _=>?_
 simp only[go_sem]
 refine cndC.mk (fun h=>by simp only[go_sem,FV h]) fun h=>?_
 have h0:=Ji h
 simp only[go_sem,FW h]
theorem WM (d:DTask) (l:Int) (hl:0≤l):Ctr prog 51 [.agg d.c,.c (.v (.int .i64 l))] [.val (.c (.v (.int .i64 (Dw d l))))]:=by
 refine CM call51 func51 ntmps51 results51 fun hw=>?_
 rw[KX]
 simp only[go_sem]
 refine CallK.mk _ (by simpa only[go_sem] using IV d.r _ (by omega)) fun _=>?_
 simp only[go_sem]
 refine cndC.mk (fun h=>by simp only[go_sem,FV h]) fun h=>?_
 have h0:=Ji h
 simp only[go_sem,FW h]
 refine CallK.mk _ (by simpa only[go_sem] using Nb d.q _ (by omega)) fun _=>?_
 simp only[go_sem]
 refine cndC.mk (fun h=>by simp only[go_sem,FV h]) fun h=>?_
 have h1:=Ji h
 simp only[go_sem,FW h]
 refine CallK.mk _ (by simpa only[go_sem] using Pe d.l _ (by omega)) fun _=>?_
 simp only[go_sem]
 refine cndC.mk (fun h=>by simp only[go_sem,FV h]) fun h=>?_
 have h2:=Ji h
 simp only[go_sem,FW h]
 refine CallK.mk _ (by simpa only[go_sem] using PY d.got _ (by omega)) fun _=>?_
 simp only[go_sem]
 refine cndC.mk (fun h=>by simp only[go_sem,FV h]) fun h=>?_
 have h3:=Ji h
 simp only[go_sem,FW h]
theorem YL (xs:List DTask) (hx:∀ x∈xs,∀ l,0≤l→Ctr prog 51 [.agg x.c,.c (.v (.int .i64 l))] [.val (.c (.v (.int .i64 (Dw x l))))]) (l:Int) (hl:0≤l):Ctr prog 18 [.c (.sl (xs.map DTask.c)),.c (.v (.int .i64 l))] [.val (.c (.v (.int .i64 (BZ Dw xs l))))]:=by
 refine CM call18 func18 ntmps18 results18 fun hw=>?_
 have hlen:xs.length≤9223372036854775807:=by have:=hw.1.1; simpa [Go.maxLen] using this
 have hl2:l≤9223372036854775807:=Gy hw.2.1
 simp only[go_sem,ae,wrap_i64 (n:=l-xs.length) (by omega) (by omega)]
 refine cndC.mk (fun h=>by simp only[go_sem,Q4 h]) (fun h=>?_)
 simp only[go_sem]
 refine LoopK.mk 0 [0,1,5] (Na 27 DTask.c xs) (szP Dw xs (BZ Dw xs l)) (fun x=>xs.length-x.1) (0,l-xs.length) ⟨⟨rfl,rfl⟩,rfl,szP.start (Ji h)⟩ ?_
 rintro⟨k,m⟩ hP
 simp only[go_sem,Na,ae]
 refine cndC.mk (fun h=>?_) (fun h=>?_)
 ·have hk:=qF h
  simp only[go_sem,AA _ hk]
  refine CW (hx xs[k] (au hk) m hP.2.1) fun _=>?_
  simp only[go_sem]
  refine cndC.mk (fun h=>by simp only[go_sem,hP.neg hk h]) (fun h=>?_)
  simp only[go_sem,wrap_i64 (n:=(k:Int)+1) (by omega) (by omega)]
  exact⟨(k+1,Dw xs[k] m),⟨rfl,rfl⟩,rfl,hP.step hk h,by simp only; omega⟩
 ·simp only[go_sem,hP.fin h]
theorem Ue (xs:List DTask) (l:Int) (hl:0≤l):Ctr prog 18 [.c (.sl (xs.map DTask.c)),.c (.v (.int .i64 l))] [.val (.c (.v (.int .i64 (BZ Dw xs l))))]:=YL xs (fun x _ l hl=>WM x l hl) l hl
theorem WN (d:DDeed) (l:Int) (hl:0≤l):Ctr prog 52 [.agg d.c,.c (.v (.int .i64 l))] [.val (.c (.v (.int .i64 (ET d l))))]:=by
 refine CM call52 func52 ntmps52 results52 fun hw=>?_
 rw[KY]
 simp only[go_sem]
 refine CallK.mk _ (by simpa only[go_sem] using IV d.r _ (by omega)) fun _=>?_
 simp only[go_sem]
 refine cndC.mk (fun h=>by simp only[go_sem,FV h]) fun h=>?_
 have h0:=Ji h
 simp only[go_sem,FW h]
 refine CallK.mk _ (by simpa only[go_sem] using Nb d.q _ (by omega)) fun _=>?_
 simp only[go_sem]
 refine cndC.mk (fun h=>by simp only[go_sem,FV h]) fun h=>?_
 have h1:=Ji h
 simp only[go_sem,FW h]
 refine CallK.mk _ (by simpa only[go_sem] using Sj d.res _ (by omega)) fun _=>?_
 simp only[go_sem]
 refine cndC.mk (fun h=>by simp only[go_sem,FV h]) fun h=>?_
 have h2:=Ji h
 simp only[go_sem,FW h]
theorem YM (xs:List DDeed) (hx:∀ x∈xs,∀ l,0≤l→Ctr prog 52 [.agg x.c,.c (.v (.int .i64 l))] [.val (.c (.v (.int .i64 (ET x l))))]) (l:Int) (hl:0≤l):Ctr prog 19 [.c (.sl (xs.map DDeed.c)),.c (.v (.int .i64 l))] [.val (.c (.v (.int .i64 (BZ ET xs l))))]:=by
 refine CM call19 func19 ntmps19 results19 fun hw=>?_
 have hlen:xs.length≤9223372036854775807:=by have:=hw.1.1; simpa [Go.maxLen] using this
 have hl2:l≤9223372036854775807:=Gy hw.2.1
 simp only[go_sem,ae,wrap_i64 (n:=l-xs.length) (by omega) (by omega)]
 refine cndC.mk (fun h=>by simp only[go_sem,Q4 h]) (fun h=>?_)
 simp only[go_sem]
 refine LoopK.mk 0 [0,1,5] (Na 27 DDeed.c xs) (szP ET xs (BZ ET xs l)) (fun x=>xs.length-x.1) (0,l-xs.length) ⟨⟨rfl,rfl⟩,rfl,szP.start (Ji h)⟩ ?_
 rintro⟨k,m⟩ hP
 simp only[go_sem,Na,ae]
 refine cndC.mk (fun h=>?_) (fun h=>?_)
 ·have hk:=qF h
  simp only[go_sem,AA _ hk]
  refine CW (hx xs[k] (au hk) m hP.2.1) fun _=>?_
  simp only[go_sem]
  refine cndC.mk (fun h=>by simp only[go_sem,hP.neg hk h]) (fun h=>?_)
  simp only[go_sem,wrap_i64 (n:=(k:Int)+1) (by omega) (by omega)]
  exact⟨(k+1,ET xs[k] m),⟨rfl,rfl⟩,rfl,hP.step hk h,by simp only; omega⟩
 ·simp only[go_sem,hP.fin h]
theorem Uf (xs:List DDeed) (l:Int) (hl:0≤l):Ctr prog 19 [.c (.sl (xs.map DDeed.c)),.c (.v (.int .i64 l))] [.val (.c (.v (.int .i64 (BZ ET xs l))))]:=YM xs (fun x _ l hl=>WN x l hl) l hl
theorem WO (d:DConf) (l:Int) (hl:0≤l):Ctr prog 13 [.agg d.c,.c (.v (.int .i64 l))] [.val (.c (.v (.int .i64 (Cm d l))))]:=by
 refine CM call13 func13 ntmps13 results13 fun hw=>?_
 rw[OZ]
 simp only[go_sem]
 refine CallK.mk _ (by simpa only[go_sem] using IU d.cols _ (by omega)) fun _=>?_
 simp only[go_sem]
 refine cndC.mk (fun h=>by simp only[go_sem,FV h]) fun h=>?_
 have h0:=Ji h
 simp only[go_sem,FW h]
theorem Ug (d:DWorld) (l:Int) (hl:0≤l):Ctr prog 4 [.agg d.c,.c (.v (.int .i64 l))] [.val (.c (.v (.int .i64 (IM d l))))]:=by
 refine CM call4 func4 ntmps4 results4 fun hw=>?_
 rw[MC]
 simp only[go_sem]
 refine CallK.mk _ (by simpa only[go_sem] using WO d.c0 _ (by omega)) fun _=>?_
 simp only[go_sem]
 refine cndC.mk (fun h=>by simp only[go_sem,FV h]) fun h=>?_
 have h0:=Ji h
 simp only[go_sem,FW h]
 refine CallK.mk _ (by simpa only[go_sem] using YK d.d _ (by omega)) fun _=>?_
 simp only[go_sem]
 refine cndC.mk (fun h=>by simp only[go_sem,FV h]) fun h=>?_
 have h1:=Ji h
 simp only[go_sem,FW h]
 refine CallK.mk _ (by simpa only[go_sem] using WL d.b _ (by omega)) fun _=>?_
 simp only[go_sem]
 refine cndC.mk (fun h=>by simp only[go_sem,FV h]) fun h=>?_
 have h2:=Ji h
 simp only[go_sem,FW h]
 refine CallK.mk _ (by simpa only[go_sem] using IU d.m _ (by omega)) fun _=>?_
 simp only[go_sem]
 refine cndC.mk (fun h=>by simp only[go_sem,FV h]) fun h=>?_
 have h3:=Ji h
 simp only[go_sem,FW h]
 refine CallK.mk _ (by simpa only[go_sem] using Ud d.x _ (by omega)) fun _=>?_
 simp only[go_sem]
 refine cndC.mk (fun h=>by simp only[go_sem,FV h]) fun h=>?_
 have h4:=Ji h
 simp only[go_sem,FW h]
 refine CallK.mk _ (by simpa only[go_sem] using IU d.p _ (by omega)) fun _=>?_
 simp only[go_sem]
 refine cndC.mk (fun h=>by simp only[go_sem,FV h]) fun h=>?_
 have h5:=Ji h
 simp only[go_sem,FW h]
 refine CallK.mk _ (by simpa only[go_sem] using Ue d.tasks _ (by omega)) fun _=>?_
 simp only[go_sem]
 refine cndC.mk (fun h=>by simp only[go_sem,FV h]) fun h=>?_
 have h6:=Ji h
 simp only[go_sem,FW h]
 refine CallK.mk _ (by simpa only[go_sem] using Uf d.deeds _ (by omega)) fun _=>?_
 simp only[go_sem]
 refine cndC.mk (fun h=>by simp only[go_sem,FV h]) fun h=>?_
 have h7:=Ji h
 simp only[go_sem,FW h]
theorem JL (xs:List Int) (hf:xs.length≤1048576):Ctr prog 25 [.c (.sl (xs.map intC))] [.own 3 1 (xs.map intC) true]:=by
 refine CM call25 func25 ntmps25 results25 fun _=>?_
 have hc:(0:Int)≤xs.length∧(xs.length:Int)≤xs.length∧(xs.length:Int)≤2147483648:=by omega
 simp only[go_sem,ae,hc,jU]
 have hg:=fun k=>@IG _ intC intC.pure [.v (.int .i64 0)] rfl xs k 3 1 true true
 refine LoopK.mk 1 [0,3,4] (A:=Nat) (fun k=>⟨22,[(0,.c (.sl (xs.map intC))),(3,.c (.ref 0)),(4,.c (.v (.int .i64 k)))],[⟨3,1,grow (xs.map intC) [.v (.int .i64 0)] k,true,true⟩]⟩) (fun k=>k≤xs.length) (fun k=>xs.length-k) 0 ⟨⟨rfl,by have:=hg 0; simp only[BH,ae] at this; exact this⟩,by simp only[BH,ae]; rfl,aJ _⟩ ?_
 intro k hk
 simp only[go_sem,ae]
 refine cndC.mk (fun h=>?_) (fun h=>?_)
 ·have hk':k<xs.length:=by simpa using h
  have hset:=@Dt _ intC xs [.v (.int .i64 0)] k hk'
  simp only[go_sem] at hset
  simp only[go_sem,AA _ hk',A7 hk,Bl hk',hk',hset,wrap_i64 (n:=(k:Int)+1) (by omega) (by omega)]
  exact⟨k+1,⟨rfl,hg _⟩,rfl,by omega,by first | omega | (simp only; omega)⟩
 ·have hk':k=xs.length:=by simp at h; omega
  subst hk'
  rw[Du]
  simp only[go_sem]
  simp[CO (AP intC.pure)]
theorem WP (xs:List Int) (hf:xs.length≤1048576):Ctr prog 96 [.c (.sl (xs.map byteC))] [.own 5 1 (xs.map byteC) true]:=by
 refine CM call96 func96 ntmps96 results96 fun _=>?_
 have hc:(0:Int)≤xs.length∧(xs.length:Int)≤xs.length∧(xs.length:Int)≤2147483648:=by omega
 simp only[go_sem,ae,hc,jU]
 have hg:=fun k=>@IG _ byteC byteC.pure [.v (.int .u8 0)] rfl xs k 5 1 true true
 refine LoopK.mk 1 [0,3,4] (A:=Nat) (fun k=>⟨22,[(0,.c (.sl (xs.map byteC))),(3,.c (.ref 0)),(4,.c (.v (.int .i64 k)))],[⟨5,1,grow (xs.map byteC) [.v (.int .u8 0)] k,true,true⟩]⟩) (fun k=>k≤xs.length) (fun k=>xs.length-k) 0 ⟨⟨rfl,by have:=hg 0; simp only[BH,ae] at this; exact this⟩,by simp only[BH,ae]; rfl,aJ _⟩ ?_
 intro k hk
 simp only[go_sem,ae]
 refine cndC.mk (fun h=>?_) (fun h=>?_)
 ·have hk':k<xs.length:=by simpa using h
  have hset:=@Dt _ byteC xs [.v (.int .u8 0)] k hk'
  simp only[go_sem] at hset
  simp only[go_sem,AA _ hk',A7 hk,Bl hk',hk',hset,wrap_i64 (n:=(k:Int)+1) (by omega) (by omega)]
  exact⟨k+1,⟨rfl,hg _⟩,rfl,by omega,by first | omega | (simp only; omega)⟩
 ·have hk':k=xs.length:=by simp at h; omega
  subst hk'
  rw[Du]
  simp only[go_sem]
  simp[CO (AP byteC.pure)]
theorem Fz (d:DVal) (hf:EK d):Ctr prog 137 [.agg d.c] [.val (.agg d.c)]:=by
 rw[TG] at hf
 have f0:=hf
 refine CM call137 func137 ntmps137 results137 fun _=>?_
 simp only[go_sem]
theorem JM (xs:List DVal) (hf:xs.length≤1048576) (hx:∀ x∈xs,Ctr prog 137 [.agg x.c] [.val (.agg x.c)]):Ctr prog 97 [.c (.sl (xs.map DVal.c))] [.own 75 3 (xs.map DVal.c) true]:=by
 refine CM call97 func97 ntmps97 results97 fun _=>?_
 have hc:(0:Int)≤xs.length∧(xs.length:Int)≤xs.length∧(xs.length:Int)≤2147483648:=by omega
 simp only[go_sem,ae,hc,jU]
 have hg:=fun k=>@IG _ DVal.c DVal.pure [.v (.int .i64 0),.v (.int .i64 0),.v (.string ByteArray.empty)] rfl xs k 75 3 true true
 refine LoopK.mk 1 [0,3,4] (A:=Nat) (fun k=>⟨23,[(0,.c (.sl (xs.map DVal.c))),(3,.c (.ref 0)),(4,.c (.v (.int .i64 k)))],[⟨75,3,grow (xs.map DVal.c) [.v (.int .i64 0),.v (.int .i64 0),.v (.string ByteArray.empty)] k,true,true⟩]⟩) (fun k=>k≤xs.length) (fun k=>xs.length-k) 0 ⟨⟨rfl,by have:=hg 0; simp only[BH,ae] at this; exact this⟩,by simp only[BH,ae]; rfl,aJ _⟩ ?_
 intro k hk
 simp only[go_sem,ae]
 refine cndC.mk (fun h=>?_) (fun h=>?_)
 ·have hk':k<xs.length:=by simpa using h
  have hset:=@Dt _ DVal.c xs [.v (.int .i64 0),.v (.int .i64 0),.v (.string ByteArray.empty)] k hk'
  simp only[go_sem] at hset
  simp only[go_sem,AA _ hk',A7 hk,Bl hk',hk',hset,wrap_i64 (n:=(k:Int)+1) (by omega) (by omega)]
  refine CW (hx xs[k] (au hk')) fun _=>?_
  simp only[go_sem,AA _ hk',A7 hk,Bl hk',hk',hset,wrap_i64 (n:=(k:Int)+1) (by omega) (by omega)]
  exact⟨k+1,⟨rfl,hg _⟩,rfl,by omega,by first | omega | (simp only; omega)⟩
 ·have hk':k=xs.length:=by simp at h; omega
  subst hk'
  rw[Du]
  simp only[go_sem]
  simp[CO (AP DVal.pure)]
theorem WQ (d:DDead):Ctr prog 59 [.agg d.c] [.val (.agg d.c)]:=by
 refine CM call59 func59 ntmps59 results59 fun _=>?_
 simp only[go_sem]
theorem WR (xs:List DDead) (hf:xs.length≤1048576) (hx:∀ x∈xs,Ctr prog 59 [.agg x.c] [.val (.agg x.c)]):Ctr prog 26 [.c (.sl (xs.map DDead.c))] [.own 136 3 (xs.map DDead.c) true]:=by
 refine CM call26 func26 ntmps26 results26 fun _=>?_
 have hc:(0:Int)≤xs.length∧(xs.length:Int)≤xs.length∧(xs.length:Int)≤2147483648:=by omega
 simp only[go_sem,ae,hc,jU]
 have hg:=fun k=>@IG _ DDead.c DDead.pure [.v (.int .i64 0),.v (.int .i64 0),.v (.int .i64 0)] rfl xs k 136 3 true true
 refine LoopK.mk 1 [0,3,4] (A:=Nat) (fun k=>⟨23,[(0,.c (.sl (xs.map DDead.c))),(3,.c (.ref 0)),(4,.c (.v (.int .i64 k)))],[⟨136,3,grow (xs.map DDead.c) [.v (.int .i64 0),.v (.int .i64 0),.v (.int .i64 0)] k,true,true⟩]⟩) (fun k=>k≤xs.length) (fun k=>xs.length-k) 0 ⟨⟨rfl,by have:=hg 0; simp only[BH,ae] at this; exact this⟩,by simp only[BH,ae]; rfl,aJ _⟩ ?_
 intro k hk
 simp only[go_sem,ae]
 refine cndC.mk (fun h=>?_) (fun h=>?_)
 ·have hk':k<xs.length:=by simpa using h
  have hset:=@Dt _ DDead.c xs [.v (.int .i64 0),.v (.int .i64 0),.v (.int .i64 0)] k hk'
  simp only[go_sem] at hset
  simp only[go_sem,AA _ hk',A7 hk,Bl hk',hk',hset,wrap_i64 (n:=(k:Int)+1) (by omega) (by omega)]
  refine CW (hx xs[k] (au hk')) fun _=>?_
  simp only[go_sem,AA _ hk',A7 hk,Bl hk',hk',hset,wrap_i64 (n:=(k:Int)+1) (by omega) (by omega)]
  exact⟨k+1,⟨rfl,hg _⟩,rfl,by omega,by first | omega | (simp only; omega)⟩
 ·have hk':k=xs.length:=by simp at h; omega
  subst hk'
  rw[Du]
  simp only[go_sem]
  simp[CO (AP DDead.pure)]
theorem Q5 (d:DRef):Ctr prog 94 [.agg d.c] [.val (.agg d.c)]:=by
 refine CM call94 func94 ntmps94 results94 fun _=>?_
 simp only[go_sem]
theorem Q7 (xs:List DRef) (hf:xs.length≤1048576) (hx:∀ x∈xs,Ctr prog 94 [.agg x.c] [.val (.agg x.c)]):Ctr prog 57 [.c (.sl (xs.map DRef.c))] [.own 172 5 (xs.map DRef.c) true]:=by
 refine CM call57 func57 ntmps57 results57 fun _=>?_
 have hc:(0:Int)≤xs.length∧(xs.length:Int)≤xs.length∧(xs.length:Int)≤2147483648:=by omega
 simp only[go_sem,ae,hc,jU]
 have hg:=fun k=>@IG _ DRef.c DRef.pure [.v (.int .i64 0),.v (.int .i64 0),.v (.int .i64 0),.v (.int .i64 0),.v (.int .i64 0)] rfl xs k 172 5 true true
 refine LoopK.mk 1 [0,3,4] (A:=Nat) (fun k=>⟨23,[(0,.c (.sl (xs.map DRef.c))),(3,.c (.ref 0)),(4,.c (.v (.int .i64 k)))],[⟨172,5,grow (xs.map DRef.c) [.v (.int .i64 0),.v (.int .i64 0),.v (.int .i64 0),.v (.int .i64 0),.v (.int .i64 0)] k,true,true⟩]⟩) (fun k=>k≤xs.length) (fun k=>xs.length-k) 0 ⟨⟨rfl,by have:=hg 0; simp only[BH,ae] at this; exact this⟩,by simp only[BH,ae]; rfl,aJ _⟩ ?_
 intro k hk
 simp only[go_sem,ae]
 refine cndC.mk (fun h=>?_) (fun h=>?_)
 ·have hk':k<xs.length:=by simpa using h
  have hset:=@Dt _ DRef.c xs [.v (.int .i64 0),.v (.int .i64 0),.v (.int .i64 0),.v (.int .i64 0),.v (.int .i64 0)] k hk'
  simp only[go_sem] at hset
  simp only[go_sem,AA _ hk',A7 hk,Bl hk',hk',hset,wrap_i64 (n:=(k:Int)+1) (by omega) (by omega)]
  refine CW (hx xs[k] (au hk')) fun _=>?_
  simp only[go_sem,AA _ hk',A7 hk,Bl hk',hk',hset,wrap_i64 (n:=(k:Int)+1) (by omega) (by omega)]
  exact⟨k+1,⟨rfl,hg _⟩,rfl,by omega,by first | omega | (simp only; omega)⟩
 ·have hk':k=xs.length:=by simp at h; omega
  subst hk'
  rw[Du]
  simp only[go_sem]
  simp[CO (AP DRef.pure)]
theorem Gi (xs:List Int):Ctr prog 31 [.c (.sl (xs.map intC)),.c (.sl (xs.map intC))] [.val (.c (.v (.bool true)))]:=by
 refine CM call31 func31 ntmps31 results31 fun hw=>?_
 have hlen:xs.length≤9223372036854775807:=by have:=hw.1.1; simpa [Go.maxLen] using this
 simp only[go_sem,ae,ax,aB]
 refine LoopK.mk 0 [0,1,5] (A:=Nat) (fun k=>⟨26,[(0,.c (.sl (xs.map intC))),(1,.c (.sl (xs.map intC))),(5,.c (.v (.int .i64 k)))],[]⟩) (fun k=>k≤xs.length) (fun k=>xs.length-k) 0 ⟨⟨rfl,rfl⟩,rfl,aJ _⟩ ?_
 intro k hk
 simp only[go_sem,ae]
 refine cndC.mk (fun h=>?_) (fun h=>?_)
 ·have hk':k<xs.length:=by simpa using h
  simp only[go_sem]
  refine DrawK.mk ?_
  simp only[go_sem,ae,ax,aB,AA _ hk',hk',wrap_i64 (n:=(k:Int)+1) (by omega) (by omega)]
  exact⟨k+1,⟨rfl,rfl⟩,rfl,by omega,by first | omega | (simp only; omega)⟩
 ·simp only[go_sem]
theorem Uh (xs:List Int):Ctr prog 117 [.c (.sl (xs.map byteC)),.c (.sl (xs.map byteC))] [.val (.c (.v (.bool true)))]:=by
 refine CM call117 func117 ntmps117 results117 fun hw=>?_
 have hlen:xs.length≤9223372036854775807:=by have:=hw.1.1; simpa [Go.maxLen] using this
 simp only[go_sem,ae,ax,aB]
 refine LoopK.mk 0 [0,1,5] (A:=Nat) (fun k=>⟨26,[(0,.c (.sl (xs.map byteC))),(1,.c (.sl (xs.map byteC))),(5,.c (.v (.int .i64 k)))],[]⟩) (fun k=>k≤xs.length) (fun k=>xs.length-k) 0 ⟨⟨rfl,rfl⟩,rfl,aJ _⟩ ?_
 intro k hk
 simp only[go_sem,ae]
 refine cndC.mk (fun h=>?_) (fun h=>?_)
 ·have hk':k<xs.length:=by simpa using h
  simp only[go_sem]
  refine DrawK.mk ?_
  simp only[go_sem,ae,ax,aB,AA _ hk',hk',wrap_i64 (n:=(k:Int)+1) (by omega) (by omega)]
  exact⟨k+1,⟨rfl,rfl⟩,rfl,by omega,by first | omega | (simp only; omega)⟩
 ·simp only[go_sem]
theorem ML (d:DVal):Ctr prog 153 [.agg d.c,.agg d.c] [.val (.c (.v (.bool true)))]:=by
 refine CM call153 func153 ntmps153 results153 fun _=>?_
 simp only[go_sem,ax,aB]
theorem dI (xs:List DVal) (hx:∀ x∈xs,Ctr prog 153 [.agg x.c,.agg x.c] [.val (.c (.v (.bool true)))]):Ctr prog 114 [.c (.sl (xs.map DVal.c)),.c (.sl (xs.map DVal.c))] [.val (.c (.v (.bool true)))]:=by
 refine CM call114 func114 ntmps114 results114 fun hw=>?_
 have hlen:xs.length≤9223372036854775807:=by have:=hw.1.1; simpa [Go.maxLen] using this
 simp only[go_sem,ae,ax,aB]
 refine LoopK.mk 0 [0,1,5] (A:=Nat) (fun k=>⟨27,[(0,.c (.sl (xs.map DVal.c))),(1,.c (.sl (xs.map DVal.c))),(5,.c (.v (.int .i64 k)))],[]⟩) (fun k=>k≤xs.length) (fun k=>xs.length-k) 0 ⟨⟨rfl,rfl⟩,rfl,aJ _⟩ ?_
 intro k hk
 simp only[go_sem,ae]
 refine cndC.mk (fun h=>?_) (fun h=>?_)
 ·have hk':k<xs.length:=by simpa using h
  simp only[go_sem]
  refine DrawK.mk ?_
  simp only[go_sem,ae,ax,aB,AA _ hk',hk',wrap_i64 (n:=(k:Int)+1) (by omega) (by omega)]
  refine CY (hx xs[k] (au hk')) ?_
  simp only[go_sem,AA _ hk',wrap_i64 (n:=(k:Int)+1) (by omega) (by omega)]
  exact⟨k+1,⟨rfl,rfl⟩,rfl,by omega,by first | omega | (simp only; omega)⟩
 ·simp only[go_sem]
theorem IW (xs:List DVal):Ctr prog 114 [.c (.sl (xs.map DVal.c)),.c (.sl (xs.map DVal.c))] [.val (.c (.v (.bool true)))]:=dI xs fun x _=>ML x
theorem YN (d:DRow):Ctr prog 67 [.agg d.c,.agg d.c] [.val (.c (.v (.bool true)))]:=by
 refine CM call67 func67 ntmps67 results67 fun _=>?_
 simp only[go_sem,ax,aB]
 refine CW (IW d.l) fun _=>?_
 simp only[go_sem,ax,aB]
theorem dJ (xs:List DRow) (hx:∀ x∈xs,Ctr prog 67 [.agg x.c,.agg x.c] [.val (.c (.v (.bool true)))]):Ctr prog 32 [.c (.sl (xs.map DRow.c)),.c (.sl (xs.map DRow.c))] [.val (.c (.v (.bool true)))]:=by
 refine CM call32 func32 ntmps32 results32 fun hw=>?_
 have hlen:xs.length≤9223372036854775807:=by have:=hw.1.1; simpa [Go.maxLen] using this
 simp only[go_sem,ae,ax,aB]
 refine LoopK.mk 0 [0,1,5] (A:=Nat) (fun k=>⟨27,[(0,.c (.sl (xs.map DRow.c))),(1,.c (.sl (xs.map DRow.c))),(5,.c (.v (.int .i64 k)))],[]⟩) (fun k=>k≤xs.length) (fun k=>xs.length-k) 0 ⟨⟨rfl,rfl⟩,rfl,aJ _⟩ ?_
 intro k hk
 simp only[go_sem,ae]
 refine cndC.mk (fun h=>?_) (fun h=>?_)
 ·have hk':k<xs.length:=by simpa using h
  simp only[go_sem]
  refine DrawK.mk ?_
  simp only[go_sem,ae,ax,aB,AA _ hk',hk',wrap_i64 (n:=(k:Int)+1) (by omega) (by omega)]
  refine CY (hx xs[k] (au hk')) ?_
  simp only[go_sem,AA _ hk',wrap_i64 (n:=(k:Int)+1) (by omega) (by omega)]
  exact⟨k+1,⟨rfl,rfl⟩,rfl,by omega,by first | omega | (simp only; omega)⟩
 ·simp only[go_sem]
theorem J4 (xs:List DRow):Ctr prog 32 [.c (.sl (xs.map DRow.c)),.c (.sl (xs.map DRow.c))] [.val (.c (.v (.bool true)))]:=dJ xs fun x _=>YN x
theorem YO (xs:List DPred) (hx:∀ x∈xs,Ctr prog 155 [.agg x.c,.agg x.c] [.val (.c (.v (.bool true)))]):Ctr prog 176 [.c (.sl (xs.map DPred.c)),.c (.sl (xs.map DPred.c))] [.val (.c (.v (.bool true)))]:=by
 refine CM call176 func176 ntmps176 results176 fun hw=>?_
 have hlen:xs.length≤9223372036854775807:=by have:=hw.1.1; simpa [Go.maxLen] using this
 simp only[go_sem,ae,ax,aB]
 refine LoopK.mk 0 [0,1,5] (A:=Nat) (fun k=>⟨27,[(0,.c (.sl (xs.map DPred.c))),(1,.c (.sl (xs.map DPred.c))),(5,.c (.v (.int .i64 k)))],[]⟩) (fun k=>k≤xs.length) (fun k=>xs.length-k) 0 ⟨⟨rfl,rfl⟩,rfl,aJ _⟩ ?_
 intro k hk
 simp only[go_sem,ae]
 refine cndC.mk (fun h=>?_) (fun h=>?_)
 ·have hk':k<xs.length:=by simpa using h
  simp only[go_sem]
  refine DrawK.mk ?_
  simp only[go_sem,ae,ax,aB,AA _ hk',hk',wrap_i64 (n:=(k:Int)+1) (by omega) (by omega)]
  refine CY (hx xs[k] (au hk')) ?_
  simp only[go_sem,AA _ hk',wrap_i64 (n:=(k:Int)+1) (by omega) (by omega)]
  exact⟨k+1,⟨rfl,rfl⟩,rfl,by omega,by first | omega | (simp only; omega)⟩
 ·simp only[go_sem]
theorem dK (d:DPred) (hx:∀ x∈d.l,Ctr prog 155 [.agg x.c,.agg x.c] [.val (.c (.v (.bool true)))]):Ctr prog 155 [.agg d.c,.agg d.c] [.val (.c (.v (.bool true)))]:=by
 refine CM call155 func155 ntmps155 results155 fun _=>?_
 simp only[go_sem,ax,aB]
 refine CW (ML d.v) fun _=>?_
 simp only[go_sem,ax,aB]
 refine CW (YO d.l hx) fun _=>?_
 simp only[go_sem,ax,aB]
theorem Pg:∀ (n:Nat) (d:DPred),SizeOf.sizeOf d≤n→Ctr prog 155 [.agg d.c,.agg d.c] [.val (.c (.v (.bool true)))]
 | 0,d,h=>by cases d; simp at h
 | n+1,d,h=>dK d fun x hx=>Pg n x (by
  have h1:SizeOf.sizeOf x<SizeOf.sizeOf d.l:=eu hx
  have h2:SizeOf.sizeOf d.l<SizeOf.sizeOf d:=by cases d; simp[DPred.l]; omega
  omega)
theorem WS (d:DPred):Ctr prog 155 [.agg d.c,.agg d.c] [.val (.c (.v (.bool true)))]:=Pg _ d (aQ _)
theorem Nc (d:DQuery):Ctr prog 118 [.agg d.c,.agg d.c] [.val (.c (.v (.bool true)))]:=by
 refine CM call118 func118 ntmps118 results118 fun _=>?_
 simp only[go_sem,ax,aB]
 refine CW (WS d.p) fun _=>?_
 simp only[go_sem,ax,aB]
 refine CW (Gi d.out) fun _=>?_
 simp only[go_sem,ax,aB]
theorem Sl (d:DResult):Ctr prog 119 [.agg d.c,.agg d.c] [.val (.c (.v (.bool true)))]:=by
 refine CM call119 func119 ntmps119 results119 fun _=>?_
 simp only[go_sem,ax,aB]
 refine CW (J4 d.rows) fun _=>?_
 simp only[go_sem,ax,aB]
 refine CW (ML d.v) fun _=>?_
 simp only[go_sem,ax,aB]
theorem WT (d:DSlot):Ctr prog 175 [.agg d.c,.agg d.c] [.val (.c (.v (.bool true)))]:=by
 refine CM call175 func175 ntmps175 results175 fun _=>?_
 simp only[go_sem,ax,aB]
 refine CW (IW d.l) fun _=>?_
 simp only[go_sem,ax,aB]
theorem YP (xs:List DSlot) (hx:∀ x∈xs,Ctr prog 175 [.agg x.c,.agg x.c] [.val (.c (.v (.bool true)))]):Ctr prog 154 [.c (.sl (xs.map DSlot.c)),.c (.sl (xs.map DSlot.c))] [.val (.c (.v (.bool true)))]:=by
 refine CM call154 func154 ntmps154 results154 fun hw=>?_
 have hlen:xs.length≤9223372036854775807:=by have:=hw.1.1; simpa [Go.maxLen] using this
 simp only[go_sem,ae,ax,aB]
 refine LoopK.mk 0 [0,1,5] (A:=Nat) (fun k=>⟨27,[(0,.c (.sl (xs.map DSlot.c))),(1,.c (.sl (xs.map DSlot.c))),(5,.c (.v (.int .i64 k)))],[]⟩) (fun k=>k≤xs.length) (fun k=>xs.length-k) 0 ⟨⟨rfl,rfl⟩,rfl,aJ _⟩ ?_
 intro k hk
 simp only[go_sem,ae]
 refine cndC.mk (fun h=>?_) (fun h=>?_)
 ·have hk':k<xs.length:=by simpa using h
  simp only[go_sem]
  refine DrawK.mk ?_
  simp only[go_sem,ae,ax,aB,AA _ hk',hk',wrap_i64 (n:=(k:Int)+1) (by omega) (by omega)]
  refine CY (hx xs[k] (au hk')) ?_
  simp only[go_sem,AA _ hk',wrap_i64 (n:=(k:Int)+1) (by omega) (by omega)]
  exact⟨k+1,⟨rfl,rfl⟩,rfl,by omega,by first | omega | (simp only; omega)⟩
 ·simp only[go_sem]
theorem Ui (xs:List DSlot):Ctr prog 154 [.c (.sl (xs.map DSlot.c)),.c (.sl (xs.map DSlot.c))] [.val (.c (.v (.bool true)))]:=YP xs fun x _=>WT x
theorem Uj (d:DChunk):Ctr prog 116 [.agg d.c,.agg d.c] [.val (.c (.v (.bool true)))]:=by
 refine CM call116 func116 ntmps116 results116 fun _=>?_
 simp only[go_sem,ax,aB]
 refine CW (Ui d.l) fun _=>?_
 simp only[go_sem,ax,aB]
theorem YQ (d:DBuf):Ctr prog 69 [.agg d.c,.agg d.c] [.val (.c (.v (.bool true)))]:=by
 refine CM call69 func69 ntmps69 results69 fun _=>?_
 simp only[go_sem,ax,aB]
 refine CW (Uj d.c0) fun _=>?_
 simp only[go_sem,ax,aB]
 refine CW (Uh d.g) fun _=>?_
 simp only[go_sem,ax,aB]
theorem dL (xs:List DBuf) (hx:∀ x∈xs,Ctr prog 69 [.agg x.c,.agg x.c] [.val (.c (.v (.bool true)))]):Ctr prog 35 [.c (.sl (xs.map DBuf.c)),.c (.sl (xs.map DBuf.c))] [.val (.c (.v (.bool true)))]:=by
 refine CM call35 func35 ntmps35 results35 fun hw=>?_
 have hlen:xs.length≤9223372036854775807:=by have:=hw.1.1; simpa [Go.maxLen] using this
 simp only[go_sem,ae,ax,aB]
 refine LoopK.mk 0 [0,1,5] (A:=Nat) (fun k=>⟨27,[(0,.c (.sl (xs.map DBuf.c))),(1,.c (.sl (xs.map DBuf.c))),(5,.c (.v (.int .i64 k)))],[]⟩) (fun k=>k≤xs.length) (fun k=>xs.length-k) 0 ⟨⟨rfl,rfl⟩,rfl,aJ _⟩ ?_
 intro k hk
 simp only[go_sem,ae]
 refine cndC.mk (fun h=>?_) (fun h=>?_)
 ·have hk':k<xs.length:=by simpa using h
  simp only[go_sem]
  refine DrawK.mk ?_
  simp only[go_sem,ae,ax,aB,AA _ hk',hk',wrap_i64 (n:=(k:Int)+1) (by omega) (by omega)]
  refine CY (hx xs[k] (au hk')) ?_
  simp only[go_sem,AA _ hk',wrap_i64 (n:=(k:Int)+1) (by omega) (by omega)]
  exact⟨k+1,⟨rfl,rfl⟩,rfl,by omega,by first | omega | (simp only; omega)⟩
 ·simp only[go_sem]
theorem WU (xs:List DBuf):Ctr prog 35 [.c (.sl (xs.map DBuf.c)),.c (.sl (xs.map DBuf.c))] [.val (.c (.v (.bool true)))]:=dL xs fun x _=>YQ x
theorem WV (d:DDead):Ctr prog 70 [.agg d.c,.agg d.c] [.val (.c (.v (.bool true)))]:=by
 refine CM call70 func70 ntmps70 results70 fun _=>?_
 simp only[go_sem,ax,aB]
theorem YR (xs:List DDead) (hx:∀ x∈xs,Ctr prog 70 [.agg x.c,.agg x.c] [.val (.c (.v (.bool true)))]):Ctr prog 36 [.c (.sl (xs.map DDead.c)),.c (.sl (xs.map DDead.c))] [.val (.c (.v (.bool true)))]:=by
 refine CM call36 func36 ntmps36 results36 fun hw=>?_
 have hlen:xs.length≤9223372036854775807:=by have:=hw.1.1; simpa [Go.maxLen] using this
 simp only[go_sem,ae,ax,aB]
 refine LoopK.mk 0 [0,1,5] (A:=Nat) (fun k=>⟨27,[(0,.c (.sl (xs.map DDead.c))),(1,.c (.sl (xs.map DDead.c))),(5,.c (.v (.int .i64 k)))],[]⟩) (fun k=>k≤xs.length) (fun k=>xs.length-k) 0 ⟨⟨rfl,rfl⟩,rfl,aJ _⟩ ?_
 intro k hk
 simp only[go_sem,ae]
 refine cndC.mk (fun h=>?_) (fun h=>?_)
 ·have hk':k<xs.length:=by simpa using h
  simp only[go_sem]
  refine DrawK.mk ?_
  simp only[go_sem,ae,ax,aB,AA _ hk',hk',wrap_i64 (n:=(k:Int)+1) (by omega) (by omega)]
  refine CY (hx xs[k] (au hk')) ?_
  simp only[go_sem,AA _ hk',wrap_i64 (n:=(k:Int)+1) (by omega) (by omega)]
  exact⟨k+1,⟨rfl,rfl⟩,rfl,by omega,by first | omega | (simp only; omega)⟩
 ·simp only[go_sem]
theorem Uk (xs:List DDead):Ctr prog 36 [.c (.sl (xs.map DDead.c)),.c (.sl (xs.map DDead.c))] [.val (.c (.v (.bool true)))]:=YR xs fun x _=>WV x
theorem YS (d:DRef):Ctr prog 115 [.agg d.c,.agg d.c] [.val (.c (.v (.bool true)))]:=by
 refine CM call115 func115 ntmps115 results115 fun _=>?_
 simp only[go_sem,ax,aB]
theorem dM (xs:List DRef) (hx:∀ x∈xs,Ctr prog 115 [.agg x.c,.agg x.c] [.val (.c (.v (.bool true)))]):Ctr prog 68 [.c (.sl (xs.map DRef.c)),.c (.sl (xs.map DRef.c))] [.val (.c (.v (.bool true)))]:=by
 refine CM call68 func68 ntmps68 results68 fun hw=>?_
 have hlen:xs.length≤9223372036854775807:=by have:=hw.1.1; simpa [Go.maxLen] using this
 simp only[go_sem,ae,ax,aB]
 refine LoopK.mk 0 [0,1,5] (A:=Nat) (fun k=>⟨27,[(0,.c (.sl (xs.map DRef.c))),(1,.c (.sl (xs.map DRef.c))),(5,.c (.v (.int .i64 k)))],[]⟩) (fun k=>k≤xs.length) (fun k=>xs.length-k) 0 ⟨⟨rfl,rfl⟩,rfl,aJ _⟩ ?_
 intro k hk
 simp only[go_sem,ae]
 refine cndC.mk (fun h=>?_) (fun h=>?_)
 ·have hk':k<xs.length:=by simpa using h
  simp only[go_sem]
  refine DrawK.mk ?_
  simp only[go_sem,ae,ax,aB,AA _ hk',hk',wrap_i64 (n:=(k:Int)+1) (by omega) (by omega)]
  refine CY (hx xs[k] (au hk')) ?_
  simp only[go_sem,AA _ hk',wrap_i64 (n:=(k:Int)+1) (by omega) (by omega)]
  exact⟨k+1,⟨rfl,rfl⟩,rfl,by omega,by first | omega | (simp only; omega)⟩
 ·simp only[go_sem]
theorem Ph (xs:List DRef):Ctr prog 68 [.c (.sl (xs.map DRef.c)),.c (.sl (xs.map DRef.c))] [.val (.c (.v (.bool true)))]:=dM xs fun x _=>YS x
theorem YT (d:DDir):Ctr prog 34 [.agg d.c,.agg d.c] [.val (.c (.v (.bool true)))]:=by
 refine CM call34 func34 ntmps34 results34 fun _=>?_
 simp only[go_sem,ax,aB]
 refine CW (Ph d.l) fun _=>?_
 simp only[go_sem,ax,aB]
theorem WW (d:DTask):Ctr prog 71 [.agg d.c,.agg d.c] [.val (.c (.v (.bool true)))]:=by
 refine CM call71 func71 ntmps71 results71 fun _=>?_
 simp only[go_sem,ax,aB]
 refine CW (IW d.r) fun _=>?_
 simp only[go_sem,ax,aB]
 refine CW (Nc d.q) fun _=>?_
 simp only[go_sem,ax,aB]
 refine CW (Ph d.l) fun _=>?_
 simp only[go_sem,ax,aB]
 refine CW (J4 d.got) fun _=>?_
 simp only[go_sem,ax,aB]
theorem YU (xs:List DTask) (hx:∀ x∈xs,Ctr prog 71 [.agg x.c,.agg x.c] [.val (.c (.v (.bool true)))]):Ctr prog 37 [.c (.sl (xs.map DTask.c)),.c (.sl (xs.map DTask.c))] [.val (.c (.v (.bool true)))]:=by
 refine CM call37 func37 ntmps37 results37 fun hw=>?_
 have hlen:xs.length≤9223372036854775807:=by have:=hw.1.1; simpa [Go.maxLen] using this
 simp only[go_sem,ae,ax,aB]
 refine LoopK.mk 0 [0,1,5] (A:=Nat) (fun k=>⟨27,[(0,.c (.sl (xs.map DTask.c))),(1,.c (.sl (xs.map DTask.c))),(5,.c (.v (.int .i64 k)))],[]⟩) (fun k=>k≤xs.length) (fun k=>xs.length-k) 0 ⟨⟨rfl,rfl⟩,rfl,aJ _⟩ ?_
 intro k hk
 simp only[go_sem,ae]
 refine cndC.mk (fun h=>?_) (fun h=>?_)
 ·have hk':k<xs.length:=by simpa using h
  simp only[go_sem]
  refine DrawK.mk ?_
  simp only[go_sem,ae,ax,aB,AA _ hk',hk',wrap_i64 (n:=(k:Int)+1) (by omega) (by omega)]
  refine CY (hx xs[k] (au hk')) ?_
  simp only[go_sem,AA _ hk',wrap_i64 (n:=(k:Int)+1) (by omega) (by omega)]
  exact⟨k+1,⟨rfl,rfl⟩,rfl,by omega,by first | omega | (simp only; omega)⟩
 ·simp only[go_sem]
theorem Ul (xs:List DTask):Ctr prog 37 [.c (.sl (xs.map DTask.c)),.c (.sl (xs.map DTask.c))] [.val (.c (.v (.bool true)))]:=YU xs fun x _=>WW x
theorem WX (d:DDeed):Ctr prog 72 [.agg d.c,.agg d.c] [.val (.c (.v (.bool true)))]:=by
 refine CM call72 func72 ntmps72 results72 fun _=>?_
 simp only[go_sem,ax,aB]
 refine CW (IW d.r) fun _=>?_
 simp only[go_sem,ax,aB]
 refine CW (Nc d.q) fun _=>?_
 simp only[go_sem,ax,aB]
 refine CW (Sl d.res) fun _=>?_
 simp only[go_sem,ax,aB]
theorem YV (xs:List DDeed) (hx:∀ x∈xs,Ctr prog 72 [.agg x.c,.agg x.c] [.val (.c (.v (.bool true)))]):Ctr prog 38 [.c (.sl (xs.map DDeed.c)),.c (.sl (xs.map DDeed.c))] [.val (.c (.v (.bool true)))]:=by
 refine CM call38 func38 ntmps38 results38 fun hw=>?_
 have hlen:xs.length≤9223372036854775807:=by have:=hw.1.1; simpa [Go.maxLen] using this
 simp only[go_sem,ae,ax,aB]
 refine LoopK.mk 0 [0,1,5] (A:=Nat) (fun k=>⟨27,[(0,.c (.sl (xs.map DDeed.c))),(1,.c (.sl (xs.map DDeed.c))),(5,.c (.v (.int .i64 k)))],[]⟩) (fun k=>k≤xs.length) (fun k=>xs.length-k) 0 ⟨⟨rfl,rfl⟩,rfl,aJ _⟩ ?_
 intro k hk
 simp only[go_sem,ae]
 refine cndC.mk (fun h=>?_) (fun h=>?_)
 ·have hk':k<xs.length:=by simpa using h
  simp only[go_sem]
  refine DrawK.mk ?_
  simp only[go_sem,ae,ax,aB,AA _ hk',hk',wrap_i64 (n:=(k:Int)+1) (by omega) (by omega)]
  refine CY (hx xs[k] (au hk')) ?_
  simp only[go_sem,AA _ hk',wrap_i64 (n:=(k:Int)+1) (by omega) (by omega)]
  exact⟨k+1,⟨rfl,rfl⟩,rfl,by omega,by first | omega | (simp only; omega)⟩
 ·simp only[go_sem]
theorem Um (xs:List DDeed):Ctr prog 38 [.c (.sl (xs.map DDeed.c)),.c (.sl (xs.map DDeed.c))] [.val (.c (.v (.bool true)))]:=YV xs fun x _=>WX x
theorem WY (d:DConf):Ctr prog 33 [.agg d.c,.agg d.c] [.val (.c (.v (.bool true)))]:=by
 refine CM call33 func33 ntmps33 results33 fun _=>?_
 simp only[go_sem,ax,aB]
 refine CW (Gi d.cols) fun _=>?_
 simp only[go_sem,ax,aB]
theorem Un (d:DWorld):Ctr prog 9 [.agg d.c,.agg d.c] [.val (.c (.v (.bool true)))]:=by
 refine CM call9 func9 ntmps9 results9 fun _=>?_
 simp only[go_sem,ax,aB]
 refine CW (WY d.c0) fun _=>?_
 simp only[go_sem,ax,aB]
 refine CW (YT d.d) fun _=>?_
 simp only[go_sem,ax,aB]
 refine CW (WU d.b) fun _=>?_
 simp only[go_sem,ax,aB]
 refine CW (Gi d.m) fun _=>?_
 simp only[go_sem,ax,aB]
 refine CW (Uk d.x) fun _=>?_
 simp only[go_sem,ax,aB]
 refine CW (Gi d.p) fun _=>?_
 simp only[go_sem,ax,aB]
 refine CW (Ul d.tasks) fun _=>?_
 simp only[go_sem,ax,aB]
 refine CW (Um d.deeds) fun _=>?_
 simp only[go_sem,ax,aB]
theorem JO (d:DTable):Ctr prog 8 [.agg d.c,.agg d.c] [.val (.c (.v (.bool true)))]:=by
 refine CM call8 func8 ntmps8 results8 fun _=>?_
 simp only[go_sem,ax,aB]
 refine CW (Gi d.cols) fun _=>?_
 simp only[go_sem,ax,aB]
 refine CW (J4 d.l) fun _=>?_
 simp only[go_sem,ax,aB]
end Go.Proofs.YtgkmefoghbjfnaaGreat
