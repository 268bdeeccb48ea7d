/- A part. -/
import Derived.Test.YthmifbbmgnhddaaGreatDa
import Derived.Test.YthmifbbmgnhddaaGreatTy
set_option linter.unusedSimpArgs false
set_option linter.unusedVariables false
set_option maxHeartbeats 1000000
set_option maxRecDepth 10000
open Go.Proofs.Tryz
namespace Go.Proofs.YthmifbbmgnhddaaGreat
open Go.Vm
theorem KP {x:Int} {k:Int→Int} (h:decide (x<0)=true):sq x k = -1:=AJi (YL h)
theorem KQ {x:Int} {k:Int→Int} (h:decide (x<0)=false):sq x k=k x:=AJj (of_decide_eq_false h)
theorem Rw {x:Int} (h:decide (x<0)=false):0≤x:=Int.not_lt.1 (of_decide_eq_false h)
theorem ltN {a b:Nat} (h:decide ((a:Int)<b)=true):a<b:=ARY
def szP {α:Type} (sz:α→Int→Int) (xs:List α) (r:Int) (x:Nat×Int):Prop:=x.1≤xs.length∧0≤x.2∧Z5 sz (xs.drop x.1) x.2=r
section
variable {α:Type} {sz:α→Int→Int} {xs:List α} {r m l:Int} {k:Nat}
theorem gX (h:decide (l-xs.length<0)=true):DD sz xs l = -1:=by
 have:=YL h
 simp[DD,sq,FY,this]
theorem szP.start (h:0≤l-xs.length):szP sz xs (DD sz xs l) (0,l-xs.length):=⟨au _,h,by
 have:¬ l-xs.length<0:=AQ2
 simp[DD,sq,FY,this]⟩
theorem szP.neg (hP:szP sz xs r (k,m)) (hk:k<xs.length) (h:decide (sz xs[k] m<0)=true):r = -1:=by
 have hm:=hP.2.2
 simp only at hm
 rw[aA hk,Z5,KP h] at hm
 exact hm.symm
theorem szP.step (hP:szP sz xs r (k,m)) (hk:k<xs.length) (h:decide (sz xs[k] m<0)=false):szP sz xs r (k+1,sz xs[k] m):=by
 have hm:=hP.2.2
 simp only at hm
 rw[aA hk,Z5,KQ h] at hm
 exact⟨hk,Rw h,hm⟩
theorem szP.fin (hP:szP sz xs r (k,m)) (h:decide ((k:Int)<xs.length)=false):r=m:=by
 have h1:=hP.1
 have hm:=hP.2.2
 simp only at hm h1
 have:k=xs.length:=ARD
 subst this
 simpa [Z5] using hm.symm
end
def NV {α:Type} (n:Nat) (c:α→List Cl):Prop:=∀ x,(c x).length=n∧List.take n (c x)=c x∧fzL [] (c x)=some (c x,[])
def WU {α:Type} (n:Nat) (e:α→List Cl) (xs:List α) (x:Nat×Int):MS:=⟨n,[(0,.c (.sl (xs.map e))),(1,.c (.v (.int .i64 x.2))),(5,.c (.v (.int .i64 x.1)))],[]⟩
theorem PG (xs:List Int) (l:Int) (hl:0≤l):Ctr prog 34 [.c (.sl (xs.map intC)),.c (.v (.int .i64 l))] [.val (.c (.v (.int .i64 (FY xs.length l))))]:=by
 refine CM call34 func34 ntmps34 results34 fun hw=>?_
 exact AF5
theorem qZ (xs:List Int) (l:Int) (hl:0≤l):Ctr prog 209 [.c (.sl (xs.map byteC)),.c (.v (.int .i64 l))] [.val (.c (.v (.int .i64 (FY xs.length l))))]:=by
 refine CM call209 func209 ntmps209 results209 fun hw=>?_
 exact AF5
theorem VR (d:DVal) (l:Int) (hl:0≤l):Ctr prog 38 [.agg d.c,.c (.v (.int .i64 l))] [.val (.c (.v (.int .i64 (Aj d l))))]:=by
 refine CM call38 func38 ntmps38 results38 fun hw=>?_
 rw[F9]
 have hl2:l≤9223372036854775807:=NP hw.2.1
 have hs:d.s.size≤9223372036854775807:=ABm hw.1.2.2.1
 simp only[go_sem,wrap_i64 (n:=l-d.s.size) AQ2 AQ2]
 refine AAP (fun h=>?_) (fun h=>?_)
 ·have h0:l-d.s.size<0:=by simpa using h
  simp only[go_sem]
  simp[FY,sq,h0]
 ·have h0:¬ l-d.s.size<0:=by simpa using h
  simp only[go_sem]
  simp[FY,sq,h0]
theorem ADl {α:Type} {c:α→List Cl} {sz:α→Int→Int} (xs:List α) (hx:∀ x∈xs,∀ l,0≤l→Ctr prog 38 [.agg (c x),.c (.v (.int .i64 l))] [.val (.c (.v (.int .i64 (sz x l))))]) (l:Int) (hl:0≤l) (hc:NV 3 c:=by intro x; first | exact⟨rfl,rfl,rfl⟩ | (simp only[go_sem]; done) | (simp only[go_sem]; exact⟨rfl,rfl,rfl⟩)):Ctr prog 9 [.c (.sl (xs.map c)),.c (.v (.int .i64 l))] [.val (.c (.v (.int .i64 (DD sz xs l))))]:=by
 refine CM call9 func9 ntmps9 results9 fun hw=>?_
 exact AE7
theorem MN (xs:List DVal) (l:Int) (hl:0≤l):Ctr prog 9 [.c (.sl (xs.map DVal.c)),.c (.v (.int .i64 l))] [.val (.c (.v (.int .i64 (DD Aj xs l))))]:=ADl xs (fun x _ l hl=>VR x l hl) l hl
theorem AAw (d:DRow) (l:Int) (hl:0≤l):Ctr prog 308 [.agg d.c,.c (.v (.int .i64 l))] [.val (.c (.v (.int .i64 (KJ d l))))]:=by
 refine CM call308 func308 ntmps308 results308 fun hw=>?_
 rw[WE]
 simp only[go_sem]
 refine AAN _ (by simpa only[go_sem] using MN d.l _ AQ2) fun _=>?_
 exact AK_
theorem ADm {α:Type} {c:α→List Cl} {sz:α→Int→Int} (xs:List α) (hx:∀ x∈xs,∀ l,0≤l→Ctr prog 308 [.agg (c x),.c (.v (.int .i64 l))] [.val (.c (.v (.int .i64 (sz x l))))]) (l:Int) (hl:0≤l) (hc:NV 2 c:=by intro x; first | exact⟨rfl,rfl,rfl⟩ | (simp only[go_sem]; done) | (simp only[go_sem]; exact⟨rfl,rfl,rfl⟩)):Ctr prog 210 [.c (.sl (xs.map c)),.c (.v (.int .i64 l))] [.val (.c (.v (.int .i64 (DD sz xs l))))]:=by
 refine CM call210 func210 ntmps210 results210 fun hw=>?_
 exact AE7
theorem ZA (xs:List DRow) (l:Int) (hl:0≤l):Ctr prog 210 [.c (.sl (xs.map DRow.c)),.c (.v (.int .i64 l))] [.val (.c (.v (.int .i64 (DD KJ xs l))))]:=ADm xs (fun x _ l hl=>AAw x l hl) l hl
theorem AAx {α:Type} {c:α→List Cl} {sz:α→Int→Int} (xs:List α) (hx:∀ x∈xs,∀ l,0≤l→Ctr prog 78 [.agg (c x),.c (.v (.int .i64 l))] [.val (.c (.v (.int .i64 (sz x l))))]) (l:Int) (hl:0≤l) (hc:NV 7 c:=by intro x; first | exact⟨rfl,rfl,rfl⟩ | (simp only[go_sem]; done) | (simp only[go_sem]; exact⟨rfl,rfl,rfl⟩)):Ctr prog 160 [.c (.sl (xs.map c)),.c (.v (.int .i64 l))] [.val (.c (.v (.int .i64 (DD sz xs l))))]:=by
 refine CM call160 func160 ntmps160 results160 fun hw=>?_
 exact AE7
theorem ADn (d:DPred) (hx:∀ x∈d.l,∀ l,0≤l→Ctr prog 78 [.agg x.c,.c (.v (.int .i64 l))] [.val (.c (.v (.int .i64 (BJ x l))))]) (l:Int) (hl:0≤l):Ctr prog 78 [.agg d.c,.c (.v (.int .i64 l))] [.val (.c (.v (.int .i64 (BJ d l))))]:=by
 refine CM call78 func78 ntmps78 results78 fun hw=>?_
 rw[Ic]
 simp only[go_sem]
 refine AAN _ (by simpa only[go_sem] using VR d.v _ AQ2) fun _=>?_
 simp only[go_sem]
 refine AAP (fun h=>ARB) fun h=>?_
 have h0:=Rw h
 simp only[go_sem,KQ h]
 refine AAN _ (by simpa only[go_sem] using AAx d.l hx _ AQ2) fun _=>?_
 exact AL4
theorem ZB:∀ (n:Nat) (d:DPred),SizeOf.sizeOf d≤n→∀ l,0≤l→Ctr prog 78 [.agg d.c,.c (.v (.int .i64 l))] [.val (.c (.v (.int .i64 (BJ d l))))]
 | 0,d,h=>ASA
 | n+1,d,h=>ADn d fun x hx=>ZB n x (by
  have h1:SizeOf.sizeOf x<SizeOf.sizeOf d.l:=aao hx
  have h2:SizeOf.sizeOf d.l<SizeOf.sizeOf d:=AR6
  omega)
theorem wR (d:DPred) (l:Int) (hl:0≤l):Ctr prog 78 [.agg d.c,.c (.v (.int .i64 l))] [.val (.c (.v (.int .i64 (BJ d l))))]:=ZB _ d (aI _) l hl
theorem Qk (d:DQuery) (l:Int) (hl:0≤l):Ctr prog 19 [.agg d.c,.c (.v (.int .i64 l))] [.val (.c (.v (.int .i64 (BV d l))))]:=by
 refine CM call19 func19 ntmps19 results19 fun hw=>?_
 rw[Iw]
 simp only[go_sem]
 refine AAN _ (by simpa only[go_sem] using wR d.p _ AQ2) fun _=>?_
 simp only[go_sem]
 refine AAP (fun h=>ARB) fun h=>?_
 have h0:=Rw h
 simp only[go_sem,KQ h]
 refine AAN _ (by simpa only[go_sem] using PG d.out _ AQ2) fun _=>?_
 exact AL4
theorem lU (d:DResult) (l:Int) (hl:0≤l):Ctr prog 211 [.agg d.c,.c (.v (.int .i64 l))] [.val (.c (.v (.int .i64 (MI d l))))]:=by
 refine CM call211 func211 ntmps211 results211 fun hw=>?_
 rw[J7]
 simp only[go_sem]
 refine AAN _ (by simpa only[go_sem] using ZA d.rows _ AQ2) fun _=>?_
 simp only[go_sem]
 refine AAP (fun h=>ARB) fun h=>?_
 have h0:=Rw h
 simp only[go_sem,KQ h]
 refine AAN _ (by simpa only[go_sem] using VR d.v _ AQ2) fun _=>?_
 exact AL4
theorem wS (d:DSlot) (l:Int) (hl:0≤l):Ctr prog 346 [.agg d.c,.c (.v (.int .i64 l))] [.val (.c (.v (.int .i64 (NJ d l))))]:=by
 refine CM call346 func346 ntmps346 results346 fun hw=>?_
 rw[UF]
 simp only[go_sem]
 refine AAN _ (by simpa only[go_sem] using MN d.l _ AQ2) fun _=>?_
 exact AK_
theorem AAy {α:Type} {c:α→List Cl} {sz:α→Int→Int} (xs:List α) (hx:∀ x∈xs,∀ l,0≤l→Ctr prog 346 [.agg (c x),.c (.v (.int .i64 l))] [.val (.c (.v (.int .i64 (sz x l))))]) (l:Int) (hl:0≤l) (hc:NV 2 c:=by intro x; first | exact⟨rfl,rfl,rfl⟩ | (simp only[go_sem]; done) | (simp only[go_sem]; exact⟨rfl,rfl,rfl⟩)):Ctr prog 307 [.c (.sl (xs.map c)),.c (.v (.int .i64 l))] [.val (.c (.v (.int .i64 (DD sz xs l))))]:=by
 refine CM call307 func307 ntmps307 results307 fun hw=>?_
 exact AE7
theorem qf (xs:List DSlot) (l:Int) (hl:0≤l):Ctr prog 307 [.c (.sl (xs.map DSlot.c)),.c (.v (.int .i64 l))] [.val (.c (.v (.int .i64 (DD NJ xs l))))]:=AAy xs (fun x _ l hl=>wS x l hl) l hl
theorem qg (d:DChunk) (l:Int) (hl:0≤l):Ctr prog 208 [.agg d.c,.c (.v (.int .i64 l))] [.val (.c (.v (.int .i64 (Lm d l))))]:=by
 refine CM call208 func208 ntmps208 results208 fun hw=>?_
 rw[QX]
 simp only[go_sem]
 refine AAN _ (by simpa only[go_sem] using qf d.l _ AQ2) fun _=>?_
 exact AK_
theorem AAz (d:DBuf) (l:Int) (hl:0≤l):Ctr prog 101 [.agg d.c,.c (.v (.int .i64 l))] [.val (.c (.v (.int .i64 (Iy d l))))]:=by
 refine CM call101 func101 ntmps101 results101 fun hw=>?_
 rw[WF]
 simp only[go_sem]
 refine AAN _ (by simpa only[go_sem] using qg d.c0 _ AQ2) fun _=>?_
 simp only[go_sem]
 refine AAP (fun h=>ARB) fun h=>?_
 have h0:=Rw h
 simp only[go_sem,KQ h]
 refine AAN _ (by simpa only[go_sem] using qZ d.g _ AQ2) fun _=>?_
 exact AL4
theorem ADo {α:Type} {c:α→List Cl} {sz:α→Int→Int} (xs:List α) (hx:∀ x∈xs,∀ l,0≤l→Ctr prog 101 [.agg (c x),.c (.v (.int .i64 l))] [.val (.c (.v (.int .i64 (sz x l))))]) (l:Int) (hl:0≤l) (hc:NV 5 c:=by intro x; first | exact⟨rfl,rfl,rfl⟩ | (simp only[go_sem]; done) | (simp only[go_sem]; exact⟨rfl,rfl,rfl⟩)):Ctr prog 33 [.c (.sl (xs.map c)),.c (.v (.int .i64 l))] [.val (.c (.v (.int .i64 (DD sz xs l))))]:=by
 refine CM call33 func33 ntmps33 results33 fun hw=>?_
 exact AE7
theorem wU (xs:List DBuf) (l:Int) (hl:0≤l):Ctr prog 33 [.c (.sl (xs.map DBuf.c)),.c (.v (.int .i64 l))] [.val (.c (.v (.int .i64 (DD Iy xs l))))]:=ADo xs (fun x _ l hl=>AAz x l hl) l hl
theorem qh (xs:List DDead) (l:Int) (hl:0≤l):Ctr prog 35 [.c (.sl (xs.map DDead.c)),.c (.v (.int .i64 l))] [.val (.c (.v (.int .i64 (FY xs.length l))))]:=by
 refine CM call35 func35 ntmps35 results35 fun hw=>?_
 exact AF5
theorem ZC (xs:List DRef) (l:Int) (hl:0≤l):Ctr prog 100 [.c (.sl (xs.map DRef.c)),.c (.v (.int .i64 l))] [.val (.c (.v (.int .i64 (FY xs.length l))))]:=by
 refine CM call100 func100 ntmps100 results100 fun hw=>?_
 exact AF5
theorem AA0 (d:DDir) (l:Int) (hl:0≤l):Ctr prog 32 [.agg d.c,.c (.v (.int .i64 l))] [.val (.c (.v (.int .i64 (Iz d l))))]:=by
 refine CM call32 func32 ntmps32 results32 fun hw=>?_
 rw[fQ]
 simp only[go_sem]
 refine AAN _ (by simpa only[go_sem] using ZC d.l _ AQ2) fun _=>?_
 exact AK_
theorem wV (d:DTask) (l:Int) (hl:0≤l):Ctr prog 102 [.agg d.c,.c (.v (.int .i64 l))] [.val (.c (.v (.int .i64 (I4 d l))))]:=by
 refine CM call102 func102 ntmps102 results102 fun hw=>?_
 rw[N9]
 simp only[go_sem]
 refine AAN _ (by simpa only[go_sem] using MN d.r _ AQ2) fun _=>?_
 simp only[go_sem]
 refine AAP (fun h=>ARB) fun h=>?_
 have h0:=Rw h
 simp only[go_sem,KQ h]
 refine AAN _ (by simpa only[go_sem] using Qk d.q _ AQ2) fun _=>?_
 simp only[go_sem]
 refine AAP (fun h=>ARB) fun h=>?_
 have h1:=Rw h
 simp only[go_sem,KQ h]
 refine AAN _ (by simpa only[go_sem] using ZC d.l _ AQ2) fun _=>?_
 simp only[go_sem]
 refine AAP (fun h=>ARB) fun h=>?_
 have h2:=Rw h
 simp only[go_sem,KQ h]
 refine AAN _ (by simpa only[go_sem] using ZA d.got _ AQ2) fun _=>?_
 simp only[go_sem]
 refine AAP (fun h=>ARB) fun h=>?_
 have h3:=Rw h
 simp only[go_sem,KQ h]
theorem AA1 {α:Type} {c:α→List Cl} {sz:α→Int→Int} (xs:List α) (hx:∀ x∈xs,∀ l,0≤l→Ctr prog 102 [.agg (c x),.c (.v (.int .i64 l))] [.val (.c (.v (.int .i64 (sz x l))))]) (l:Int) (hl:0≤l) (hc:NV 25 c:=by intro x; first | exact⟨rfl,rfl,rfl⟩ | (simp only[go_sem]; done) | (simp only[go_sem]; exact⟨rfl,rfl,rfl⟩)):Ctr prog 36 [.c (.sl (xs.map c)),.c (.v (.int .i64 l))] [.val (.c (.v (.int .i64 (DD sz xs l))))]:=by
 refine CM call36 func36 ntmps36 results36 fun hw=>?_
 exact AE7
theorem qi (xs:List DTask) (l:Int) (hl:0≤l):Ctr prog 36 [.c (.sl (xs.map DTask.c)),.c (.v (.int .i64 l))] [.val (.c (.v (.int .i64 (DD I4 xs l))))]:=AA1 xs (fun x _ l hl=>wV x l hl) l hl
theorem wW (d:DDeed) (l:Int) (hl:0≤l):Ctr prog 103 [.agg d.c,.c (.v (.int .i64 l))] [.val (.c (.v (.int .i64 (Jv d l))))]:=by
 refine CM call103 func103 ntmps103 results103 fun hw=>?_
 rw[N_]
 simp only[go_sem]
 refine AAN _ (by simpa only[go_sem] using MN d.r _ AQ2) fun _=>?_
 simp only[go_sem]
 refine AAP (fun h=>ARB) fun h=>?_
 have h0:=Rw h
 simp only[go_sem,KQ h]
 refine AAN _ (by simpa only[go_sem] using Qk d.q _ AQ2) fun _=>?_
 simp only[go_sem]
 refine AAP (fun h=>ARB) fun h=>?_
 have h1:=Rw h
 simp only[go_sem,KQ h]
 refine AAN _ (by simpa only[go_sem] using lU d.res _ AQ2) fun _=>?_
 simp only[go_sem]
 refine AAP (fun h=>ARB) fun h=>?_
 have h2:=Rw h
 simp only[go_sem,KQ h]
theorem AA2 {α:Type} {c:α→List Cl} {sz:α→Int→Int} (xs:List α) (hx:∀ x∈xs,∀ l,0≤l→Ctr prog 103 [.agg (c x),.c (.v (.int .i64 l))] [.val (.c (.v (.int .i64 (sz x l))))]) (l:Int) (hl:0≤l) (hc:NV 25 c:=by intro x; first | exact⟨rfl,rfl,rfl⟩ | (simp only[go_sem]; done) | (simp only[go_sem]; exact⟨rfl,rfl,rfl⟩)):Ctr prog 37 [.c (.sl (xs.map c)),.c (.v (.int .i64 l))] [.val (.c (.v (.int .i64 (DD sz xs l))))]:=by
 refine CM call37 func37 ntmps37 results37 fun hw=>?_
 exact AE7
theorem qj (xs:List DDeed) (l:Int) (hl:0≤l):Ctr prog 37 [.c (.sl (xs.map DDeed.c)),.c (.v (.int .i64 l))] [.val (.c (.v (.int .i64 (DD Jv xs l))))]:=AA2 xs (fun x _ l hl=>wW x l hl) l hl
theorem wX (d:DConf) (l:Int) (hl:0≤l):Ctr prog 31 [.agg d.c,.c (.v (.int .i64 l))] [.val (.c (.v (.int .i64 (FT d l))))]:=by
 refine CM call31 func31 ntmps31 results31 fun hw=>?_
 rw[YA]
 simp only[go_sem]
 refine AAN _ (by simpa only[go_sem] using PG d.cols _ AQ2) fun _=>?_
 exact AK_
theorem Ql (d:DWorld) (l:Int) (hl:0≤l):Ctr prog 8 [.agg d.c,.c (.v (.int .i64 l))] [.val (.c (.v (.int .i64 (ER d l))))]:=by
 refine CM call8 func8 ntmps8 results8 fun hw=>?_
 rw[QY]
 simp only[go_sem]
 refine AAN _ (by simpa only[go_sem] using wX d.c0 _ AQ2) fun _=>?_
 simp only[go_sem]
 refine AAP (fun h=>ARB) fun h=>?_
 have h0:=Rw h
 simp only[go_sem,KQ h]
 refine AAN _ (by simpa only[go_sem] using AA0 d.d _ AQ2) fun _=>?_
 simp only[go_sem]
 refine AAP (fun h=>ARB) fun h=>?_
 have h1:=Rw h
 simp only[go_sem,KQ h]
 refine AAN _ (by simpa only[go_sem] using wU d.b _ AQ2) fun _=>?_
 simp only[go_sem]
 refine AAP (fun h=>ARB) fun h=>?_
 have h2:=Rw h
 simp only[go_sem,KQ h]
 refine AAN _ (by simpa only[go_sem] using PG d.m _ AQ2) fun _=>?_
 simp only[go_sem]
 refine AAP (fun h=>ARB) fun h=>?_
 have h3:=Rw h
 simp only[go_sem,KQ h]
 refine AAN _ (by simpa only[go_sem] using qh d.x _ AQ2) fun _=>?_
 simp only[go_sem]
 refine AAP (fun h=>ARB) fun h=>?_
 have h4:=Rw h
 simp only[go_sem,KQ h]
 refine AAN _ (by simpa only[go_sem] using PG d.p _ AQ2) fun _=>?_
 simp only[go_sem]
 refine AAP (fun h=>ARB) fun h=>?_
 have h5:=Rw h
 simp only[go_sem,KQ h]
 refine AAN _ (by simpa only[go_sem] using qi d.tasks _ AQ2) fun _=>?_
 simp only[go_sem]
 refine AAP (fun h=>ARB) fun h=>?_
 have h6:=Rw h
 simp only[go_sem,KQ h]
 refine AAN _ (by simpa only[go_sem] using qj d.deeds _ AQ2) fun _=>?_
 simp only[go_sem]
 refine AAP (fun h=>ARB) fun h=>?_
 have h7:=Rw h
 simp only[go_sem,KQ h]
theorem Qm (xs:List Int) (hf:xs.length≤1048576):Ctr prog 47 [.c (.sl (xs.map intC))] [.own 3 1 (xs.map intC) true]:=by
 refine CM call47 func47 ntmps47 results47 fun _=>?_
 have hc:(0:Int)≤xs.length∧(xs.length:Int)≤xs.length∧(xs.length:Int)≤2147483648:=AQ2
 simp only[go_sem,ae,hc,aap]
 have hg:=fun k=>@Oo _ intC intC.pure [.v (.int .i64 0)] rfl xs k 3 1 true true
 refine AAa 1 [0,3,4] (A:=Nat) (fun k=>⟨22,[(0,.c (.sl (xs.map intC))),(3,.c (.ref 0)),(4,.c (.v (.int .i64 k)))],[⟨3,1,grow (xs.map intC) [.v (.int .i64 0)] k,true,true⟩]⟩) (fun k=>k≤xs.length) (fun k=>xs.length-k) 0 ⟨⟨rfl,AQ9⟩,ARU,au _⟩ ?_
 intro k hk
 refine AQy (fun h=>?_) fun h=>?_
 ·have hk':k<xs.length:=by simpa using h
  have hset:=@Ht _ intC xs [.v (.int .i64 0)] k hk'
  simp only[go_sem] at hset
  exact AIw
 ·have hk':k=xs.length:=by simp at h; omega
  subst hk'
  rw[Hu]
  simp only[go_sem]
  simp[Ea (AP intC.pure)]
theorem wY (xs:List Int) (hf:xs.length≤1048576):Ctr prog 234 [.c (.sl (xs.map byteC))] [.own 5 1 (xs.map byteC) true]:=by
 refine CM call234 func234 ntmps234 results234 fun _=>?_
 have hc:(0:Int)≤xs.length∧(xs.length:Int)≤xs.length∧(xs.length:Int)≤2147483648:=AQ2
 simp only[go_sem,ae,hc,aap]
 have hg:=fun k=>@Oo _ byteC byteC.pure [.v (.int .u8 0)] rfl xs k 5 1 true true
 refine AAa 1 [0,3,4] (A:=Nat) (fun k=>⟨22,[(0,.c (.sl (xs.map byteC))),(3,.c (.ref 0)),(4,.c (.v (.int .i64 k)))],[⟨5,1,grow (xs.map byteC) [.v (.int .u8 0)] k,true,true⟩]⟩) (fun k=>k≤xs.length) (fun k=>xs.length-k) 0 ⟨⟨rfl,AQ9⟩,ARU,au _⟩ ?_
 intro k hk
 refine AQy (fun h=>?_) fun h=>?_
 ·have hk':k<xs.length:=by simpa using h
  have hset:=@Ht _ byteC xs [.v (.int .u8 0)] k hk'
  simp only[go_sem] at hset
  exact AIw
 ·have hk':k=xs.length:=by simp at h; omega
  subst hk'
  rw[Hu]
  simp only[go_sem]
  simp[Ea (AP byteC.pure)]
theorem I7 (d:DVal) (hf:Ee d):Ctr prog 51 [.agg d.c] [.val (.agg d.c)]:=by
 rw[UG] at hf
 have f0:=hf
 refine CM call51 func51 ntmps51 results51 fun _=>?_
 exact AIu
theorem LU (xs:List DVal) (hf:xs.length≤1048576) (hx:∀ x∈xs,Ctr prog 51 [.agg x.c] [.val (.agg x.c)]):Ctr prog 12 [.c (.sl (xs.map DVal.c))] [.own 66 3 (xs.map DVal.c) true]:=by
 refine CM call12 func12 ntmps12 results12 fun _=>?_
 have hc:(0:Int)≤xs.length∧(xs.length:Int)≤xs.length∧(xs.length:Int)≤2147483648:=AQ2
 simp only[go_sem,ae,hc,aap]
 have hg:=fun k=>@Oo _ DVal.c DVal.pure [.v (.int .i64 0),.v (.int .i64 0),.v (.string ByteArray.empty)] rfl xs k 66 3 true true
 refine AAa 1 [0,3,4] (A:=Nat) (fun k=>⟨23,[(0,.c (.sl (xs.map DVal.c))),(3,.c (.ref 0)),(4,.c (.v (.int .i64 k)))],[⟨66,3,grow (xs.map DVal.c) [.v (.int .i64 0),.v (.int .i64 0),.v (.string ByteArray.empty)] k,true,true⟩]⟩) (fun k=>k≤xs.length) (fun k=>xs.length-k) 0 ⟨⟨rfl,AQ9⟩,ARU,au _⟩ ?_
 intro k hk
 refine AQy (fun h=>?_) fun h=>?_
 ·have hk':k<xs.length:=by simpa using h
  have hset:=@Ht _ DVal.c xs [.v (.int .i64 0),.v (.int .i64 0),.v (.string ByteArray.empty)] k hk'
  exact AIv
 ·have hk':k=xs.length:=by simp at h; omega
  subst hk'
  rw[Hu]
  simp only[go_sem]
  simp[Ea (AP DVal.pure)]
theorem H5 (xs:List DVal) (hf:fitS Ee xs):Ctr prog 12 [.c (.sl (xs.map DVal.c))] [.val (.c (.sl (xs.map DVal.c)))]:=(LU xs hf.1 fun x hx=>I7 x (hf.2 x hx)).val (AP DVal.pure)
theorem wZ (d:DDead):Ctr prog 122 [.agg d.c] [.val (.agg d.c)]:=by
 refine CM call122 func122 ntmps122 results122 fun _=>?_
 exact AIu
theorem wo (xs:List DDead) (hf:xs.length≤1048576) (hx:∀ x∈xs,Ctr prog 122 [.agg x.c] [.val (.agg x.c)]):Ctr prog 48 [.c (.sl (xs.map DDead.c))] [.own 173 3 (xs.map DDead.c) true]:=by
 refine CM call48 func48 ntmps48 results48 fun _=>?_
 have hc:(0:Int)≤xs.length∧(xs.length:Int)≤xs.length∧(xs.length:Int)≤2147483648:=AQ2
 simp only[go_sem,ae,hc,aap]
 have hg:=fun k=>@Oo _ DDead.c DDead.pure [.v (.int .i64 0),.v (.int .i64 0),.v (.int .i64 0)] rfl xs k 173 3 true true
 refine AAa 1 [0,3,4] (A:=Nat) (fun k=>⟨23,[(0,.c (.sl (xs.map DDead.c))),(3,.c (.ref 0)),(4,.c (.v (.int .i64 k)))],[⟨173,3,grow (xs.map DDead.c) [.v (.int .i64 0),.v (.int .i64 0),.v (.int .i64 0)] k,true,true⟩]⟩) (fun k=>k≤xs.length) (fun k=>xs.length-k) 0 ⟨⟨rfl,AQ9⟩,ARU,au _⟩ ?_
 intro k hk
 refine AQy (fun h=>?_) fun h=>?_
 ·have hk':k<xs.length:=by simpa using h
  have hset:=@Ht _ DDead.c xs [.v (.int .i64 0),.v (.int .i64 0),.v (.int .i64 0)] k hk'
  exact AIv
 ·have hk':k=xs.length:=by simp at h; omega
  subst hk'
  rw[Hu]
  simp only[go_sem]
  simp[Ea (AP DDead.pure)]
theorem gY (d:DRef):Ctr prog 232 [.agg d.c] [.val (.agg d.c)]:=by
 refine CM call232 func232 ntmps232 results232 fun _=>?_
 exact AIu
theorem gZ (xs:List DRef) (hf:xs.length≤1048576) (hx:∀ x∈xs,Ctr prog 232 [.agg x.c] [.val (.agg x.c)]):Ctr prog 120 [.c (.sl (xs.map DRef.c))] [.own 204 5 (xs.map DRef.c) true]:=by
 refine CM call120 func120 ntmps120 results120 fun _=>?_
 have hc:(0:Int)≤xs.length∧(xs.length:Int)≤xs.length∧(xs.length:Int)≤2147483648:=AQ2
 simp only[go_sem,ae,hc,aap]
 have hg:=fun k=>@Oo _ DRef.c DRef.pure [.v (.int .i64 0),.v (.int .i64 0),.v (.int .i64 0),.v (.int .i64 0),.v (.int .i64 0)] rfl xs k 204 5 true true
 refine AAa 1 [0,3,4] (A:=Nat) (fun k=>⟨23,[(0,.c (.sl (xs.map DRef.c))),(3,.c (.ref 0)),(4,.c (.v (.int .i64 k)))],[⟨204,5,grow (xs.map DRef.c) [.v (.int .i64 0),.v (.int .i64 0),.v (.int .i64 0),.v (.int .i64 0),.v (.int .i64 0)] k,true,true⟩]⟩) (fun k=>k≤xs.length) (fun k=>xs.length-k) 0 ⟨⟨rfl,AQ9⟩,ARU,au _⟩ ?_
 intro k hk
 refine AQy (fun h=>?_) fun h=>?_
 ·have hk':k<xs.length:=by simpa using h
  have hset:=@Ht _ DRef.c xs [.v (.int .i64 0),.v (.int .i64 0),.v (.int .i64 0),.v (.int .i64 0),.v (.int .i64 0)] k hk'
  exact AIv
 ·have hk':k=xs.length:=by simp at h; omega
  subst hk'
  rw[Hu]
  simp only[go_sem]
  simp[Ea (AP DRef.pure)]
theorem PH (xs:List Int):Ctr prog 58 [.c (.sl (xs.map intC)),.c (.sl (xs.map intC))] [.val (.c (.v (.bool true)))]:=by
 refine CM call58 func58 ntmps58 results58 fun hw=>?_
 have hlen:xs.length≤9223372036854775807:=ARP
 simp only[go_sem,ae,ax,aB]
 refine AAa 0 [0,1,5] (A:=Nat) (fun k=>⟨26,[(0,.c (.sl (xs.map intC))),(1,.c (.sl (xs.map intC))),(5,.c (.v (.int .i64 k)))],[]⟩) (fun k=>k≤xs.length) (fun k=>xs.length-k) 0 ⟨⟨rfl,rfl⟩,rfl,au _⟩ ?_
 intro k hk
 refine AQy (fun h=>?_) fun h=>?_
 ·exact ANi
 ·exact AIu
theorem ql (xs:List Int):Ctr prog 262 [.c (.sl (xs.map byteC)),.c (.sl (xs.map byteC))] [.val (.c (.v (.bool true)))]:=by
 refine CM call262 func262 ntmps262 results262 fun hw=>?_
 have hlen:xs.length≤9223372036854775807:=ARP
 simp only[go_sem,ae,ax,aB]
 refine AAa 0 [0,1,5] (A:=Nat) (fun k=>⟨26,[(0,.c (.sl (xs.map byteC))),(1,.c (.sl (xs.map byteC))),(5,.c (.v (.int .i64 k)))],[]⟩) (fun k=>k≤xs.length) (fun k=>xs.length-k) 0 ⟨⟨rfl,rfl⟩,rfl,au _⟩ ?_
 intro k hk
 refine AQy (fun h=>?_) fun h=>?_
 ·exact ANi
 ·exact AIu
theorem VS (d:DVal):Ctr prog 62 [.agg d.c,.agg d.c] [.val (.c (.v (.bool true)))]:=by
 refine CM call62 func62 ntmps62 results62 fun _=>?_
 exact AOG
theorem ADp {α:Type} {c:α→List Cl} (xs:List α) (hx:∀ x∈xs,Ctr prog 62 [.agg (c x),.agg (c x)] [.val (.c (.v (.bool true)))]) (hc:NV 3 c:=by intro x; first | exact⟨rfl,rfl,rfl⟩ | (simp only[go_sem]; done) | (simp only[go_sem]; exact⟨rfl,rfl,rfl⟩)):Ctr prog 15 [.c (.sl (xs.map c)),.c (.sl (xs.map c))] [.val (.c (.v (.bool true)))]:=by
 refine CM call15 func15 ntmps15 results15 fun hw=>?_
 exact AE6
theorem H6 (xs:List DVal):Ctr prog 15 [.c (.sl (xs.map DVal.c)),.c (.sl (xs.map DVal.c))] [.val (.c (.v (.bool true)))]:=ADp xs fun x _=>VS x
theorem AA3 (d:DRow):Ctr prog 328 [.agg d.c,.agg d.c] [.val (.c (.v (.bool true)))]:=by
 refine CM call328 func328 ntmps328 results328 fun _=>?_
 simp only[go_sem,ax,aB]
 refine CW (H6 d.l) fun _=>?_
 exact AOG
theorem ADq {α:Type} {c:α→List Cl} (xs:List α) (hx:∀ x∈xs,Ctr prog 328 [.agg (c x),.agg (c x)] [.val (.c (.v (.bool true)))]) (hc:NV 2 c:=by intro x; first | exact⟨rfl,rfl,rfl⟩ | (simp only[go_sem]; done) | (simp only[go_sem]; exact⟨rfl,rfl,rfl⟩)):Ctr prog 263 [.c (.sl (xs.map c)),.c (.sl (xs.map c))] [.val (.c (.v (.bool true)))]:=by
 refine CM call263 func263 ntmps263 results263 fun hw=>?_
 exact AE6
theorem ZE (xs:List DRow):Ctr prog 263 [.c (.sl (xs.map DRow.c)),.c (.sl (xs.map DRow.c))] [.val (.c (.v (.bool true)))]:=ADq xs fun x _=>AA3 x
theorem AA4 {α:Type} {c:α→List Cl} (xs:List α) (hx:∀ x∈xs,Ctr prog 82 [.agg (c x),.agg (c x)] [.val (.c (.v (.bool true)))]) (hc:NV 7 c:=by intro x; first | exact⟨rfl,rfl,rfl⟩ | (simp only[go_sem]; done) | (simp only[go_sem]; exact⟨rfl,rfl,rfl⟩)):Ctr prog 165 [.c (.sl (xs.map c)),.c (.sl (xs.map c))] [.val (.c (.v (.bool true)))]:=by
 refine CM call165 func165 ntmps165 results165 fun hw=>?_
 exact AE6
theorem ADr (d:DPred) (hx:∀ x∈d.l,Ctr prog 82 [.agg x.c,.agg x.c] [.val (.c (.v (.bool true)))]):Ctr prog 82 [.agg d.c,.agg d.c] [.val (.c (.v (.bool true)))]:=by
 refine CM call82 func82 ntmps82 results82 fun _=>?_
 simp only[go_sem,ax,aB]
 refine CW (VS d.v) fun _=>?_
 simp only[go_sem,ax,aB]
 refine CW (AA4 d.l hx) fun _=>?_
 exact AOG
theorem ZF:∀ (n:Nat) (d:DPred),SizeOf.sizeOf d≤n→Ctr prog 82 [.agg d.c,.agg d.c] [.val (.c (.v (.bool true)))]
 | 0,d,h=>ASA
 | n+1,d,h=>ADr d fun x hx=>ZF n x (by
  have h1:SizeOf.sizeOf x<SizeOf.sizeOf d.l:=aao hx
  have h2:SizeOf.sizeOf d.l<SizeOf.sizeOf d:=AR6
  omega)
theorem wu (d:DPred):Ctr prog 82 [.agg d.c,.agg d.c] [.val (.c (.v (.bool true)))]:=ZF _ d (aI _)
theorem Nk (d:DQuery):Ctr prog 23 [.agg d.c,.agg d.c] [.val (.c (.v (.bool true)))]:=by
 refine CM call23 func23 ntmps23 results23 fun _=>?_
 simp only[go_sem,ax,aB]
 refine CW (wu d.p) fun _=>?_
 simp only[go_sem,ax,aB]
 refine CW (PH d.out) fun _=>?_
 exact AOG
theorem lV (d:DResult):Ctr prog 264 [.agg d.c,.agg d.c] [.val (.c (.v (.bool true)))]:=by
 refine CM call264 func264 ntmps264 results264 fun _=>?_
 simp only[go_sem,ax,aB]
 refine CW (ZE d.rows) fun _=>?_
 simp only[go_sem,ax,aB]
 refine CW (VS d.v) fun _=>?_
 exact AOG
theorem ww (d:DSlot):Ctr prog 363 [.agg d.c,.agg d.c] [.val (.c (.v (.bool true)))]:=by
 refine CM call363 func363 ntmps363 results363 fun _=>?_
 simp only[go_sem,ax,aB]
 refine CW (H6 d.l) fun _=>?_
 exact AOG
theorem AA5 {α:Type} {c:α→List Cl} (xs:List α) (hx:∀ x∈xs,Ctr prog 363 [.agg (c x),.agg (c x)] [.val (.c (.v (.bool true)))]) (hc:NV 2 c:=by intro x; first | exact⟨rfl,rfl,rfl⟩ | (simp only[go_sem]; done) | (simp only[go_sem]; exact⟨rfl,rfl,rfl⟩)):Ctr prog 327 [.c (.sl (xs.map c)),.c (.sl (xs.map c))] [.val (.c (.v (.bool true)))]:=by
 refine CM call327 func327 ntmps327 results327 fun hw=>?_
 exact AE6
theorem qm (xs:List DSlot):Ctr prog 327 [.c (.sl (xs.map DSlot.c)),.c (.sl (xs.map DSlot.c))] [.val (.c (.v (.bool true)))]:=AA5 xs fun x _=>ww x
theorem qp (d:DChunk):Ctr prog 261 [.agg d.c,.agg d.c] [.val (.c (.v (.bool true)))]:=by
 refine CM call261 func261 ntmps261 results261 fun _=>?_
 simp only[go_sem,ax,aB]
 refine CW (qm d.l) fun _=>?_
 exact AOG
theorem AA6 (d:DBuf):Ctr prog 145 [.agg d.c,.agg d.c] [.val (.c (.v (.bool true)))]:=by
 refine CM call145 func145 ntmps145 results145 fun _=>?_
 simp only[go_sem,ax,aB]
 refine CW (qp d.c0) fun _=>?_
 simp only[go_sem,ax,aB]
 refine CW (ql d.g) fun _=>?_
 exact AOG
theorem ADs {α:Type} {c:α→List Cl} (xs:List α) (hx:∀ x∈xs,Ctr prog 145 [.agg (c x),.agg (c x)] [.val (.c (.v (.bool true)))]) (hc:NV 5 c:=by intro x; first | exact⟨rfl,rfl,rfl⟩ | (simp only[go_sem]; done) | (simp only[go_sem]; exact⟨rfl,rfl,rfl⟩)):Ctr prog 57 [.c (.sl (xs.map c)),.c (.sl (xs.map c))] [.val (.c (.v (.bool true)))]:=by
 refine CM call57 func57 ntmps57 results57 fun hw=>?_
 exact AE6
theorem w_ (xs:List DBuf):Ctr prog 57 [.c (.sl (xs.map DBuf.c)),.c (.sl (xs.map DBuf.c))] [.val (.c (.v (.bool true)))]:=ADs xs fun x _=>AA6 x
theorem xA (d:DDead):Ctr prog 146 [.agg d.c,.agg d.c] [.val (.c (.v (.bool true)))]:=by
 refine CM call146 func146 ntmps146 results146 fun _=>?_
 exact AOG
theorem AA7 {α:Type} {c:α→List Cl} (xs:List α) (hx:∀ x∈xs,Ctr prog 146 [.agg (c x),.agg (c x)] [.val (.c (.v (.bool true)))]) (hc:NV 3 c:=by intro x; first | exact⟨rfl,rfl,rfl⟩ | (simp only[go_sem]; done) | (simp only[go_sem]; exact⟨rfl,rfl,rfl⟩)):Ctr prog 59 [.c (.sl (xs.map c)),.c (.sl (xs.map c))] [.val (.c (.v (.bool true)))]:=by
 refine CM call59 func59 ntmps59 results59 fun hw=>?_
 exact AE6
theorem qw (xs:List DDead):Ctr prog 59 [.c (.sl (xs.map DDead.c)),.c (.sl (xs.map DDead.c))] [.val (.c (.v (.bool true)))]:=AA7 xs fun x _=>xA x
theorem AA8 (d:DRef):Ctr prog 260 [.agg d.c,.agg d.c] [.val (.c (.v (.bool true)))]:=by
 refine CM call260 func260 ntmps260 results260 fun _=>?_
 exact AOG
theorem ADt {α:Type} {c:α→List Cl} (xs:List α) (hx:∀ x∈xs,Ctr prog 260 [.agg (c x),.agg (c x)] [.val (.c (.v (.bool true)))]) (hc:NV 5 c:=by intro x; first | exact⟨rfl,rfl,rfl⟩ | (simp only[go_sem]; done) | (simp only[go_sem]; exact⟨rfl,rfl,rfl⟩)):Ctr prog 144 [.c (.sl (xs.map c)),.c (.sl (xs.map c))] [.val (.c (.v (.bool true)))]:=by
 refine CM call144 func144 ntmps144 results144 fun hw=>?_
 exact AE6
theorem ZG (xs:List DRef):Ctr prog 144 [.c (.sl (xs.map DRef.c)),.c (.sl (xs.map DRef.c))] [.val (.c (.v (.bool true)))]:=ADt xs fun x _=>AA8 x
theorem AA9 (d:DDir):Ctr prog 56 [.agg d.c,.agg d.c] [.val (.c (.v (.bool true)))]:=by
 refine CM call56 func56 ntmps56 results56 fun _=>?_
 simp only[go_sem,ax,aB]
 refine CW (ZG d.l) fun _=>?_
 exact AOG
theorem xB (d:DTask):Ctr prog 147 [.agg d.c,.agg d.c] [.val (.c (.v (.bool true)))]:=by
 refine CM call147 func147 ntmps147 results147 fun _=>?_
 simp only[go_sem,ax,aB]
 refine CW (H6 d.r) fun _=>?_
 simp only[go_sem,ax,aB]
 refine CW (Nk d.q) fun _=>?_
 simp only[go_sem,ax,aB]
 refine CW (ZG d.l) fun _=>?_
 simp only[go_sem,ax,aB]
 refine CW (ZE d.got) fun _=>?_
 exact AOG
theorem AA_ {α:Type} {c:α→List Cl} (xs:List α) (hx:∀ x∈xs,Ctr prog 147 [.agg (c x),.agg (c x)] [.val (.c (.v (.bool true)))]) (hc:NV 25 c:=by intro x; first | exact⟨rfl,rfl,rfl⟩ | (simp only[go_sem]; done) | (simp only[go_sem]; exact⟨rfl,rfl,rfl⟩)):Ctr prog 60 [.c (.sl (xs.map c)),.c (.sl (xs.map c))] [.val (.c (.v (.bool true)))]:=by
 refine CM call60 func60 ntmps60 results60 fun hw=>?_
 exact AE6
theorem qx (xs:List DTask):Ctr prog 60 [.c (.sl (xs.map DTask.c)),.c (.sl (xs.map DTask.c))] [.val (.c (.v (.bool true)))]:=AA_ xs fun x _=>xB x
theorem xC (d:DDeed):Ctr prog 148 [.agg d.c,.agg d.c] [.val (.c (.v (.bool true)))]:=by
 refine CM call148 func148 ntmps148 results148 fun _=>?_
 simp only[go_sem,ax,aB]
 refine CW (H6 d.r) fun _=>?_
 simp only[go_sem,ax,aB]
 refine CW (Nk d.q) fun _=>?_
 simp only[go_sem,ax,aB]
 refine CW (lV d.res) fun _=>?_
 exact AOG
theorem ABA {α:Type} {c:α→List Cl} (xs:List α) (hx:∀ x∈xs,Ctr prog 148 [.agg (c x),.agg (c x)] [.val (.c (.v (.bool true)))]) (hc:NV 25 c:=by intro x; first | exact⟨rfl,rfl,rfl⟩ | (simp only[go_sem]; done) | (simp only[go_sem]; exact⟨rfl,rfl,rfl⟩)):Ctr prog 61 [.c (.sl (xs.map c)),.c (.sl (xs.map c))] [.val (.c (.v (.bool true)))]:=by
 refine CM call61 func61 ntmps61 results61 fun hw=>?_
 exact AE6
theorem qy (xs:List DDeed):Ctr prog 61 [.c (.sl (xs.map DDeed.c)),.c (.sl (xs.map DDeed.c))] [.val (.c (.v (.bool true)))]:=ABA xs fun x _=>xC x
theorem xE (d:DConf):Ctr prog 55 [.agg d.c,.agg d.c] [.val (.c (.v (.bool true)))]:=by
 refine CM call55 func55 ntmps55 results55 fun _=>?_
 simp only[go_sem,ax,aB]
 refine CW (PH d.cols) fun _=>?_
 exact AOG
theorem Et (d:DWorld):Ctr prog 14 [.agg d.c,.agg d.c] [.val (.c (.v (.bool true)))]:=by
 refine CM call14 func14 ntmps14 results14 fun _=>?_
 simp only[go_sem,ax,aB]
 refine CW (xE d.c0) fun _=>?_
 simp only[go_sem,ax,aB]
 refine CW (AA9 d.d) fun _=>?_
 simp only[go_sem,ax,aB]
 refine CW (w_ d.b) fun _=>?_
 simp only[go_sem,ax,aB]
 refine CW (PH d.m) fun _=>?_
 simp only[go_sem,ax,aB]
 refine CW (qw d.x) fun _=>?_
 simp only[go_sem,ax,aB]
 refine CW (PH d.p) fun _=>?_
 simp only[go_sem,ax,aB]
 refine CW (qx d.tasks) fun _=>?_
 simp only[go_sem,ax,aB]
 refine CW (qy d.deeds) fun _=>?_
 exact AOG
end Go.Proofs.YthmifbbmgnhddaaGreat
