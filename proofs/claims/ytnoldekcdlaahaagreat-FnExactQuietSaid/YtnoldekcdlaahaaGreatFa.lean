/- A part. -/
import Derived.Test.YtnoldekcdlaahaaGreatDa
import Derived.Test.YtnoldekcdlaahaaGreatTy
set_option linter.unusedSimpArgs false
set_option linter.unusedVariables false
set_option maxHeartbeats 1000000
set_option maxRecDepth 10000
open Go.Proofs.Tryz
namespace Go.Proofs.YtnoldekcdlaahaaGreat
open Go.Vm
theorem Jm {x:Int} {k:Int→Int} (h:decide (x<0)=true):sq x k = -1:=AHB (bZ h)
theorem Jn {x:Int} {k:Int→Int} (h:decide (x<0)=false):sq x k=k x:=AHC (of_decide_eq_false h)
theorem Qk {x:Int} (h:decide (x<0)=false):0≤x:=Int.not_lt.1 (of_decide_eq_false h)
theorem ltN {a b:Nat} (h:decide ((a:Int)<b)=true):a<b:=AO7
def szP {α:Type} (sz:α→Int→Int) (xs:List α) (r:Int) (x:Nat×Int):Prop:=x.1≤xs.length∧0≤x.2∧Xt sz (xs.drop x.1) x.2=r
section
variable {α:Type} {sz:α→Int→Int} {xs:List α} {r m l:Int} {k:Nat}
theorem Zn (h:decide (l-xs.length<0)=true):DW sz xs l = -1:=by
 have:=bZ h
 simp[DW,sq,Fv,this]
theorem szP.start (h:0≤l-xs.length):szP sz xs (DW sz xs l) (0,l-xs.length):=⟨az _,h,by
 have:¬ l-xs.length<0:=AOh
 simp[DW,sq,Fv,this]⟩
theorem szP.neg (hP:szP sz xs r (k,m)) (hk:k<xs.length) (h:decide (sz xs[k] m<0)=true):r = -1:=by
 have hm:=hP.2.2
 simp only at hm
 rw[aG hk,Xt,Jm h] at hm
 exact hm.symm
theorem szP.step (hP:szP sz xs r (k,m)) (hk:k<xs.length) (h:decide (sz xs[k] m<0)=false):szP sz xs r (k+1,sz xs[k] m):=by
 have hm:=hP.2.2
 simp only at hm
 rw[aG hk,Xt,Jn h] at hm
 exact⟨hk,Qk h,hm⟩
theorem szP.fin (hP:szP sz xs r (k,m)) (h:decide ((k:Int)<xs.length)=false):r=m:=by
 have h1:=hP.1
 have hm:=hP.2.2
 simp only at hm h1
 have:k=xs.length:=AOs
 subst this
 simpa [Xt] using hm.symm
end
def ML {α:Type} (n:Nat) (c:α→List Cl):Prop:=∀ x,(c x).length=n∧List.take n (c x)=c x∧fzL [] (c x)=some (c x,[])
def Uz {α:Type} (n:Nat) (e:α→List Cl) (xs:List α) (x:Nat×Int):MS:=⟨n,[(0,.c (.sl (xs.map e))),(1,.c (.v (.int .i64 x.2))),(5,.c (.v (.int .i64 x.1)))],[]⟩
theorem OC (xs:List Int) (l:Int) (hl:0≤l):Ctr prog 23 [.c (.sl (xs.map intC)),.c (.v (.int .i64 l))] [.val (.c (.v (.int .i64 (Fv xs.length l))))]:=by
 refine CM call23 func23 ntmps23 results23 fun hw=>?_
 exact AGe
theorem mg (xs:List Int) (l:Int) (hl:0≤l):Ctr prog 181 [.c (.sl (xs.map byteC)),.c (.v (.int .i64 l))] [.val (.c (.v (.int .i64 (Fv xs.length l))))]:=by
 refine CM call181 func181 ntmps181 results181 fun hw=>?_
 exact AGe
theorem UJ (d:DVal) (l:Int) (hl:0≤l):Ctr prog 286 [.agg d.c,.c (.v (.int .i64 l))] [.val (.c (.v (.int .i64 (A7 d l))))]:=by
 refine CM call286 func286 ntmps286 results286 fun hw=>?_
 rw[H5]
 have hl2:l≤9223372036854775807:=J3 hw.2.1
 have hs:d.s.size≤9223372036854775807:=zX hw.1.2.2.1
 simp only[go_sem,wrap_i64 (n:=l-d.s.size) AOh AOh]
 refine AA0 (fun h=>?_) (fun h=>?_)
 ·have h0:l-d.s.size<0:=by simpa using h
  simp only[go_sem]
  simp[Fv,sq,h0]
 ·have h0:¬ l-d.s.size<0:=by simpa using h
  simp only[go_sem]
  simp[Fv,sq,h0]
theorem ABh {α:Type} {c:α→List Cl} {sz:α→Int→Int} (xs:List α) (hx:∀ x∈xs,∀ l,0≤l→Ctr prog 286 [.agg (c x),.c (.v (.int .i64 l))] [.val (.c (.v (.int .i64 (sz x l))))]) (l:Int) (hl:0≤l) (hc:ML 3 c:=by intro x; first | exact⟨rfl,rfl,rfl⟩ | (simp only[go_sem]; done) | (simp only[go_sem]; exact⟨rfl,rfl,rfl⟩)):Ctr prog 182 [.c (.sl (xs.map c)),.c (.v (.int .i64 l))] [.val (.c (.v (.int .i64 (DW sz xs l))))]:=by
 refine CM call182 func182 ntmps182 results182 fun hw=>?_
 exact AEz
theorem OD (xs:List DVal) (l:Int) (hl:0≤l):Ctr prog 182 [.c (.sl (xs.map DVal.c)),.c (.v (.int .i64 l))] [.val (.c (.v (.int .i64 (DW A7 xs l))))]:=ABh xs (fun x _ l hl=>UJ x l hl) l hl
theorem xq (d:DRow) (l:Int) (hl:0≤l):Ctr prog 288 [.agg d.c,.c (.v (.int .i64 l))] [.val (.c (.v (.int .i64 (Jl d l))))]:=by
 refine CM call288 func288 ntmps288 results288 fun hw=>?_
 rw[Uw]
 simp only[go_sem]
 refine AAT _ (by simpa only[go_sem] using OD d.l _ AOh) fun _=>?_
 exact AKV
theorem ABi {α:Type} {c:α→List Cl} {sz:α→Int→Int} (xs:List α) (hx:∀ x∈xs,∀ l,0≤l→Ctr prog 288 [.agg (c x),.c (.v (.int .i64 l))] [.val (.c (.v (.int .i64 (sz x l))))]) (l:Int) (hl:0≤l) (hc:ML 2 c:=by intro x; first | exact⟨rfl,rfl,rfl⟩ | (simp only[go_sem]; done) | (simp only[go_sem]; exact⟨rfl,rfl,rfl⟩)):Ctr prog 184 [.c (.sl (xs.map c)),.c (.v (.int .i64 l))] [.val (.c (.v (.int .i64 (DW sz xs l))))]:=by
 refine CM call184 func184 ntmps184 results184 fun hw=>?_
 exact AEz
theorem Xx (xs:List DRow) (l:Int) (hl:0≤l):Ctr prog 184 [.c (.sl (xs.map DRow.c)),.c (.v (.int .i64 l))] [.val (.c (.v (.int .i64 (DW Jl xs l))))]:=ABi xs (fun x _ l hl=>xq x l hl) l hl
theorem xu {α:Type} {c:α→List Cl} {sz:α→Int→Int} (xs:List α) (hx:∀ x∈xs,∀ l,0≤l→Ctr prog 287 [.agg (c x),.c (.v (.int .i64 l))] [.val (.c (.v (.int .i64 (sz x l))))]) (l:Int) (hl:0≤l) (hc:ML 7 c:=by intro x; first | exact⟨rfl,rfl,rfl⟩ | (simp only[go_sem]; done) | (simp only[go_sem]; exact⟨rfl,rfl,rfl⟩)):Ctr prog 345 [.c (.sl (xs.map c)),.c (.v (.int .i64 l))] [.val (.c (.v (.int .i64 (DW sz xs l))))]:=by
 refine CM call345 func345 ntmps345 results345 fun hw=>?_
 exact AEz
theorem ABj (d:DPred) (hx:∀ x∈d.l,∀ l,0≤l→Ctr prog 287 [.agg x.c,.c (.v (.int .i64 l))] [.val (.c (.v (.int .i64 (Bq x l))))]) (l:Int) (hl:0≤l):Ctr prog 287 [.agg d.c,.c (.v (.int .i64 l))] [.val (.c (.v (.int .i64 (Bq d l))))]:=by
 refine CM call287 func287 ntmps287 results287 fun hw=>?_
 rw[JZ]
 simp only[go_sem]
 refine AAT _ (by simpa only[go_sem] using UJ d.v _ AOh) fun _=>?_
 simp only[go_sem]
 refine AA0 (fun h=>AOp) fun h=>?_
 have h0:=Qk h
 simp only[go_sem,Jn h]
 refine AAT _ (by simpa only[go_sem] using xu d.l hx _ AOh) fun _=>?_
 exact AKf
theorem Xy:∀ (n:Nat) (d:DPred),SizeOf.sizeOf d≤n→∀ l,0≤l→Ctr prog 287 [.agg d.c,.c (.v (.int .i64 l))] [.val (.c (.v (.int .i64 (Bq d l))))]
 | 0,d,h=>APp
 | n+1,d,h=>ABj d fun x hx=>Xy n x (by
  have h1:SizeOf.sizeOf x<SizeOf.sizeOf d.l:=aao hx
  have h2:SizeOf.sizeOf d.l<SizeOf.sizeOf d:=APl
  omega)
theorem rQ (d:DPred) (l:Int) (hl:0≤l):Ctr prog 287 [.agg d.c,.c (.v (.int .i64 l))] [.val (.c (.v (.int .i64 (Bq d l))))]:=Xy _ d (aT _) l hl
theorem U0 (d:DQuery) (l:Int) (hl:0≤l):Ctr prog 183 [.agg d.c,.c (.v (.int .i64 l))] [.val (.c (.v (.int .i64 (EK d l))))]:=by
 refine CM call183 func183 ntmps183 results183 fun hw=>?_
 rw[KQ]
 simp only[go_sem]
 refine AAT _ (by simpa only[go_sem] using rQ d.p _ AOh) fun _=>?_
 simp only[go_sem]
 refine AA0 (fun h=>AOp) fun h=>?_
 have h0:=Qk h
 simp only[go_sem,Jn h]
 refine AAT _ (by simpa only[go_sem] using OC d.out _ AOh) fun _=>?_
 exact AKf
theorem jK (d:DResult) (l:Int) (hl:0≤l):Ctr prog 185 [.agg d.c,.c (.v (.int .i64 l))] [.val (.c (.v (.int .i64 (LX d l))))]:=by
 refine CM call185 func185 ntmps185 results185 fun hw=>?_
 rw[N_]
 simp only[go_sem]
 refine AAT _ (by simpa only[go_sem] using Xx d.rows _ AOh) fun _=>?_
 simp only[go_sem]
 refine AA0 (fun h=>AOp) fun h=>?_
 have h0:=Qk h
 simp only[go_sem,Jn h]
 refine AAT _ (by simpa only[go_sem] using UJ d.v _ AOh) fun _=>?_
 exact AKf
theorem rU (d:DSlot) (l:Int) (hl:0≤l):Ctr prog 344 [.agg d.c,.c (.v (.int .i64 l))] [.val (.c (.v (.int .i64 (L6 d l))))]:=by
 refine CM call344 func344 ntmps344 results344 fun hw=>?_
 rw[SY]
 simp only[go_sem]
 refine AAT _ (by simpa only[go_sem] using OD d.l _ AOh) fun _=>?_
 exact AKV
theorem xw {α:Type} {c:α→List Cl} {sz:α→Int→Int} (xs:List α) (hx:∀ x∈xs,∀ l,0≤l→Ctr prog 344 [.agg (c x),.c (.v (.int .i64 l))] [.val (.c (.v (.int .i64 (sz x l))))]) (l:Int) (hl:0≤l) (hc:ML 2 c:=by intro x; first | exact⟨rfl,rfl,rfl⟩ | (simp only[go_sem]; done) | (simp only[go_sem]; exact⟨rfl,rfl,rfl⟩)):Ctr prog 285 [.c (.sl (xs.map c)),.c (.v (.int .i64 l))] [.val (.c (.v (.int .i64 (DW sz xs l))))]:=by
 refine CM call285 func285 ntmps285 results285 fun hw=>?_
 exact AEz
theorem mi (xs:List DSlot) (l:Int) (hl:0≤l):Ctr prog 285 [.c (.sl (xs.map DSlot.c)),.c (.v (.int .i64 l))] [.val (.c (.v (.int .i64 (DW L6 xs l))))]:=xw xs (fun x _ l hl=>rU x l hl) l hl
theorem mr (d:DChunk) (l:Int) (hl:0≤l):Ctr prog 180 [.agg d.c,.c (.v (.int .i64 l))] [.val (.c (.v (.int .i64 (Kz d l))))]:=by
 refine CM call180 func180 ntmps180 results180 fun hw=>?_
 rw[Pn]
 simp only[go_sem]
 refine AAT _ (by simpa only[go_sem] using mi d.l _ AOh) fun _=>?_
 exact AKV
theorem xx (d:DBuf) (l:Int) (hl:0≤l):Ctr prog 75 [.agg d.c,.c (.v (.int .i64 l))] [.val (.c (.v (.int .i64 (IX d l))))]:=by
 refine CM call75 func75 ntmps75 results75 fun hw=>?_
 rw[Ux]
 simp only[go_sem]
 refine AAT _ (by simpa only[go_sem] using mr d.c0 _ AOh) fun _=>?_
 simp only[go_sem]
 refine AA0 (fun h=>AOp) fun h=>?_
 have h0:=Qk h
 simp only[go_sem,Jn h]
 refine AAT _ (by simpa only[go_sem] using mg d.g _ AOh) fun _=>?_
 exact AKf
theorem ABk {α:Type} {c:α→List Cl} {sz:α→Int→Int} (xs:List α) (hx:∀ x∈xs,∀ l,0≤l→Ctr prog 75 [.agg (c x),.c (.v (.int .i64 l))] [.val (.c (.v (.int .i64 (sz x l))))]) (l:Int) (hl:0≤l) (hc:ML 5 c:=by intro x; first | exact⟨rfl,rfl,rfl⟩ | (simp only[go_sem]; done) | (simp only[go_sem]; exact⟨rfl,rfl,rfl⟩)):Ctr prog 22 [.c (.sl (xs.map c)),.c (.v (.int .i64 l))] [.val (.c (.v (.int .i64 (DW sz xs l))))]:=by
 refine CM call22 func22 ntmps22 results22 fun hw=>?_
 exact AEz
theorem rV (xs:List DBuf) (l:Int) (hl:0≤l):Ctr prog 22 [.c (.sl (xs.map DBuf.c)),.c (.v (.int .i64 l))] [.val (.c (.v (.int .i64 (DW IX xs l))))]:=ABk xs (fun x _ l hl=>xx x l hl) l hl
theorem m_ (xs:List DDead) (l:Int) (hl:0≤l):Ctr prog 24 [.c (.sl (xs.map DDead.c)),.c (.v (.int .i64 l))] [.val (.c (.v (.int .i64 (Fv xs.length l))))]:=by
 refine CM call24 func24 ntmps24 results24 fun hw=>?_
 exact AGe
theorem Xz (xs:List DRef) (l:Int) (hl:0≤l):Ctr prog 74 [.c (.sl (xs.map DRef.c)),.c (.v (.int .i64 l))] [.val (.c (.v (.int .i64 (Fv xs.length l))))]:=by
 refine CM call74 func74 ntmps74 results74 fun hw=>?_
 exact AGe
theorem xy (d:DDir) (l:Int) (hl:0≤l):Ctr prog 21 [.agg d.c,.c (.v (.int .i64 l))] [.val (.c (.v (.int .i64 (IY d l))))]:=by
 refine CM call21 func21 ntmps21 results21 fun hw=>?_
 rw[Zm]
 simp only[go_sem]
 refine AAT _ (by simpa only[go_sem] using Xz d.l _ AOh) fun _=>?_
 exact AKV
theorem rW (d:DTask) (l:Int) (hl:0≤l):Ctr prog 76 [.agg d.c,.c (.v (.int .i64 l))] [.val (.c (.v (.int .i64 (I5 d l))))]:=by
 refine CM call76 func76 ntmps76 results76 fun hw=>?_
 rw[Si]
 simp only[go_sem]
 refine AAT _ (by simpa only[go_sem] using OD d.r _ AOh) fun _=>?_
 simp only[go_sem]
 refine AA0 (fun h=>AOp) fun h=>?_
 have h0:=Qk h
 simp only[go_sem,Jn h]
 refine AAT _ (by simpa only[go_sem] using U0 d.q _ AOh) fun _=>?_
 simp only[go_sem]
 refine AA0 (fun h=>AOp) fun h=>?_
 have h1:=Qk h
 simp only[go_sem,Jn h]
 refine AAT _ (by simpa only[go_sem] using Xz d.l _ AOh) fun _=>?_
 simp only[go_sem]
 refine AA0 (fun h=>AOp) fun h=>?_
 have h2:=Qk h
 simp only[go_sem,Jn h]
 refine AAT _ (by simpa only[go_sem] using Xx d.got _ AOh) fun _=>?_
 simp only[go_sem]
 refine AA0 (fun h=>AOp) fun h=>?_
 have h3:=Qk h
 simp only[go_sem,Jn h]
theorem x_ {α:Type} {c:α→List Cl} {sz:α→Int→Int} (xs:List α) (hx:∀ x∈xs,∀ l,0≤l→Ctr prog 76 [.agg (c x),.c (.v (.int .i64 l))] [.val (.c (.v (.int .i64 (sz x l))))]) (l:Int) (hl:0≤l) (hc:ML 25 c:=by intro x; first | exact⟨rfl,rfl,rfl⟩ | (simp only[go_sem]; done) | (simp only[go_sem]; exact⟨rfl,rfl,rfl⟩)):Ctr prog 25 [.c (.sl (xs.map c)),.c (.v (.int .i64 l))] [.val (.c (.v (.int .i64 (DW sz xs l))))]:=by
 refine CM call25 func25 ntmps25 results25 fun hw=>?_
 exact AEz
theorem nC (xs:List DTask) (l:Int) (hl:0≤l):Ctr prog 25 [.c (.sl (xs.map DTask.c)),.c (.v (.int .i64 l))] [.val (.c (.v (.int .i64 (DW I5 xs l))))]:=x_ xs (fun x _ l hl=>rW x l hl) l hl
theorem rX (d:DDeed) (l:Int) (hl:0≤l):Ctr prog 77 [.agg d.c,.c (.v (.int .i64 l))] [.val (.c (.v (.int .i64 (KR d l))))]:=by
 refine CM call77 func77 ntmps77 results77 fun hw=>?_
 rw[Sj]
 simp only[go_sem]
 refine AAT _ (by simpa only[go_sem] using OD d.r _ AOh) fun _=>?_
 simp only[go_sem]
 refine AA0 (fun h=>AOp) fun h=>?_
 have h0:=Qk h
 simp only[go_sem,Jn h]
 refine AAT _ (by simpa only[go_sem] using U0 d.q _ AOh) fun _=>?_
 simp only[go_sem]
 refine AA0 (fun h=>AOp) fun h=>?_
 have h1:=Qk h
 simp only[go_sem,Jn h]
 refine AAT _ (by simpa only[go_sem] using jK d.res _ AOh) fun _=>?_
 simp only[go_sem]
 refine AA0 (fun h=>AOp) fun h=>?_
 have h2:=Qk h
 simp only[go_sem,Jn h]
theorem yA {α:Type} {c:α→List Cl} {sz:α→Int→Int} (xs:List α) (hx:∀ x∈xs,∀ l,0≤l→Ctr prog 77 [.agg (c x),.c (.v (.int .i64 l))] [.val (.c (.v (.int .i64 (sz x l))))]) (l:Int) (hl:0≤l) (hc:ML 25 c:=by intro x; first | exact⟨rfl,rfl,rfl⟩ | (simp only[go_sem]; done) | (simp only[go_sem]; exact⟨rfl,rfl,rfl⟩)):Ctr prog 26 [.c (.sl (xs.map c)),.c (.v (.int .i64 l))] [.val (.c (.v (.int .i64 (DW sz xs l))))]:=by
 refine CM call26 func26 ntmps26 results26 fun hw=>?_
 exact AEz
theorem nD (xs:List DDeed) (l:Int) (hl:0≤l):Ctr prog 26 [.c (.sl (xs.map DDeed.c)),.c (.v (.int .i64 l))] [.val (.c (.v (.int .i64 (DW KR xs l))))]:=yA xs (fun x _ l hl=>rX x l hl) l hl
theorem rY (d:DConf) (l:Int) (hl:0≤l):Ctr prog 20 [.agg d.c,.c (.v (.int .i64 l))] [.val (.c (.v (.int .i64 (FB d l))))]:=by
 refine CM call20 func20 ntmps20 results20 fun hw=>?_
 rw[Wn]
 simp only[go_sem]
 refine AAT _ (by simpa only[go_sem] using OC d.cols _ AOh) fun _=>?_
 exact AKV
theorem U1 (d:DWorld) (l:Int) (hl:0≤l):Ctr prog 7 [.agg d.c,.c (.v (.int .i64 l))] [.val (.c (.v (.int .i64 (JP d l))))]:=by
 refine CM call7 func7 ntmps7 results7 fun hw=>?_
 rw[NT]
 simp only[go_sem]
 refine AAT _ (by simpa only[go_sem] using rY d.c0 _ AOh) fun _=>?_
 simp only[go_sem]
 refine AA0 (fun h=>AOp) fun h=>?_
 have h0:=Qk h
 simp only[go_sem,Jn h]
 refine AAT _ (by simpa only[go_sem] using xy d.d _ AOh) fun _=>?_
 simp only[go_sem]
 refine AA0 (fun h=>AOp) fun h=>?_
 have h1:=Qk h
 simp only[go_sem,Jn h]
 refine AAT _ (by simpa only[go_sem] using rV d.b _ AOh) fun _=>?_
 simp only[go_sem]
 refine AA0 (fun h=>AOp) fun h=>?_
 have h2:=Qk h
 simp only[go_sem,Jn h]
 refine AAT _ (by simpa only[go_sem] using OC d.m _ AOh) fun _=>?_
 simp only[go_sem]
 refine AA0 (fun h=>AOp) fun h=>?_
 have h3:=Qk h
 simp only[go_sem,Jn h]
 refine AAT _ (by simpa only[go_sem] using m_ d.x _ AOh) fun _=>?_
 simp only[go_sem]
 refine AA0 (fun h=>AOp) fun h=>?_
 have h4:=Qk h
 simp only[go_sem,Jn h]
 refine AAT _ (by simpa only[go_sem] using OC d.p _ AOh) fun _=>?_
 simp only[go_sem]
 refine AA0 (fun h=>AOp) fun h=>?_
 have h5:=Qk h
 simp only[go_sem,Jn h]
 refine AAT _ (by simpa only[go_sem] using nC d.tasks _ AOh) fun _=>?_
 simp only[go_sem]
 refine AA0 (fun h=>AOp) fun h=>?_
 have h6:=Qk h
 simp only[go_sem,Jn h]
 refine AAT _ (by simpa only[go_sem] using nD d.deeds _ AOh) fun _=>?_
 simp only[go_sem]
 refine AA0 (fun h=>AOp) fun h=>?_
 have h7:=Qk h
 simp only[go_sem,Jn h]
theorem Pv (xs:List Int) (hf:xs.length≤1048576):Ctr prog 35 [.c (.sl (xs.map intC))] [.own 3 1 (xs.map intC) true]:=by
 refine CM call35 func35 ntmps35 results35 fun _=>?_
 have hc:(0:Int)≤xs.length∧(xs.length:Int)≤xs.length∧(xs.length:Int)≤2147483648:=AOh
 simp only[go_sem,ae,hc,xX]
 have hg:=fun k=>@Nj _ intC intC.pure [.v (.int .i64 0)] rfl xs k 3 1 true true
 refine AB7 1 [0,3,4] (A:=Nat) (fun k=>⟨22,[(0,.c (.sl (xs.map intC))),(3,.c (.ref 0)),(4,.c (.v (.int .i64 k)))],[⟨3,1,grow (xs.map intC) [.v (.int .i64 0)] k,true,true⟩]⟩) (fun k=>k≤xs.length) (fun k=>xs.length-k) 0 ⟨⟨rfl,AOn⟩,AO4,az _⟩ ?_
 intro k hk
 refine AOc (fun h=>?_) fun h=>?_
 ·have hk':k<xs.length:=by simpa using h
  have hset:=@Gv _ intC xs [.v (.int .i64 0)] k hk'
  simp only[go_sem] at hset
  exact AIf
 ·have hk':k=xs.length:=by simp at h; omega
  subst hk'
  rw[Gw]
  simp only[go_sem]
  simp[FW (AY intC.pure)]
theorem rZ (xs:List Int) (hf:xs.length≤1048576):Ctr prog 213 [.c (.sl (xs.map byteC))] [.own 5 1 (xs.map byteC) true]:=by
 refine CM call213 func213 ntmps213 results213 fun _=>?_
 have hc:(0:Int)≤xs.length∧(xs.length:Int)≤xs.length∧(xs.length:Int)≤2147483648:=AOh
 simp only[go_sem,ae,hc,xX]
 have hg:=fun k=>@Nj _ byteC byteC.pure [.v (.int .u8 0)] rfl xs k 5 1 true true
 refine AB7 1 [0,3,4] (A:=Nat) (fun k=>⟨22,[(0,.c (.sl (xs.map byteC))),(3,.c (.ref 0)),(4,.c (.v (.int .i64 k)))],[⟨5,1,grow (xs.map byteC) [.v (.int .u8 0)] k,true,true⟩]⟩) (fun k=>k≤xs.length) (fun k=>xs.length-k) 0 ⟨⟨rfl,AOn⟩,AO4,az _⟩ ?_
 intro k hk
 refine AOc (fun h=>?_) fun h=>?_
 ·have hk':k<xs.length:=by simpa using h
  have hset:=@Gv _ byteC xs [.v (.int .u8 0)] k hk'
  simp only[go_sem] at hset
  exact AIf
 ·have hk':k=xs.length:=by simp at h; omega
  subst hk'
  rw[Gw]
  simp only[go_sem]
  simp[FW (AY byteC.pure)]
theorem KX (d:DVal) (hf:Gh d):Ctr prog 301 [.agg d.c] [.val (.agg d.c)]:=by
 rw[Sl] at hf
 have f0:=hf
 refine CM call301 func301 ntmps301 results301 fun _=>?_
 exact AIk
theorem Px (xs:List DVal) (hf:xs.length≤1048576) (hx:∀ x∈xs,Ctr prog 301 [.agg x.c] [.val (.agg x.c)]):Ctr prog 214 [.c (.sl (xs.map DVal.c))] [.own 64 3 (xs.map DVal.c) true]:=by
 refine CM call214 func214 ntmps214 results214 fun _=>?_
 have hc:(0:Int)≤xs.length∧(xs.length:Int)≤xs.length∧(xs.length:Int)≤2147483648:=AOh
 simp only[go_sem,ae,hc,xX]
 have hg:=fun k=>@Nj _ DVal.c DVal.pure [.v (.int .i64 0),.v (.int .i64 0),.v (.string ByteArray.empty)] rfl xs k 64 3 true true
 refine AB7 1 [0,3,4] (A:=Nat) (fun k=>⟨23,[(0,.c (.sl (xs.map DVal.c))),(3,.c (.ref 0)),(4,.c (.v (.int .i64 k)))],[⟨64,3,grow (xs.map DVal.c) [.v (.int .i64 0),.v (.int .i64 0),.v (.string ByteArray.empty)] k,true,true⟩]⟩) (fun k=>k≤xs.length) (fun k=>xs.length-k) 0 ⟨⟨rfl,AOn⟩,AO4,az _⟩ ?_
 intro k hk
 refine AOc (fun h=>?_) fun h=>?_
 ·have hk':k<xs.length:=by simpa using h
  have hset:=@Gv _ DVal.c xs [.v (.int .i64 0),.v (.int .i64 0),.v (.string ByteArray.empty)] k hk'
  exact AId
 ·have hk':k=xs.length:=by simp at h; omega
  subst hk'
  rw[Gw]
  simp only[go_sem]
  simp[FW (AY DVal.pure)]
theorem rf (d:DDead):Ctr prog 99 [.agg d.c] [.val (.agg d.c)]:=by
 refine CM call99 func99 ntmps99 results99 fun _=>?_
 exact AIk
theorem rq (xs:List DDead) (hf:xs.length≤1048576) (hx:∀ x∈xs,Ctr prog 99 [.agg x.c] [.val (.agg x.c)]):Ctr prog 36 [.c (.sl (xs.map DDead.c))] [.own 145 3 (xs.map DDead.c) true]:=by
 refine CM call36 func36 ntmps36 results36 fun _=>?_
 have hc:(0:Int)≤xs.length∧(xs.length:Int)≤xs.length∧(xs.length:Int)≤2147483648:=AOh
 simp only[go_sem,ae,hc,xX]
 have hg:=fun k=>@Nj _ DDead.c DDead.pure [.v (.int .i64 0),.v (.int .i64 0),.v (.int .i64 0)] rfl xs k 145 3 true true
 refine AB7 1 [0,3,4] (A:=Nat) (fun k=>⟨23,[(0,.c (.sl (xs.map DDead.c))),(3,.c (.ref 0)),(4,.c (.v (.int .i64 k)))],[⟨145,3,grow (xs.map DDead.c) [.v (.int .i64 0),.v (.int .i64 0),.v (.int .i64 0)] k,true,true⟩]⟩) (fun k=>k≤xs.length) (fun k=>xs.length-k) 0 ⟨⟨rfl,AOn⟩,AO4,az _⟩ ?_
 intro k hk
 refine AOc (fun h=>?_) fun h=>?_
 ·have hk':k<xs.length:=by simpa using h
  have hset:=@Gv _ DDead.c xs [.v (.int .i64 0),.v (.int .i64 0),.v (.int .i64 0)] k hk'
  exact AId
 ·have hk':k=xs.length:=by simp at h; omega
  subst hk'
  rw[Gw]
  simp only[go_sem]
  simp[FW (AY DDead.pure)]
theorem Zo (d:DRef):Ctr prog 211 [.agg d.c] [.val (.agg d.c)]:=by
 refine CM call211 func211 ntmps211 results211 fun _=>?_
 exact AIk
theorem Zp (xs:List DRef) (hf:xs.length≤1048576) (hx:∀ x∈xs,Ctr prog 211 [.agg x.c] [.val (.agg x.c)]):Ctr prog 97 [.c (.sl (xs.map DRef.c))] [.own 133 5 (xs.map DRef.c) true]:=by
 refine CM call97 func97 ntmps97 results97 fun _=>?_
 have hc:(0:Int)≤xs.length∧(xs.length:Int)≤xs.length∧(xs.length:Int)≤2147483648:=AOh
 simp only[go_sem,ae,hc,xX]
 have hg:=fun k=>@Nj _ DRef.c DRef.pure [.v (.int .i64 0),.v (.int .i64 0),.v (.int .i64 0),.v (.int .i64 0),.v (.int .i64 0)] rfl xs k 133 5 true true
 refine AB7 1 [0,3,4] (A:=Nat) (fun k=>⟨23,[(0,.c (.sl (xs.map DRef.c))),(3,.c (.ref 0)),(4,.c (.v (.int .i64 k)))],[⟨133,5,grow (xs.map DRef.c) [.v (.int .i64 0),.v (.int .i64 0),.v (.int .i64 0),.v (.int .i64 0),.v (.int .i64 0)] k,true,true⟩]⟩) (fun k=>k≤xs.length) (fun k=>xs.length-k) 0 ⟨⟨rfl,AOn⟩,AO4,az _⟩ ?_
 intro k hk
 refine AOc (fun h=>?_) fun h=>?_
 ·have hk':k<xs.length:=by simpa using h
  have hset:=@Gv _ DRef.c xs [.v (.int .i64 0),.v (.int .i64 0),.v (.int .i64 0),.v (.int .i64 0),.v (.int .i64 0)] k hk'
  exact AId
 ·have hk':k=xs.length:=by simp at h; omega
  subst hk'
  rw[Gw]
  simp only[go_sem]
  simp[FW (AY DRef.pure)]
theorem OE (xs:List Int):Ctr prog 46 [.c (.sl (xs.map intC)),.c (.sl (xs.map intC))] [.val (.c (.v (.bool true)))]:=by
 refine CM call46 func46 ntmps46 results46 fun hw=>?_
 have hlen:xs.length≤9223372036854775807:=API
 simp only[go_sem,ae,aA,aB]
 refine AB7 0 [0,1,5] (A:=Nat) (fun k=>⟨26,[(0,.c (.sl (xs.map intC))),(1,.c (.sl (xs.map intC))),(5,.c (.v (.int .i64 k)))],[]⟩) (fun k=>k≤xs.length) (fun k=>xs.length-k) 0 ⟨⟨rfl,rfl⟩,rfl,az _⟩ ?_
 intro k hk
 refine AOc (fun h=>?_) fun h=>?_
 ·exact ALl
 ·exact AIk
theorem nG (xs:List Int):Ctr prog 250 [.c (.sl (xs.map byteC)),.c (.sl (xs.map byteC))] [.val (.c (.v (.bool true)))]:=by
 refine CM call250 func250 ntmps250 results250 fun hw=>?_
 have hlen:xs.length≤9223372036854775807:=API
 simp only[go_sem,ae,aA,aB]
 refine AB7 0 [0,1,5] (A:=Nat) (fun k=>⟨26,[(0,.c (.sl (xs.map byteC))),(1,.c (.sl (xs.map byteC))),(5,.c (.v (.int .i64 k)))],[]⟩) (fun k=>k≤xs.length) (fun k=>xs.length-k) 0 ⟨⟨rfl,rfl⟩,rfl,az _⟩ ?_
 intro k hk
 refine AOc (fun h=>?_) fun h=>?_
 ·exact ALl
 ·exact AIk
theorem UK (d:DVal):Ctr prog 317 [.agg d.c,.agg d.c] [.val (.c (.v (.bool true)))]:=by
 refine CM call317 func317 ntmps317 results317 fun _=>?_
 exact AL1
theorem ABl {α:Type} {c:α→List Cl} (xs:List α) (hx:∀ x∈xs,Ctr prog 317 [.agg (c x),.agg (c x)] [.val (.c (.v (.bool true)))]) (hc:ML 3 c:=by intro x; first | exact⟨rfl,rfl,rfl⟩ | (simp only[go_sem]; done) | (simp only[go_sem]; exact⟨rfl,rfl,rfl⟩)):Ctr prog 251 [.c (.sl (xs.map c)),.c (.sl (xs.map c))] [.val (.c (.v (.bool true)))]:=by
 refine CM call251 func251 ntmps251 results251 fun hw=>?_
 exact AEy
theorem OG (xs:List DVal):Ctr prog 251 [.c (.sl (xs.map DVal.c)),.c (.sl (xs.map DVal.c))] [.val (.c (.v (.bool true)))]:=ABl xs fun x _=>UK x
theorem yB (d:DRow):Ctr prog 319 [.agg d.c,.agg d.c] [.val (.c (.v (.bool true)))]:=by
 refine CM call319 func319 ntmps319 results319 fun _=>?_
 simp only[go_sem,aA,aB]
 refine CW (OG d.l) fun _=>?_
 exact AL1
theorem ABm {α:Type} {c:α→List Cl} (xs:List α) (hx:∀ x∈xs,Ctr prog 319 [.agg (c x),.agg (c x)] [.val (.c (.v (.bool true)))]) (hc:ML 2 c:=by intro x; first | exact⟨rfl,rfl,rfl⟩ | (simp only[go_sem]; done) | (simp only[go_sem]; exact⟨rfl,rfl,rfl⟩)):Ctr prog 253 [.c (.sl (xs.map c)),.c (.sl (xs.map c))] [.val (.c (.v (.bool true)))]:=by
 refine CM call253 func253 ntmps253 results253 fun hw=>?_
 exact AEy
theorem X0 (xs:List DRow):Ctr prog 253 [.c (.sl (xs.map DRow.c)),.c (.sl (xs.map DRow.c))] [.val (.c (.v (.bool true)))]:=ABm xs fun x _=>yB x
theorem yC {α:Type} {c:α→List Cl} (xs:List α) (hx:∀ x∈xs,Ctr prog 318 [.agg (c x),.agg (c x)] [.val (.c (.v (.bool true)))]) (hc:ML 7 c:=by intro x; first | exact⟨rfl,rfl,rfl⟩ | (simp only[go_sem]; done) | (simp only[go_sem]; exact⟨rfl,rfl,rfl⟩)):Ctr prog 366 [.c (.sl (xs.map c)),.c (.sl (xs.map c))] [.val (.c (.v (.bool true)))]:=by
 refine CM call366 func366 ntmps366 results366 fun hw=>?_
 exact AEy
theorem ABn (d:DPred) (hx:∀ x∈d.l,Ctr prog 318 [.agg x.c,.agg x.c] [.val (.c (.v (.bool true)))]):Ctr prog 318 [.agg d.c,.agg d.c] [.val (.c (.v (.bool true)))]:=by
 refine CM call318 func318 ntmps318 results318 fun _=>?_
 simp only[go_sem,aA,aB]
 refine CW (UK d.v) fun _=>?_
 simp only[go_sem,aA,aB]
 refine CW (yC d.l hx) fun _=>?_
 exact AL1
theorem X3:∀ (n:Nat) (d:DPred),SizeOf.sizeOf d≤n→Ctr prog 318 [.agg d.c,.agg d.c] [.val (.c (.v (.bool true)))]
 | 0,d,h=>APp
 | n+1,d,h=>ABn d fun x hx=>X3 n x (by
  have h1:SizeOf.sizeOf x<SizeOf.sizeOf d.l:=aao hx
  have h2:SizeOf.sizeOf d.l<SizeOf.sizeOf d:=APl
  omega)
theorem ru (d:DPred):Ctr prog 318 [.agg d.c,.agg d.c] [.val (.c (.v (.bool true)))]:=X3 _ d (aT _)
theorem U2 (d:DQuery):Ctr prog 252 [.agg d.c,.agg d.c] [.val (.c (.v (.bool true)))]:=by
 refine CM call252 func252 ntmps252 results252 fun _=>?_
 simp only[go_sem,aA,aB]
 refine CW (ru d.p) fun _=>?_
 simp only[go_sem,aA,aB]
 refine CW (OE d.out) fun _=>?_
 exact AL1
theorem jL (d:DResult):Ctr prog 254 [.agg d.c,.agg d.c] [.val (.c (.v (.bool true)))]:=by
 refine CM call254 func254 ntmps254 results254 fun _=>?_
 simp only[go_sem,aA,aB]
 refine CW (X0 d.rows) fun _=>?_
 simp only[go_sem,aA,aB]
 refine CW (UK d.v) fun _=>?_
 exact AL1
theorem ry (d:DSlot):Ctr prog 365 [.agg d.c,.agg d.c] [.val (.c (.v (.bool true)))]:=by
 refine CM call365 func365 ntmps365 results365 fun _=>?_
 simp only[go_sem,aA,aB]
 refine CW (OG d.l) fun _=>?_
 exact AL1
theorem yD {α:Type} {c:α→List Cl} (xs:List α) (hx:∀ x∈xs,Ctr prog 365 [.agg (c x),.agg (c x)] [.val (.c (.v (.bool true)))]) (hc:ML 2 c:=by intro x; first | exact⟨rfl,rfl,rfl⟩ | (simp only[go_sem]; done) | (simp only[go_sem]; exact⟨rfl,rfl,rfl⟩)):Ctr prog 316 [.c (.sl (xs.map c)),.c (.sl (xs.map c))] [.val (.c (.v (.bool true)))]:=by
 refine CM call316 func316 ntmps316 results316 fun hw=>?_
 exact AEy
theorem nH (xs:List DSlot):Ctr prog 316 [.c (.sl (xs.map DSlot.c)),.c (.sl (xs.map DSlot.c))] [.val (.c (.v (.bool true)))]:=yD xs fun x _=>ry x
theorem nI (d:DChunk):Ctr prog 249 [.agg d.c,.agg d.c] [.val (.c (.v (.bool true)))]:=by
 refine CM call249 func249 ntmps249 results249 fun _=>?_
 simp only[go_sem,aA,aB]
 refine CW (nH d.l) fun _=>?_
 exact AL1
theorem yE (d:DBuf):Ctr prog 129 [.agg d.c,.agg d.c] [.val (.c (.v (.bool true)))]:=by
 refine CM call129 func129 ntmps129 results129 fun _=>?_
 simp only[go_sem,aA,aB]
 refine CW (nI d.c0) fun _=>?_
 simp only[go_sem,aA,aB]
 refine CW (nG d.g) fun _=>?_
 exact AL1
theorem ABo {α:Type} {c:α→List Cl} (xs:List α) (hx:∀ x∈xs,Ctr prog 129 [.agg (c x),.agg (c x)] [.val (.c (.v (.bool true)))]) (hc:ML 5 c:=by intro x; first | exact⟨rfl,rfl,rfl⟩ | (simp only[go_sem]; done) | (simp only[go_sem]; exact⟨rfl,rfl,rfl⟩)):Ctr prog 45 [.c (.sl (xs.map c)),.c (.sl (xs.map c))] [.val (.c (.v (.bool true)))]:=by
 refine CM call45 func45 ntmps45 results45 fun hw=>?_
 exact AEy
theorem r_ (xs:List DBuf):Ctr prog 45 [.c (.sl (xs.map DBuf.c)),.c (.sl (xs.map DBuf.c))] [.val (.c (.v (.bool true)))]:=ABo xs fun x _=>yE x
theorem sD (d:DDead):Ctr prog 130 [.agg d.c,.agg d.c] [.val (.c (.v (.bool true)))]:=by
 refine CM call130 func130 ntmps130 results130 fun _=>?_
 exact AL1
theorem yF {α:Type} {c:α→List Cl} (xs:List α) (hx:∀ x∈xs,Ctr prog 130 [.agg (c x),.agg (c x)] [.val (.c (.v (.bool true)))]) (hc:ML 3 c:=by intro x; first | exact⟨rfl,rfl,rfl⟩ | (simp only[go_sem]; done) | (simp only[go_sem]; exact⟨rfl,rfl,rfl⟩)):Ctr prog 47 [.c (.sl (xs.map c)),.c (.sl (xs.map c))] [.val (.c (.v (.bool true)))]:=by
 refine CM call47 func47 ntmps47 results47 fun hw=>?_
 exact AEy
theorem nJ (xs:List DDead):Ctr prog 47 [.c (.sl (xs.map DDead.c)),.c (.sl (xs.map DDead.c))] [.val (.c (.v (.bool true)))]:=yF xs fun x _=>sD x
theorem yG (d:DRef):Ctr prog 248 [.agg d.c,.agg d.c] [.val (.c (.v (.bool true)))]:=by
 refine CM call248 func248 ntmps248 results248 fun _=>?_
 exact AL1
theorem ABp {α:Type} {c:α→List Cl} (xs:List α) (hx:∀ x∈xs,Ctr prog 248 [.agg (c x),.agg (c x)] [.val (.c (.v (.bool true)))]) (hc:ML 5 c:=by intro x; first | exact⟨rfl,rfl,rfl⟩ | (simp only[go_sem]; done) | (simp only[go_sem]; exact⟨rfl,rfl,rfl⟩)):Ctr prog 128 [.c (.sl (xs.map c)),.c (.sl (xs.map c))] [.val (.c (.v (.bool true)))]:=by
 refine CM call128 func128 ntmps128 results128 fun hw=>?_
 exact AEy
theorem X4 (xs:List DRef):Ctr prog 128 [.c (.sl (xs.map DRef.c)),.c (.sl (xs.map DRef.c))] [.val (.c (.v (.bool true)))]:=ABp xs fun x _=>yG x
theorem yH (d:DDir):Ctr prog 44 [.agg d.c,.agg d.c] [.val (.c (.v (.bool true)))]:=by
 refine CM call44 func44 ntmps44 results44 fun _=>?_
 simp only[go_sem,aA,aB]
 refine CW (X4 d.l) fun _=>?_
 exact AL1
theorem sF (d:DTask):Ctr prog 131 [.agg d.c,.agg d.c] [.val (.c (.v (.bool true)))]:=by
 refine CM call131 func131 ntmps131 results131 fun _=>?_
 simp only[go_sem,aA,aB]
 refine CW (OG d.r) fun _=>?_
 simp only[go_sem,aA,aB]
 refine CW (U2 d.q) fun _=>?_
 simp only[go_sem,aA,aB]
 refine CW (X4 d.l) fun _=>?_
 simp only[go_sem,aA,aB]
 refine CW (X0 d.got) fun _=>?_
 exact AL1
theorem yI {α:Type} {c:α→List Cl} (xs:List α) (hx:∀ x∈xs,Ctr prog 131 [.agg (c x),.agg (c x)] [.val (.c (.v (.bool true)))]) (hc:ML 25 c:=by intro x; first | exact⟨rfl,rfl,rfl⟩ | (simp only[go_sem]; done) | (simp only[go_sem]; exact⟨rfl,rfl,rfl⟩)):Ctr prog 48 [.c (.sl (xs.map c)),.c (.sl (xs.map c))] [.val (.c (.v (.bool true)))]:=by
 refine CM call48 func48 ntmps48 results48 fun hw=>?_
 exact AEy
theorem nK (xs:List DTask):Ctr prog 48 [.c (.sl (xs.map DTask.c)),.c (.sl (xs.map DTask.c))] [.val (.c (.v (.bool true)))]:=yI xs fun x _=>sF x
theorem sG (d:DDeed):Ctr prog 132 [.agg d.c,.agg d.c] [.val (.c (.v (.bool true)))]:=by
 refine CM call132 func132 ntmps132 results132 fun _=>?_
 simp only[go_sem,aA,aB]
 refine CW (OG d.r) fun _=>?_
 simp only[go_sem,aA,aB]
 refine CW (U2 d.q) fun _=>?_
 simp only[go_sem,aA,aB]
 refine CW (jL d.res) fun _=>?_
 exact AL1
theorem yJ {α:Type} {c:α→List Cl} (xs:List α) (hx:∀ x∈xs,Ctr prog 132 [.agg (c x),.agg (c x)] [.val (.c (.v (.bool true)))]) (hc:ML 25 c:=by intro x; first | exact⟨rfl,rfl,rfl⟩ | (simp only[go_sem]; done) | (simp only[go_sem]; exact⟨rfl,rfl,rfl⟩)):Ctr prog 49 [.c (.sl (xs.map c)),.c (.sl (xs.map c))] [.val (.c (.v (.bool true)))]:=by
 refine CM call49 func49 ntmps49 results49 fun hw=>?_
 exact AEy
theorem nM (xs:List DDeed):Ctr prog 49 [.c (.sl (xs.map DDeed.c)),.c (.sl (xs.map DDeed.c))] [.val (.c (.v (.bool true)))]:=yJ xs fun x _=>sG x
theorem sH (d:DConf):Ctr prog 43 [.agg d.c,.agg d.c] [.val (.c (.v (.bool true)))]:=by
 refine CM call43 func43 ntmps43 results43 fun _=>?_
 simp only[go_sem,aA,aB]
 refine CW (OE d.cols) fun _=>?_
 exact AL1
theorem Ir (d:DWorld):Ctr prog 11 [.agg d.c,.agg d.c] [.val (.c (.v (.bool true)))]:=by
 refine CM call11 func11 ntmps11 results11 fun _=>?_
 simp only[go_sem,aA,aB]
 refine CW (sH d.c0) fun _=>?_
 simp only[go_sem,aA,aB]
 refine CW (yH d.d) fun _=>?_
 simp only[go_sem,aA,aB]
 refine CW (r_ d.b) fun _=>?_
 simp only[go_sem,aA,aB]
 refine CW (OE d.m) fun _=>?_
 simp only[go_sem,aA,aB]
 refine CW (nJ d.x) fun _=>?_
 simp only[go_sem,aA,aB]
 refine CW (OE d.p) fun _=>?_
 simp only[go_sem,aA,aB]
 refine CW (nK d.tasks) fun _=>?_
 simp only[go_sem,aA,aB]
 refine CW (nM d.deeds) fun _=>?_
 exact AL1
end Go.Proofs.YtnoldekcdlaahaaGreat
