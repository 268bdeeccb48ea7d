/- A part. -/
import Derived.Test.YtnoldekcdlaahaaGreatPDa
import Derived.Test.YtnoldekcdlaahaaGreatPTy
set_option linter.unusedSimpArgs false
set_option linter.unusedVariables false
set_option maxHeartbeats 1000000
set_option maxRecDepth 10000
open Go.Proofs.Tryz
namespace Go.Proofs.YtnoldekcdlaahaaGreat
open Go.Vm
theorem Ji {x:Int} {k:Int→Int} (h:decide (x<0)=true):sq x k = -1:=AGk (Yi h)
theorem Jj {x:Int} {k:Int→Int} (h:decide (x<0)=false):sq x k=k x:=AGl (of_decide_eq_false h)
theorem QS {x:Int} (h:decide (x<0)=false):0≤x:=Int.not_lt.1 (of_decide_eq_false h)
theorem ltN {a b:Nat} (h:decide ((a:Int)<b)=true):a<b:=AOz
def szP {α:Type} (sz:α→Int→Int) (xs:List α) (r:Int) (x:Nat×Int):Prop:=x.1≤xs.length∧0≤x.2∧XV sz (xs.drop x.1) x.2=r
section
variable {α:Type} {sz:α→Int→Int} {xs:List α} {r m l:Int} {k:Nat}
theorem ZU (h:decide (l-xs.length<0)=true):DW sz xs l = -1:=by
 have:=Yi h
 simp[DW,sq,F6,this]
theorem szP.start (h:0≤l-xs.length):szP sz xs (DW sz xs l) (0,l-xs.length):=⟨aA _,h,by
 have:¬ l-xs.length<0:=AOQ
 simp[DW,sq,F6,this]⟩
theorem szP.neg (hP:szP sz xs r (k,m)) (hk:k<xs.length) (h:decide (sz xs[k] m<0)=true):r = -1:=by
 have hm:=hP.2.2
 simp only at hm
 rw[aG hk,XV,Ji h] at hm
 exact hm.symm
theorem szP.step (hP:szP sz xs r (k,m)) (hk:k<xs.length) (h:decide (sz xs[k] m<0)=false):szP sz xs r (k+1,sz xs[k] m):=by
 have hm:=hP.2.2
 simp only at hm
 rw[aG hk,XV,Jj h] at hm
 exact⟨hk,QS h,hm⟩
theorem szP.fin (hP:szP sz xs r (k,m)) (h:decide ((k:Int)<xs.length)=false):r=m:=by
 have h1:=hP.1
 have hm:=hP.2.2
 simp only at hm h1
 have:k=xs.length:=AOc
 subst this
 simpa [XV] using hm.symm
end
def MB {α:Type} (n:Nat) (c:α→List Cl):Prop:=∀ x,(c x).length=n∧List.take n (c x)=c x∧fzL [] (c x)=some (c x,[])
def Uy {α:Type} (n:Nat) (e:α→List Cl) (xs:List α) (x:Nat×Int):MS:=⟨n,[(0,.c (.sl (xs.map e))),(1,.c (.v (.int .i64 x.2))),(5,.c (.v (.int .i64 x.1)))],[]⟩
theorem Nq (xs:List Int) (l:Int) (hl:0≤l):Ctr prog 23 [.c (.sl (xs.map intC)),.c (.v (.int .i64 l))] [.val (.c (.v (.int .i64 (F6 xs.length l))))]:=by
 refine CM call23 func23 ntmps23 results23 fun hw=>?_
 exact AGG
theorem lS (xs:List Int) (l:Int) (hl:0≤l):Ctr prog 181 [.c (.sl (xs.map byteC)),.c (.v (.int .i64 l))] [.val (.c (.v (.int .i64 (F6 xs.length l))))]:=by
 refine CM call181 func181 ntmps181 results181 fun hw=>?_
 exact AGG
theorem Tm (d:DVal) (l:Int) (hl:0≤l):Ctr prog 286 [.agg d.c,.c (.v (.int .i64 l))] [.val (.c (.v (.int .i64 (BA d l))))]:=by
 refine CM call286 func286 ntmps286 results286 fun hw=>?_
 rw[H9]
 have hl2:l≤9223372036854775807:=KW hw.2.1
 have hs:d.s.size≤9223372036854775807:=yD hw.1.2.2.1
 simp only[go_sem,wrap_i64 (n:=l-d.s.size) AOQ AOQ]
 refine ABG (fun h=>?_) (fun h=>?_)
 ·have h0:l-d.s.size<0:=by simpa using h
  simp only[go_sem]
  simp[F6,sq,h0]
 ·have h0:¬ l-d.s.size<0:=by simpa using h
  simp only[go_sem]
  simp[F6,sq,h0]
theorem AAy {α:Type} {c:α→List Cl} {sz:α→Int→Int} (xs:List α) (hx:∀ x∈xs,∀ l,0≤l→Ctr prog 286 [.agg (c x),.c (.v (.int .i64 l))] [.val (.c (.v (.int .i64 (sz x l))))]) (l:Int) (hl:0≤l) (hc:MB 3 c:=by intro x; first | exact⟨rfl,rfl,rfl⟩ | (simp only[go_sem]; done) | (simp only[go_sem]; exact⟨rfl,rfl,rfl⟩)):Ctr prog 182 [.c (.sl (xs.map c)),.c (.v (.int .i64 l))] [.val (.c (.v (.int .i64 (DW sz xs l))))]:=by
 refine CM call182 func182 ntmps182 results182 fun hw=>?_
 exact AEY
theorem Nr (xs:List DVal) (l:Int) (hl:0≤l):Ctr prog 182 [.c (.sl (xs.map DVal.c)),.c (.v (.int .i64 l))] [.val (.c (.v (.int .i64 (DW BA xs l))))]:=AAy xs (fun x _ l hl=>Tm x l hl) l hl
theorem wO (d:DRow) (l:Int) (hl:0≤l):Ctr prog 288 [.agg d.c,.c (.v (.int .i64 l))] [.val (.c (.v (.int .i64 (Jg d l))))]:=by
 refine CM call288 func288 ntmps288 results288 fun hw=>?_
 rw[Ub]
 simp only[go_sem]
 refine AAM _ (by simpa only[go_sem] using Nr d.l _ AOQ) fun _=>?_
 exact AJ6
theorem AAz {α:Type} {c:α→List Cl} {sz:α→Int→Int} (xs:List α) (hx:∀ x∈xs,∀ l,0≤l→Ctr prog 288 [.agg (c x),.c (.v (.int .i64 l))] [.val (.c (.v (.int .i64 (sz x l))))]) (l:Int) (hl:0≤l) (hc:MB 2 c:=by intro x; first | exact⟨rfl,rfl,rfl⟩ | (simp only[go_sem]; done) | (simp only[go_sem]; exact⟨rfl,rfl,rfl⟩)):Ctr prog 184 [.c (.sl (xs.map c)),.c (.v (.int .i64 l))] [.val (.c (.v (.int .i64 (DW sz xs l))))]:=by
 refine CM call184 func184 ntmps184 results184 fun hw=>?_
 exact AEY
theorem Xd (xs:List DRow) (l:Int) (hl:0≤l):Ctr prog 184 [.c (.sl (xs.map DRow.c)),.c (.v (.int .i64 l))] [.val (.c (.v (.int .i64 (DW Jg xs l))))]:=AAz xs (fun x _ l hl=>wO x l hl) l hl
theorem wP {α:Type} {c:α→List Cl} {sz:α→Int→Int} (xs:List α) (hx:∀ x∈xs,∀ l,0≤l→Ctr prog 287 [.agg (c x),.c (.v (.int .i64 l))] [.val (.c (.v (.int .i64 (sz x l))))]) (l:Int) (hl:0≤l) (hc:MB 7 c:=by intro x; first | exact⟨rfl,rfl,rfl⟩ | (simp only[go_sem]; done) | (simp only[go_sem]; exact⟨rfl,rfl,rfl⟩)):Ctr prog 345 [.c (.sl (xs.map c)),.c (.v (.int .i64 l))] [.val (.c (.v (.int .i64 (DW sz xs l))))]:=by
 refine CM call345 func345 ntmps345 results345 fun hw=>?_
 exact AEY
theorem AA0 (d:DPred) (hx:∀ x∈d.l,∀ l,0≤l→Ctr prog 287 [.agg x.c,.c (.v (.int .i64 l))] [.val (.c (.v (.int .i64 (CJ x l))))]) (l:Int) (hl:0≤l):Ctr prog 287 [.agg d.c,.c (.v (.int .i64 l))] [.val (.c (.v (.int .i64 (CJ d l))))]:=by
 refine CM call287 func287 ntmps287 results287 fun hw=>?_
 rw[JV]
 simp only[go_sem]
 refine AAM _ (by simpa only[go_sem] using Tm d.v _ AOQ) fun _=>?_
 simp only[go_sem]
 refine ABG (fun h=>AOZ) fun h=>?_
 have h0:=QS h
 simp only[go_sem,Jj h]
 refine AAM _ (by simpa only[go_sem] using wP d.l hx _ AOQ) fun _=>?_
 exact AK3
theorem Xe:∀ (n:Nat) (d:DPred),SizeOf.sizeOf d≤n→∀ l,0≤l→Ctr prog 287 [.agg d.c,.c (.v (.int .i64 l))] [.val (.c (.v (.int .i64 (CJ d l))))]
 | 0,d,h=>APf
 | n+1,d,h=>AA0 d fun x hx=>Xe n x (by
  have h1:SizeOf.sizeOf x<SizeOf.sizeOf d.l:=zg hx
  have h2:SizeOf.sizeOf d.l<SizeOf.sizeOf d:=APX
  omega)
theorem qO (d:DPred) (l:Int) (hl:0≤l):Ctr prog 287 [.agg d.c,.c (.v (.int .i64 l))] [.val (.c (.v (.int .i64 (CJ d l))))]:=Xe _ d (aT _) l hl
theorem Uz (d:DQuery) (l:Int) (hl:0≤l):Ctr prog 183 [.agg d.c,.c (.v (.int .i64 l))] [.val (.c (.v (.int .i64 (EP d l))))]:=by
 refine CM call183 func183 ntmps183 results183 fun hw=>?_
 rw[KE]
 simp only[go_sem]
 refine AAM _ (by simpa only[go_sem] using qO d.p _ AOQ) fun _=>?_
 simp only[go_sem]
 refine ABG (fun h=>AOZ) fun h=>?_
 have h0:=QS h
 simp only[go_sem,Jj h]
 refine AAM _ (by simpa only[go_sem] using Nq d.out _ AOQ) fun _=>?_
 exact AK3
theorem iI (d:DResult) (l:Int) (hl:0≤l):Ctr prog 185 [.agg d.c,.c (.v (.int .i64 l))] [.val (.c (.v (.int .i64 (LK d l))))]:=by
 refine CM call185 func185 ntmps185 results185 fun hw=>?_
 rw[Nj]
 simp only[go_sem]
 refine AAM _ (by simpa only[go_sem] using Xd d.rows _ AOQ) fun _=>?_
 simp only[go_sem]
 refine ABG (fun h=>AOZ) fun h=>?_
 have h0:=QS h
 simp only[go_sem,Jj h]
 refine AAM _ (by simpa only[go_sem] using Tm d.v _ AOQ) fun _=>?_
 exact AK3
theorem qP (d:DSlot) (l:Int) (hl:0≤l):Ctr prog 344 [.agg d.c,.c (.v (.int .i64 l))] [.val (.c (.v (.int .i64 (Ll d l))))]:=by
 refine CM call344 func344 ntmps344 results344 fun hw=>?_
 rw[Rw]
 simp only[go_sem]
 refine AAM _ (by simpa only[go_sem] using Nr d.l _ AOQ) fun _=>?_
 exact AJ6
theorem wQ {α:Type} {c:α→List Cl} {sz:α→Int→Int} (xs:List α) (hx:∀ x∈xs,∀ l,0≤l→Ctr prog 344 [.agg (c x),.c (.v (.int .i64 l))] [.val (.c (.v (.int .i64 (sz x l))))]) (l:Int) (hl:0≤l) (hc:MB 2 c:=by intro x; first | exact⟨rfl,rfl,rfl⟩ | (simp only[go_sem]; done) | (simp only[go_sem]; exact⟨rfl,rfl,rfl⟩)):Ctr prog 285 [.c (.sl (xs.map c)),.c (.v (.int .i64 l))] [.val (.c (.v (.int .i64 (DW sz xs l))))]:=by
 refine CM call285 func285 ntmps285 results285 fun hw=>?_
 exact AEY
theorem lT (xs:List DSlot) (l:Int) (hl:0≤l):Ctr prog 285 [.c (.sl (xs.map DSlot.c)),.c (.v (.int .i64 l))] [.val (.c (.v (.int .i64 (DW Ll xs l))))]:=wQ xs (fun x _ l hl=>qP x l hl) l hl
theorem lU (d:DChunk) (l:Int) (hl:0≤l):Ctr prog 180 [.agg d.c,.c (.v (.int .i64 l))] [.val (.c (.v (.int .i64 (Ku d l))))]:=by
 refine CM call180 func180 ntmps180 results180 fun hw=>?_
 rw[PN]
 simp only[go_sem]
 refine AAM _ (by simpa only[go_sem] using lT d.l _ AOQ) fun _=>?_
 exact AJ6
theorem wR (d:DBuf) (l:Int) (hl:0≤l):Ctr prog 75 [.agg d.c,.c (.v (.int .i64 l))] [.val (.c (.v (.int .i64 (HY d l))))]:=by
 refine CM call75 func75 ntmps75 results75 fun hw=>?_
 rw[Uc]
 simp only[go_sem]
 refine AAM _ (by simpa only[go_sem] using lU d.c0 _ AOQ) fun _=>?_
 simp only[go_sem]
 refine ABG (fun h=>AOZ) fun h=>?_
 have h0:=QS h
 simp only[go_sem,Jj h]
 refine AAM _ (by simpa only[go_sem] using lS d.g _ AOQ) fun _=>?_
 exact AK3
theorem AA1 {α:Type} {c:α→List Cl} {sz:α→Int→Int} (xs:List α) (hx:∀ x∈xs,∀ l,0≤l→Ctr prog 75 [.agg (c x),.c (.v (.int .i64 l))] [.val (.c (.v (.int .i64 (sz x l))))]) (l:Int) (hl:0≤l) (hc:MB 5 c:=by intro x; first | exact⟨rfl,rfl,rfl⟩ | (simp only[go_sem]; done) | (simp only[go_sem]; exact⟨rfl,rfl,rfl⟩)):Ctr prog 22 [.c (.sl (xs.map c)),.c (.v (.int .i64 l))] [.val (.c (.v (.int .i64 (DW sz xs l))))]:=by
 refine CM call22 func22 ntmps22 results22 fun hw=>?_
 exact AEY
theorem qQ (xs:List DBuf) (l:Int) (hl:0≤l):Ctr prog 22 [.c (.sl (xs.map DBuf.c)),.c (.v (.int .i64 l))] [.val (.c (.v (.int .i64 (DW HY xs l))))]:=AA1 xs (fun x _ l hl=>wR x l hl) l hl
theorem lV (xs:List DDead) (l:Int) (hl:0≤l):Ctr prog 24 [.c (.sl (xs.map DDead.c)),.c (.v (.int .i64 l))] [.val (.c (.v (.int .i64 (F6 xs.length l))))]:=by
 refine CM call24 func24 ntmps24 results24 fun hw=>?_
 exact AGG
theorem Xf (xs:List DRef) (l:Int) (hl:0≤l):Ctr prog 74 [.c (.sl (xs.map DRef.c)),.c (.v (.int .i64 l))] [.val (.c (.v (.int .i64 (F6 xs.length l))))]:=by
 refine CM call74 func74 ntmps74 results74 fun hw=>?_
 exact AGG
theorem wS (d:DDir) (l:Int) (hl:0≤l):Ctr prog 21 [.agg d.c,.c (.v (.int .i64 l))] [.val (.c (.v (.int .i64 (Ha d l))))]:=by
 refine CM call21 func21 ntmps21 results21 fun hw=>?_
 rw[Y8]
 simp only[go_sem]
 refine AAM _ (by simpa only[go_sem] using Xf d.l _ AOQ) fun _=>?_
 exact AJ6
theorem qR (d:DTask) (l:Int) (hl:0≤l):Ctr prog 76 [.agg d.c,.c (.v (.int .i64 l))] [.val (.c (.v (.int .i64 (I4 d l))))]:=by
 refine CM call76 func76 ntmps76 results76 fun hw=>?_
 rw[Rx]
 simp only[go_sem]
 refine AAM _ (by simpa only[go_sem] using Nr d.r _ AOQ) fun _=>?_
 simp only[go_sem]
 refine ABG (fun h=>AOZ) fun h=>?_
 have h0:=QS h
 simp only[go_sem,Jj h]
 refine AAM _ (by simpa only[go_sem] using Uz d.q _ AOQ) fun _=>?_
 simp only[go_sem]
 refine ABG (fun h=>AOZ) fun h=>?_
 have h1:=QS h
 simp only[go_sem,Jj h]
 refine AAM _ (by simpa only[go_sem] using Xf d.l _ AOQ) fun _=>?_
 simp only[go_sem]
 refine ABG (fun h=>AOZ) fun h=>?_
 have h2:=QS h
 simp only[go_sem,Jj h]
 refine AAM _ (by simpa only[go_sem] using Xd d.got _ AOQ) fun _=>?_
 simp only[go_sem]
 refine ABG (fun h=>AOZ) fun h=>?_
 have h3:=QS h
 simp only[go_sem,Jj h]
theorem wU {α:Type} {c:α→List Cl} {sz:α→Int→Int} (xs:List α) (hx:∀ x∈xs,∀ l,0≤l→Ctr prog 76 [.agg (c x),.c (.v (.int .i64 l))] [.val (.c (.v (.int .i64 (sz x l))))]) (l:Int) (hl:0≤l) (hc:MB 25 c:=by intro x; first | exact⟨rfl,rfl,rfl⟩ | (simp only[go_sem]; done) | (simp only[go_sem]; exact⟨rfl,rfl,rfl⟩)):Ctr prog 25 [.c (.sl (xs.map c)),.c (.v (.int .i64 l))] [.val (.c (.v (.int .i64 (DW sz xs l))))]:=by
 refine CM call25 func25 ntmps25 results25 fun hw=>?_
 exact AEY
theorem lW (xs:List DTask) (l:Int) (hl:0≤l):Ctr prog 25 [.c (.sl (xs.map DTask.c)),.c (.v (.int .i64 l))] [.val (.c (.v (.int .i64 (DW I4 xs l))))]:=wU xs (fun x _ l hl=>qR x l hl) l hl
theorem qU (d:DDeed) (l:Int) (hl:0≤l):Ctr prog 77 [.agg d.c,.c (.v (.int .i64 l))] [.val (.c (.v (.int .i64 (KF d l))))]:=by
 refine CM call77 func77 ntmps77 results77 fun hw=>?_
 rw[Ry]
 simp only[go_sem]
 refine AAM _ (by simpa only[go_sem] using Nr d.r _ AOQ) fun _=>?_
 simp only[go_sem]
 refine ABG (fun h=>AOZ) fun h=>?_
 have h0:=QS h
 simp only[go_sem,Jj h]
 refine AAM _ (by simpa only[go_sem] using Uz d.q _ AOQ) fun _=>?_
 simp only[go_sem]
 refine ABG (fun h=>AOZ) fun h=>?_
 have h1:=QS h
 simp only[go_sem,Jj h]
 refine AAM _ (by simpa only[go_sem] using iI d.res _ AOQ) fun _=>?_
 simp only[go_sem]
 refine ABG (fun h=>AOZ) fun h=>?_
 have h2:=QS h
 simp only[go_sem,Jj h]
theorem wV {α:Type} {c:α→List Cl} {sz:α→Int→Int} (xs:List α) (hx:∀ x∈xs,∀ l,0≤l→Ctr prog 77 [.agg (c x),.c (.v (.int .i64 l))] [.val (.c (.v (.int .i64 (sz x l))))]) (l:Int) (hl:0≤l) (hc:MB 25 c:=by intro x; first | exact⟨rfl,rfl,rfl⟩ | (simp only[go_sem]; done) | (simp only[go_sem]; exact⟨rfl,rfl,rfl⟩)):Ctr prog 26 [.c (.sl (xs.map c)),.c (.v (.int .i64 l))] [.val (.c (.v (.int .i64 (DW sz xs l))))]:=by
 refine CM call26 func26 ntmps26 results26 fun hw=>?_
 exact AEY
theorem lX (xs:List DDeed) (l:Int) (hl:0≤l):Ctr prog 26 [.c (.sl (xs.map DDeed.c)),.c (.v (.int .i64 l))] [.val (.c (.v (.int .i64 (DW KF xs l))))]:=wV xs (fun x _ l hl=>qU x l hl) l hl
theorem qV (d:DConf) (l:Int) (hl:0≤l):Ctr prog 20 [.agg d.c,.c (.v (.int .i64 l))] [.val (.c (.v (.int .i64 (Ee d l))))]:=by
 refine CM call20 func20 ntmps20 results20 fun hw=>?_
 rw[WG]
 simp only[go_sem]
 refine AAM _ (by simpa only[go_sem] using Nq d.cols _ AOQ) fun _=>?_
 exact AJ6
theorem lY (d:DWorld) (l:Int) (hl:0≤l):Ctr prog 7 [.agg d.c,.c (.v (.int .i64 l))] [.val (.c (.v (.int .i64 (Ip d l))))]:=by
 refine CM call7 func7 ntmps7 results7 fun hw=>?_
 rw[KG]
 simp only[go_sem]
 refine AAM _ (by simpa only[go_sem] using qV d.c0 _ AOQ) fun _=>?_
 simp only[go_sem]
 refine ABG (fun h=>AOZ) fun h=>?_
 have h0:=QS h
 simp only[go_sem,Jj h]
 refine AAM _ (by simpa only[go_sem] using wS d.d _ AOQ) fun _=>?_
 simp only[go_sem]
 refine ABG (fun h=>AOZ) fun h=>?_
 have h1:=QS h
 simp only[go_sem,Jj h]
 refine AAM _ (by simpa only[go_sem] using qQ d.b _ AOQ) fun _=>?_
 simp only[go_sem]
 refine ABG (fun h=>AOZ) fun h=>?_
 have h2:=QS h
 simp only[go_sem,Jj h]
 refine AAM _ (by simpa only[go_sem] using Nq d.m _ AOQ) fun _=>?_
 simp only[go_sem]
 refine ABG (fun h=>AOZ) fun h=>?_
 have h3:=QS h
 simp only[go_sem,Jj h]
 refine AAM _ (by simpa only[go_sem] using lV d.x _ AOQ) fun _=>?_
 simp only[go_sem]
 refine ABG (fun h=>AOZ) fun h=>?_
 have h4:=QS h
 simp only[go_sem,Jj h]
 refine AAM _ (by simpa only[go_sem] using Nq d.p _ AOQ) fun _=>?_
 simp only[go_sem]
 refine ABG (fun h=>AOZ) fun h=>?_
 have h5:=QS h
 simp only[go_sem,Jj h]
 refine AAM _ (by simpa only[go_sem] using lW d.tasks _ AOQ) fun _=>?_
 simp only[go_sem]
 refine ABG (fun h=>AOZ) fun h=>?_
 have h6:=QS h
 simp only[go_sem,Jj h]
 refine AAM _ (by simpa only[go_sem] using lX d.deeds _ AOQ) fun _=>?_
 simp only[go_sem]
 refine ABG (fun h=>AOZ) fun h=>?_
 have h7:=QS h
 simp only[go_sem,Jj h]
theorem PT (xs:List Int) (hf:xs.length≤1048576):Ctr prog 35 [.c (.sl (xs.map intC))] [.own 3 1 (xs.map intC) true]:=by
 refine CM call35 func35 ntmps35 results35 fun _=>?_
 have hc:(0:Int)≤xs.length∧(xs.length:Int)≤xs.length∧(xs.length:Int)≤2147483648:=AOQ
 simp only[go_sem,ae,hc,bU]
 have hg:=fun k=>@NR _ intC intC.pure [.v (.int .i64 0)] rfl xs k 3 1 true true
 refine ABf 1 [0,3,4] (A:=Nat) (fun k=>⟨22,[(0,.c (.sl (xs.map intC))),(3,.c (.ref 0)),(4,.c (.v (.int .i64 k)))],[⟨3,1,grow (xs.map intC) [.v (.int .i64 0)] k,true,true⟩]⟩) (fun k=>k≤xs.length) (fun k=>xs.length-k) 0 ⟨⟨rfl,AOX⟩,AOr,aA _⟩ ?_
 intro k hk
 refine AOK (fun h=>?_) fun h=>?_
 ·have hk':k<xs.length:=by simpa using h
  have hset:=@Gz _ intC xs [.v (.int .i64 0)] k hk'
  simp only[go_sem] at hset
  exact AIG
 ·have hk':k=xs.length:=by simp at h; omega
  subst hk'
  rw[G5]
  simp only[go_sem]
  simp[FZ (AY intC.pure)]
theorem qW (xs:List Int) (hf:xs.length≤1048576):Ctr prog 213 [.c (.sl (xs.map byteC))] [.own 5 1 (xs.map byteC) true]:=by
 refine CM call213 func213 ntmps213 results213 fun _=>?_
 have hc:(0:Int)≤xs.length∧(xs.length:Int)≤xs.length∧(xs.length:Int)≤2147483648:=AOQ
 simp only[go_sem,ae,hc,bU]
 have hg:=fun k=>@NR _ byteC byteC.pure [.v (.int .u8 0)] rfl xs k 5 1 true true
 refine ABf 1 [0,3,4] (A:=Nat) (fun k=>⟨22,[(0,.c (.sl (xs.map byteC))),(3,.c (.ref 0)),(4,.c (.v (.int .i64 k)))],[⟨5,1,grow (xs.map byteC) [.v (.int .u8 0)] k,true,true⟩]⟩) (fun k=>k≤xs.length) (fun k=>xs.length-k) 0 ⟨⟨rfl,AOX⟩,AOr,aA _⟩ ?_
 intro k hk
 refine AOK (fun h=>?_) fun h=>?_
 ·have hk':k<xs.length:=by simpa using h
  have hset:=@Gz _ byteC xs [.v (.int .u8 0)] k hk'
  simp only[go_sem] at hset
  exact AIG
 ·have hk':k=xs.length:=by simp at h; omega
  subst hk'
  rw[G5]
  simp only[go_sem]
  simp[FZ (AY byteC.pure)]
theorem KR (d:DVal) (hf:Gj d):Ctr prog 301 [.agg d.c] [.val (.agg d.c)]:=by
 rw[Rz] at hf
 have f0:=hf
 refine CM call301 func301 ntmps301 results301 fun _=>?_
 exact AI5
theorem PU (xs:List DVal) (hf:xs.length≤1048576) (hx:∀ x∈xs,Ctr prog 301 [.agg x.c] [.val (.agg x.c)]):Ctr prog 214 [.c (.sl (xs.map DVal.c))] [.own 64 3 (xs.map DVal.c) true]:=by
 refine CM call214 func214 ntmps214 results214 fun _=>?_
 have hc:(0:Int)≤xs.length∧(xs.length:Int)≤xs.length∧(xs.length:Int)≤2147483648:=AOQ
 simp only[go_sem,ae,hc,bU]
 have hg:=fun k=>@NR _ DVal.c DVal.pure [.v (.int .i64 0),.v (.int .i64 0),.v (.string ByteArray.empty)] rfl xs k 64 3 true true
 refine ABf 1 [0,3,4] (A:=Nat) (fun k=>⟨23,[(0,.c (.sl (xs.map DVal.c))),(3,.c (.ref 0)),(4,.c (.v (.int .i64 k)))],[⟨64,3,grow (xs.map DVal.c) [.v (.int .i64 0),.v (.int .i64 0),.v (.string ByteArray.empty)] k,true,true⟩]⟩) (fun k=>k≤xs.length) (fun k=>xs.length-k) 0 ⟨⟨rfl,AOX⟩,AOr,aA _⟩ ?_
 intro k hk
 refine AOK (fun h=>?_) fun h=>?_
 ·have hk':k<xs.length:=by simpa using h
  have hset:=@Gz _ DVal.c xs [.v (.int .i64 0),.v (.int .i64 0),.v (.string ByteArray.empty)] k hk'
  exact AIE
 ·have hk':k=xs.length:=by simp at h; omega
  subst hk'
  rw[G5]
  simp only[go_sem]
  simp[FZ (AY DVal.pure)]
theorem qX (d:DDead):Ctr prog 99 [.agg d.c] [.val (.agg d.c)]:=by
 refine CM call99 func99 ntmps99 results99 fun _=>?_
 exact AI5
theorem qY (xs:List DDead) (hf:xs.length≤1048576) (hx:∀ x∈xs,Ctr prog 99 [.agg x.c] [.val (.agg x.c)]):Ctr prog 36 [.c (.sl (xs.map DDead.c))] [.own 145 3 (xs.map DDead.c) true]:=by
 refine CM call36 func36 ntmps36 results36 fun _=>?_
 have hc:(0:Int)≤xs.length∧(xs.length:Int)≤xs.length∧(xs.length:Int)≤2147483648:=AOQ
 simp only[go_sem,ae,hc,bU]
 have hg:=fun k=>@NR _ DDead.c DDead.pure [.v (.int .i64 0),.v (.int .i64 0),.v (.int .i64 0)] rfl xs k 145 3 true true
 refine ABf 1 [0,3,4] (A:=Nat) (fun k=>⟨23,[(0,.c (.sl (xs.map DDead.c))),(3,.c (.ref 0)),(4,.c (.v (.int .i64 k)))],[⟨145,3,grow (xs.map DDead.c) [.v (.int .i64 0),.v (.int .i64 0),.v (.int .i64 0)] k,true,true⟩]⟩) (fun k=>k≤xs.length) (fun k=>xs.length-k) 0 ⟨⟨rfl,AOX⟩,AOr,aA _⟩ ?_
 intro k hk
 refine AOK (fun h=>?_) fun h=>?_
 ·have hk':k<xs.length:=by simpa using h
  have hset:=@Gz _ DDead.c xs [.v (.int .i64 0),.v (.int .i64 0),.v (.int .i64 0)] k hk'
  exact AIE
 ·have hk':k=xs.length:=by simp at h; omega
  subst hk'
  rw[G5]
  simp only[go_sem]
  simp[FZ (AY DDead.pure)]
theorem ZV (d:DRef):Ctr prog 211 [.agg d.c] [.val (.agg d.c)]:=by
 refine CM call211 func211 ntmps211 results211 fun _=>?_
 exact AI5
theorem ZW (xs:List DRef) (hf:xs.length≤1048576) (hx:∀ x∈xs,Ctr prog 211 [.agg x.c] [.val (.agg x.c)]):Ctr prog 97 [.c (.sl (xs.map DRef.c))] [.own 133 5 (xs.map DRef.c) true]:=by
 refine CM call97 func97 ntmps97 results97 fun _=>?_
 have hc:(0:Int)≤xs.length∧(xs.length:Int)≤xs.length∧(xs.length:Int)≤2147483648:=AOQ
 simp only[go_sem,ae,hc,bU]
 have hg:=fun k=>@NR _ DRef.c DRef.pure [.v (.int .i64 0),.v (.int .i64 0),.v (.int .i64 0),.v (.int .i64 0),.v (.int .i64 0)] rfl xs k 133 5 true true
 refine ABf 1 [0,3,4] (A:=Nat) (fun k=>⟨23,[(0,.c (.sl (xs.map DRef.c))),(3,.c (.ref 0)),(4,.c (.v (.int .i64 k)))],[⟨133,5,grow (xs.map DRef.c) [.v (.int .i64 0),.v (.int .i64 0),.v (.int .i64 0),.v (.int .i64 0),.v (.int .i64 0)] k,true,true⟩]⟩) (fun k=>k≤xs.length) (fun k=>xs.length-k) 0 ⟨⟨rfl,AOX⟩,AOr,aA _⟩ ?_
 intro k hk
 refine AOK (fun h=>?_) fun h=>?_
 ·have hk':k<xs.length:=by simpa using h
  have hset:=@Gz _ DRef.c xs [.v (.int .i64 0),.v (.int .i64 0),.v (.int .i64 0),.v (.int .i64 0),.v (.int .i64 0)] k hk'
  exact AIE
 ·have hk':k=xs.length:=by simp at h; omega
  subst hk'
  rw[G5]
  simp only[go_sem]
  simp[FZ (AY DRef.pure)]
theorem Ns (xs:List Int):Ctr prog 46 [.c (.sl (xs.map intC)),.c (.sl (xs.map intC))] [.val (.c (.v (.bool true)))]:=by
 refine CM call46 func46 ntmps46 results46 fun hw=>?_
 have hlen:xs.length≤9223372036854775807:=AO6
 simp only[go_sem,ae,az,aC]
 refine ABf 0 [0,1,5] (A:=Nat) (fun k=>⟨26,[(0,.c (.sl (xs.map intC))),(1,.c (.sl (xs.map intC))),(5,.c (.v (.int .i64 k)))],[]⟩) (fun k=>k≤xs.length) (fun k=>xs.length-k) 0 ⟨⟨rfl,rfl⟩,rfl,aA _⟩ ?_
 intro k hk
 refine AOK (fun h=>?_) fun h=>?_
 ·exact ALJ
 ·exact AI5
theorem lZ (xs:List Int):Ctr prog 250 [.c (.sl (xs.map byteC)),.c (.sl (xs.map byteC))] [.val (.c (.v (.bool true)))]:=by
 refine CM call250 func250 ntmps250 results250 fun hw=>?_
 have hlen:xs.length≤9223372036854775807:=AO6
 simp only[go_sem,ae,az,aC]
 refine ABf 0 [0,1,5] (A:=Nat) (fun k=>⟨26,[(0,.c (.sl (xs.map byteC))),(1,.c (.sl (xs.map byteC))),(5,.c (.v (.int .i64 k)))],[]⟩) (fun k=>k≤xs.length) (fun k=>xs.length-k) 0 ⟨⟨rfl,rfl⟩,rfl,aA _⟩ ?_
 intro k hk
 refine AOK (fun h=>?_) fun h=>?_
 ·exact ALJ
 ·exact AI5
theorem Tn (d:DVal):Ctr prog 317 [.agg d.c,.agg d.c] [.val (.c (.v (.bool true)))]:=by
 refine CM call317 func317 ntmps317 results317 fun _=>?_
 exact ALc
theorem AA2 {α:Type} {c:α→List Cl} (xs:List α) (hx:∀ x∈xs,Ctr prog 317 [.agg (c x),.agg (c x)] [.val (.c (.v (.bool true)))]) (hc:MB 3 c:=by intro x; first | exact⟨rfl,rfl,rfl⟩ | (simp only[go_sem]; done) | (simp only[go_sem]; exact⟨rfl,rfl,rfl⟩)):Ctr prog 251 [.c (.sl (xs.map c)),.c (.sl (xs.map c))] [.val (.c (.v (.bool true)))]:=by
 refine CM call251 func251 ntmps251 results251 fun hw=>?_
 exact AEU
theorem Nu (xs:List DVal):Ctr prog 251 [.c (.sl (xs.map DVal.c)),.c (.sl (xs.map DVal.c))] [.val (.c (.v (.bool true)))]:=AA2 xs fun x _=>Tn x
theorem wW (d:DRow):Ctr prog 319 [.agg d.c,.agg d.c] [.val (.c (.v (.bool true)))]:=by
 refine CM call319 func319 ntmps319 results319 fun _=>?_
 simp only[go_sem,az,aC]
 refine CW (Nu d.l) fun _=>?_
 exact ALc
theorem AA3 {α:Type} {c:α→List Cl} (xs:List α) (hx:∀ x∈xs,Ctr prog 319 [.agg (c x),.agg (c x)] [.val (.c (.v (.bool true)))]) (hc:MB 2 c:=by intro x; first | exact⟨rfl,rfl,rfl⟩ | (simp only[go_sem]; done) | (simp only[go_sem]; exact⟨rfl,rfl,rfl⟩)):Ctr prog 253 [.c (.sl (xs.map c)),.c (.sl (xs.map c))] [.val (.c (.v (.bool true)))]:=by
 refine CM call253 func253 ntmps253 results253 fun hw=>?_
 exact AEU
theorem Xg (xs:List DRow):Ctr prog 253 [.c (.sl (xs.map DRow.c)),.c (.sl (xs.map DRow.c))] [.val (.c (.v (.bool true)))]:=AA3 xs fun x _=>wW x
theorem wX {α:Type} {c:α→List Cl} (xs:List α) (hx:∀ x∈xs,Ctr prog 318 [.agg (c x),.agg (c x)] [.val (.c (.v (.bool true)))]) (hc:MB 7 c:=by intro x; first | exact⟨rfl,rfl,rfl⟩ | (simp only[go_sem]; done) | (simp only[go_sem]; exact⟨rfl,rfl,rfl⟩)):Ctr prog 366 [.c (.sl (xs.map c)),.c (.sl (xs.map c))] [.val (.c (.v (.bool true)))]:=by
 refine CM call366 func366 ntmps366 results366 fun hw=>?_
 exact AEU
theorem AA4 (d:DPred) (hx:∀ x∈d.l,Ctr prog 318 [.agg x.c,.agg x.c] [.val (.c (.v (.bool true)))]):Ctr prog 318 [.agg d.c,.agg d.c] [.val (.c (.v (.bool true)))]:=by
 refine CM call318 func318 ntmps318 results318 fun _=>?_
 simp only[go_sem,az,aC]
 refine CW (Tn d.v) fun _=>?_
 simp only[go_sem,az,aC]
 refine CW (wX d.l hx) fun _=>?_
 exact ALc
theorem Xh:∀ (n:Nat) (d:DPred),SizeOf.sizeOf d≤n→Ctr prog 318 [.agg d.c,.agg d.c] [.val (.c (.v (.bool true)))]
 | 0,d,h=>APf
 | n+1,d,h=>AA4 d fun x hx=>Xh n x (by
  have h1:SizeOf.sizeOf x<SizeOf.sizeOf d.l:=zg hx
  have h2:SizeOf.sizeOf d.l<SizeOf.sizeOf d:=APX
  omega)
theorem qZ (d:DPred):Ctr prog 318 [.agg d.c,.agg d.c] [.val (.c (.v (.bool true)))]:=Xh _ d (aT _)
theorem U0 (d:DQuery):Ctr prog 252 [.agg d.c,.agg d.c] [.val (.c (.v (.bool true)))]:=by
 refine CM call252 func252 ntmps252 results252 fun _=>?_
 simp only[go_sem,az,aC]
 refine CW (qZ d.p) fun _=>?_
 simp only[go_sem,az,aC]
 refine CW (Ns d.out) fun _=>?_
 exact ALc
theorem iJ (d:DResult):Ctr prog 254 [.agg d.c,.agg d.c] [.val (.c (.v (.bool true)))]:=by
 refine CM call254 func254 ntmps254 results254 fun _=>?_
 simp only[go_sem,az,aC]
 refine CW (Xg d.rows) fun _=>?_
 simp only[go_sem,az,aC]
 refine CW (Tn d.v) fun _=>?_
 exact ALc
theorem qc (d:DSlot):Ctr prog 365 [.agg d.c,.agg d.c] [.val (.c (.v (.bool true)))]:=by
 refine CM call365 func365 ntmps365 results365 fun _=>?_
 simp only[go_sem,az,aC]
 refine CW (Nu d.l) fun _=>?_
 exact ALc
theorem wY {α:Type} {c:α→List Cl} (xs:List α) (hx:∀ x∈xs,Ctr prog 365 [.agg (c x),.agg (c x)] [.val (.c (.v (.bool true)))]) (hc:MB 2 c:=by intro x; first | exact⟨rfl,rfl,rfl⟩ | (simp only[go_sem]; done) | (simp only[go_sem]; exact⟨rfl,rfl,rfl⟩)):Ctr prog 316 [.c (.sl (xs.map c)),.c (.sl (xs.map c))] [.val (.c (.v (.bool true)))]:=by
 refine CM call316 func316 ntmps316 results316 fun hw=>?_
 exact AEU
theorem lg (xs:List DSlot):Ctr prog 316 [.c (.sl (xs.map DSlot.c)),.c (.sl (xs.map DSlot.c))] [.val (.c (.v (.bool true)))]:=wY xs fun x _=>qc x
theorem lh (d:DChunk):Ctr prog 249 [.agg d.c,.agg d.c] [.val (.c (.v (.bool true)))]:=by
 refine CM call249 func249 ntmps249 results249 fun _=>?_
 simp only[go_sem,az,aC]
 refine CW (lg d.l) fun _=>?_
 exact ALc
theorem wZ (d:DBuf):Ctr prog 129 [.agg d.c,.agg d.c] [.val (.c (.v (.bool true)))]:=by
 refine CM call129 func129 ntmps129 results129 fun _=>?_
 simp only[go_sem,az,aC]
 refine CW (lh d.c0) fun _=>?_
 simp only[go_sem,az,aC]
 refine CW (lZ d.g) fun _=>?_
 exact ALc
theorem AA5 {α:Type} {c:α→List Cl} (xs:List α) (hx:∀ x∈xs,Ctr prog 129 [.agg (c x),.agg (c x)] [.val (.c (.v (.bool true)))]) (hc:MB 5 c:=by intro x; first | exact⟨rfl,rfl,rfl⟩ | (simp only[go_sem]; done) | (simp only[go_sem]; exact⟨rfl,rfl,rfl⟩)):Ctr prog 45 [.c (.sl (xs.map c)),.c (.sl (xs.map c))] [.val (.c (.v (.bool true)))]:=by
 refine CM call45 func45 ntmps45 results45 fun hw=>?_
 exact AEU
theorem qf (xs:List DBuf):Ctr prog 45 [.c (.sl (xs.map DBuf.c)),.c (.sl (xs.map DBuf.c))] [.val (.c (.v (.bool true)))]:=AA5 xs fun x _=>wZ x
theorem qg (d:DDead):Ctr prog 130 [.agg d.c,.agg d.c] [.val (.c (.v (.bool true)))]:=by
 refine CM call130 func130 ntmps130 results130 fun _=>?_
 exact ALc
theorem wo {α:Type} {c:α→List Cl} (xs:List α) (hx:∀ x∈xs,Ctr prog 130 [.agg (c x),.agg (c x)] [.val (.c (.v (.bool true)))]) (hc:MB 3 c:=by intro x; first | exact⟨rfl,rfl,rfl⟩ | (simp only[go_sem]; done) | (simp only[go_sem]; exact⟨rfl,rfl,rfl⟩)):Ctr prog 47 [.c (.sl (xs.map c)),.c (.sl (xs.map c))] [.val (.c (.v (.bool true)))]:=by
 refine CM call47 func47 ntmps47 results47 fun hw=>?_
 exact AEU
theorem lq (xs:List DDead):Ctr prog 47 [.c (.sl (xs.map DDead.c)),.c (.sl (xs.map DDead.c))] [.val (.c (.v (.bool true)))]:=wo xs fun x _=>qg x
theorem wu (d:DRef):Ctr prog 248 [.agg d.c,.agg d.c] [.val (.c (.v (.bool true)))]:=by
 refine CM call248 func248 ntmps248 results248 fun _=>?_
 exact ALc
theorem AA6 {α:Type} {c:α→List Cl} (xs:List α) (hx:∀ x∈xs,Ctr prog 248 [.agg (c x),.agg (c x)] [.val (.c (.v (.bool true)))]) (hc:MB 5 c:=by intro x; first | exact⟨rfl,rfl,rfl⟩ | (simp only[go_sem]; done) | (simp only[go_sem]; exact⟨rfl,rfl,rfl⟩)):Ctr prog 128 [.c (.sl (xs.map c)),.c (.sl (xs.map c))] [.val (.c (.v (.bool true)))]:=by
 refine CM call128 func128 ntmps128 results128 fun hw=>?_
 exact AEU
theorem Xi (xs:List DRef):Ctr prog 128 [.c (.sl (xs.map DRef.c)),.c (.sl (xs.map DRef.c))] [.val (.c (.v (.bool true)))]:=AA6 xs fun x _=>wu x
theorem ww (d:DDir):Ctr prog 44 [.agg d.c,.agg d.c] [.val (.c (.v (.bool true)))]:=by
 refine CM call44 func44 ntmps44 results44 fun _=>?_
 simp only[go_sem,az,aC]
 refine CW (Xi d.l) fun _=>?_
 exact ALc
theorem qi (d:DTask):Ctr prog 131 [.agg d.c,.agg d.c] [.val (.c (.v (.bool true)))]:=by
 refine CM call131 func131 ntmps131 results131 fun _=>?_
 simp only[go_sem,az,aC]
 refine CW (Nu d.r) fun _=>?_
 simp only[go_sem,az,aC]
 refine CW (U0 d.q) fun _=>?_
 simp only[go_sem,az,aC]
 refine CW (Xi d.l) fun _=>?_
 simp only[go_sem,az,aC]
 refine CW (Xg d.got) fun _=>?_
 exact ALc
theorem w_ {α:Type} {c:α→List Cl} (xs:List α) (hx:∀ x∈xs,Ctr prog 131 [.agg (c x),.agg (c x)] [.val (.c (.v (.bool true)))]) (hc:MB 25 c:=by intro x; first | exact⟨rfl,rfl,rfl⟩ | (simp only[go_sem]; done) | (simp only[go_sem]; exact⟨rfl,rfl,rfl⟩)):Ctr prog 48 [.c (.sl (xs.map c)),.c (.sl (xs.map c))] [.val (.c (.v (.bool true)))]:=by
 refine CM call48 func48 ntmps48 results48 fun hw=>?_
 exact AEU
theorem lu (xs:List DTask):Ctr prog 48 [.c (.sl (xs.map DTask.c)),.c (.sl (xs.map DTask.c))] [.val (.c (.v (.bool true)))]:=w_ xs fun x _=>qi x
theorem qj (d:DDeed):Ctr prog 132 [.agg d.c,.agg d.c] [.val (.c (.v (.bool true)))]:=by
 refine CM call132 func132 ntmps132 results132 fun _=>?_
 simp only[go_sem,az,aC]
 refine CW (Nu d.r) fun _=>?_
 simp only[go_sem,az,aC]
 refine CW (U0 d.q) fun _=>?_
 simp only[go_sem,az,aC]
 refine CW (iJ d.res) fun _=>?_
 exact ALc
theorem xA {α:Type} {c:α→List Cl} (xs:List α) (hx:∀ x∈xs,Ctr prog 132 [.agg (c x),.agg (c x)] [.val (.c (.v (.bool true)))]) (hc:MB 25 c:=by intro x; first | exact⟨rfl,rfl,rfl⟩ | (simp only[go_sem]; done) | (simp only[go_sem]; exact⟨rfl,rfl,rfl⟩)):Ctr prog 49 [.c (.sl (xs.map c)),.c (.sl (xs.map c))] [.val (.c (.v (.bool true)))]:=by
 refine CM call49 func49 ntmps49 results49 fun hw=>?_
 exact AEU
theorem lw (xs:List DDeed):Ctr prog 49 [.c (.sl (xs.map DDeed.c)),.c (.sl (xs.map DDeed.c))] [.val (.c (.v (.bool true)))]:=xA xs fun x _=>qj x
theorem ql (d:DConf):Ctr prog 43 [.agg d.c,.agg d.c] [.val (.c (.v (.bool true)))]:=by
 refine CM call43 func43 ntmps43 results43 fun _=>?_
 simp only[go_sem,az,aC]
 refine CW (Ns d.cols) fun _=>?_
 exact ALc
theorem MK (d:DWorld):Ctr prog 11 [.agg d.c,.agg d.c] [.val (.c (.v (.bool true)))]:=by
 refine CM call11 func11 ntmps11 results11 fun _=>?_
 simp only[go_sem,az,aC]
 refine CW (ql d.c0) fun _=>?_
 simp only[go_sem,az,aC]
 refine CW (ww d.d) fun _=>?_
 simp only[go_sem,az,aC]
 refine CW (qf d.b) fun _=>?_
 simp only[go_sem,az,aC]
 refine CW (Ns d.m) fun _=>?_
 simp only[go_sem,az,aC]
 refine CW (lq d.x) fun _=>?_
 simp only[go_sem,az,aC]
 refine CW (Ns d.p) fun _=>?_
 simp only[go_sem,az,aC]
 refine CW (lu d.tasks) fun _=>?_
 simp only[go_sem,az,aC]
 refine CW (lw d.deeds) fun _=>?_
 exact ALc
end Go.Proofs.YtnoldekcdlaahaaGreat
