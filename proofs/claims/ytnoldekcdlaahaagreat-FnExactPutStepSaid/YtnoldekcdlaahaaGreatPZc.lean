/- A part. -/
import Derived.Test.YtnoldekcdlaahaaGreatPZa
set_option linter.unusedSimpArgs false
set_option linter.unusedVariables false
set_option maxHeartbeats 4000000
set_option maxRecDepth 10000
open Go.Proofs.Tryz
namespace Go.Proofs.YtnoldekcdlaahaaGreat
open Go.Vm
def Nc:List Int→List Int→Bool
 | [],[]=>true
 | a::l,b::m=>(a==b)&&Nc l m
 | _,_=>false
theorem XN:∀ (a b:List Int),a.length≠b.length→Nc a b=false
 | [],[],h=>AOx
 | [],_::_,_=>rfl
 | _::_,[],_=>rfl
 | a::l,b::m,h=>by simp only[Nc]; rw[XN l m AOz]; simp
theorem fV (a b:List Int) {k:Nat} (h1:k<a.length) (h2:k<b.length):Nc (a.drop k) (b.drop k)=((a[k]==b[k])&&Nc (a.drop (k+1)) (b.drop (k+1))):=by
 rw[aG h1,aG h2]; rfl
theorem fZ (a b:List Int) (ha:a.length≤1048576) (hb:b.length≤1048576):Ctr prog 364 [.c (.sl (a.map intC)),.c (.sl (b.map intC))] [.val (.c (.v (.bool (Nc a b))))]:=by
 refine CM call364 func364 ntmps364 results364 fun hw=>?_
 refine AOJ (fun h=>?_) fun h=>?_
 ·simp only[go_sem]
  rw[XN a b AOc]
 ·have he:a.length=b.length:=by simp at h; omega
  simp only[go_sem]
  refine ABK 0 (A:=Nat) (fun k=>[(13,.c (.v (.int .i64 (k))))]) (fun _=>[]) (fun k=>k≤a.length∧Nc (a.drop k) (b.drop k)=Nc a b) (fun k=>a.length-k) 0 ⟨⟨rfl,rfl⟩,rfl,aA _,rfl⟩ ?_
  exact AG9
theorem f_ (a b:List Int) (ha:a.length≤1048576) (hb:b.length≤1048576):Ctr prog 352 [.c (.sl (a.map intC)),.c (.sl (b.map intC))] [.val (.c (.v (.bool (Nc a b))))]:=by
 refine CM call352 func352 ntmps352 results352 fun hw=>?_
 refine AOJ (fun h=>?_) fun h=>?_
 ·simp only[go_sem]
  rw[XN a b AOc]
 ·have he:a.length=b.length:=by simp at h; omega
  simp only[go_sem]
  refine ABK 0 (A:=Nat) (fun k=>[(5,.c (.v (.int .i64 (k))))]) (fun _=>[]) (fun k=>k≤a.length∧Nc (a.drop k) (b.drop k)=Nc a b) (fun k=>a.length-k) 0 ⟨⟨rfl,rfl⟩,rfl,aA _,rfl⟩ ?_
  exact AG9
mutual
def OE:DPred→DPred→Bool
 | .mk k c o v l,q=>(k==q.kind)&&((c==q.col)&&((o==q.op)&&(ND v q.v&&H8 l q.l)))
def H8:List DPred→List DPred→Bool
 | [],[]=>true
 | a::l,b::m=>OE a b&&H8 l m
 | _,_=>false
end
theorem gB (p q:DPred):OE p q=((p.kind==q.kind)&&((p.col==q.col)&&((p.op==q.op)&&(ND p.v q.v&&H8 p.l q.l)))):=by
 cases p
 rw[OE]
 rfl
theorem UV:∀ (a b:List DPred),a.length≠b.length→H8 a b=false
 | [],[],h=>AOx
 | [],_::_,_=>by rw[H8]<;>simp
 | _::_,[],_=>by rw[H8]<;>simp
 | a::l,b::m,h=>by rw[H8,UV l m AOz]; simp
theorem YD (a b:List DPred) {k:Nat} (h1:k<a.length) (h2:k<b.length):H8 (a.drop k) (b.drop k)=(OE a[k] b[k]&&H8 (a.drop (k+1)) (b.drop (k+1))):=by
 rw[aG h1,aG h2,H8]
def gG (p:DPred):List Cl:=[.v (.int .i64 p.kind),.v (.int .i64 p.col),.v (.int .i64 p.op),.v (.int .i64 p.v.ty),.v (.int .i64 p.v.n),.v (.string p.v.s),.sl (p.l.map DPred.c)]
@[go_sem] theorem AJq (p:DPred):gG p = [.v (.int .i64 p.kind),.v (.int .i64 p.col),.v (.int .i64 p.op),.v (.int .i64 p.v.ty),.v (.int .i64 p.v.n),.v (.string p.v.s),.sl (p.l.map DPred.c)]:=rfl
theorem AB8 (p q:DPred) (hp:BD p) (hq:BD q) (hx:∀ x∈p.l,∀ y∈q.l,Ctr prog 363 [.agg x.c,.agg y.c] [.val (.c (.v (.bool (OE x y))))]):Ctr prog 363 [.agg p.c,.agg q.c] [.val (.c (.v (.bool (OE p q))))]:=by
 refine CM call363 func363 ntmps363 results363 fun hw=>?_
 have hpl:p.l.length≤1048576:=APk
 have hql:q.l.length≤1048576:=by rw[Bg] at hq; exact hq.2.1
 rw[gB p q]
 have e1:(p.v.ty==q.v.ty&&(p.v.n==q.v.n&&p.v.s.toList==q.v.s.toList))=ND p.v q.v:=rfl
 rcases h1:p.kind==q.kind with _ | _
 ·exact AN0
 have g1:(p.kind != q.kind)=false:=AP2
 rcases h2:p.col==q.col with _ | _
 ·exact ANo
 have g2:(p.col != q.col)=false:=by simp[bne,h2]
 rcases h3:p.op==q.op with _ | _
 ·exact ANc
 have g3:(p.op != q.op)=false:=by simp[bne,h3]
 rcases h4:ND p.v q.v with _ | _
 ·simp only[go_sem,h1,g1,h2,g2,h3,g3,e1,h4,ES,IL,aN,aS,ag,aj]
 simp only[go_sem,h1,g1,h2,g2,h3,g3,e1,h4,ES,IL,aN,aP,aj]
 refine ABG (fun h=>?_) (fun h=>?_)
 ·simp only[go_sem]
  rw[UV p.l q.l AOc]
 have he:p.l.length=q.l.length:=AOc
 simp only[go_sem]
 refine ABK 2 (A:=Nat) (fun k=>[(44,.c (.v (.int .i64 (k))))]) (fun _=>[⟨67,7,[gG p],true,true⟩,⟨67,7,[gG q],true,true⟩]) (fun k=>k≤p.l.length∧H8 (p.l.drop k) (q.l.drop k)=H8 p.l q.l) (fun k=>p.l.length-k) 0 ⟨⟨rfl,rfl⟩,rfl,aA _,rfl⟩ ?_
 exact AIB
theorem AB9 (p q:DPred) (hp:BD p) (hq:BD q) (hx:∀ x∈p.l,∀ y∈q.l,Ctr prog 353 [.agg x.c,.agg y.c] [.val (.c (.v (.bool (OE x y))))]):Ctr prog 353 [.agg p.c,.agg q.c] [.val (.c (.v (.bool (OE p q))))]:=by
 refine CM call353 func353 ntmps353 results353 fun hw=>?_
 have hpl:p.l.length≤1048576:=APk
 have hql:q.l.length≤1048576:=by rw[Bg] at hq; exact hq.2.1
 rw[gB p q]
 have e1:(p.v.ty==q.v.ty&&(p.v.n==q.v.n&&p.v.s.toList==q.v.s.toList))=ND p.v q.v:=rfl
 rcases h1:p.kind==q.kind with _ | _
 ·exact AN0
 have g1:(p.kind != q.kind)=false:=AP2
 rcases h2:p.col==q.col with _ | _
 ·exact ANo
 have g2:(p.col != q.col)=false:=by simp[bne,h2]
 rcases h3:p.op==q.op with _ | _
 ·exact ANc
 have g3:(p.op != q.op)=false:=by simp[bne,h3]
 rcases h4:ND p.v q.v with _ | _
 ·simp only[go_sem,h1,g1,h2,g2,h3,g3,e1,h4,ES,IL,aN,aS,ag,aj]
 simp only[go_sem,h1,g1,h2,g2,h3,g3,e1,h4,ES,IL,aN,aP,aj]
 refine ABG (fun h=>?_) (fun h=>?_)
 ·simp only[go_sem]
  rw[UV p.l q.l AOc]
 have he:p.l.length=q.l.length:=AOc
 simp only[go_sem]
 refine ABK 2 (A:=Nat) (fun k=>[(5,.c (.v (.int .i64 (k))))]) (fun _=>[⟨67,7,[gG p],true,true⟩,⟨67,7,[gG q],true,true⟩]) (fun k=>k≤p.l.length∧H8 (p.l.drop k) (q.l.drop k)=H8 p.l q.l) (fun k=>p.l.length-k) 0 ⟨⟨rfl,rfl⟩,rfl,aA _,rfl⟩ ?_
 exact AIB
theorem vT {C:DPred→DPred→Prop} (h:∀ p q,BD p→BD q→(∀ x∈p.l,∀ y∈q.l,C x y)→C p q):∀ (n:Nat) (p q:DPred),SizeOf.sizeOf p≤n→BD p→BD q→C p q:=by
 intro n
 induction n with
 | zero=>intro p q h; cases p; simp at h
 | succ n ih =>
  intro p q hs hp hq
  refine h p q hp hq fun x hx y hy=>ih x y ?_ ?_ ?_
  ·exact AMY
  ·rw[Bg] at hp; exact hp.2.2 x hx
  ·rw[Bg] at hq; exact hq.2.2 y hy
theorem vU (p q:DPred) (hp:BD p) (hq:BD q):Ctr prog 363 [.agg p.c,.agg q.c] [.val (.c (.v (.bool (OE p q))))]:=vT AB8 _ p q (aT _) hp hq
theorem vV (p q:DPred) (hp:BD p) (hq:BD q):Ctr prog 353 [.agg p.c,.agg q.c] [.val (.c (.v (.bool (OE p q))))]:=vT AB9 _ p q (aT _) hp hq
def V3 (a b:DQuery):Bool:=(a.kind==b.kind)&&(OE a.p b.p&&((a.col==b.col)&&Nc a.out b.out))
theorem RS (a b:DQuery) (ha:Eh a) (hb:Eh b):Ctr prog 312 [.agg a.c,.agg b.c] [.val (.c (.v (.bool (V3 a b))))]:=by
 refine CM call312 func312 ntmps312 results312 fun hw=>?_
 rw[GI] at ha hb
 unfold V3
 rcases h1:a.kind==b.kind with _ | _
 ·exact ALu
 simp only[go_sem,h1]
 refine CW (vU a.p b.p ha.1 hb.1) fun _=>?_
 rcases h2:OE a.p b.p with _ | _
 ·simp only[go_sem,h1,h2,ag,aj]
 rcases h3:a.col==b.col with _ | _
 ·simp only[go_sem,h1,h2,h3,ag,aj]
 simp only[go_sem,h1,h2,h3]
 refine AAM _ (fZ a.out b.out ha.2 hb.2) fun _=>?_
 simp only[go_sem,aj]
theorem YE (a b:DQuery) (ha:Eh a) (hb:Eh b):Ctr prog 299 [.agg a.c,.agg b.c] [.val (.c (.v (.bool (V3 a b))))]:=by
 refine CM call299 func299 ntmps299 results299 fun hw=>?_
 rw[GI] at ha hb
 unfold V3
 rcases h1:a.kind==b.kind with _ | _
 ·exact ALu
 rcases h3:a.col==b.col with _ | _
 ·simp only[go_sem,h1,h3,ag,aK]
 simp only[go_sem,h1,h3]
 refine AAM _ (f_ a.out b.out ha.2 hb.2) fun _=>?_
 rcases h2:Nc a.out b.out with _ | _
 ·simp only[go_sem,h1,h2,h3,aK]
 simp only[go_sem,h1,h2,h3]
 refine CW (vV a.p b.p ha.1 hb.1) fun _=>?_
 simp only[go_sem,aj,aN]
def G7:DPred:=.mk 0 0 0 ⟨0,0,ByteArray.empty⟩ []
def Gh:DQuery:=⟨0,G7,0,[]⟩
def pJ (v:DVal):Bool:=(v.ty==0)&&((v.n==0)&&(v.s.toList==ByteArray.empty.toList))
def noQ (q:DQuery):Bool:=(q.kind==0)&&((q.col==0)&&(((q.out.length:Int)==0)&&((q.p.kind==0)&&((q.p.col==0)&&((q.p.op==0)&&(pJ q.p.v&&((q.p.l.length:Int)==0)))))))
theorem AB_ (l:List Int):Nc l []=((l.length:Int)==0):=by
 cases l with
 | nil=>rfl
 | cons a l=>symm; simp only[Nc,aI,beq_eq_false_iff_ne]; omega
theorem y_ (l:List DPred):H8 l []=((l.length:Int)==0):=by
 cases l with
 | nil=>rw[H8]; rfl
 | cons a l =>
  rw[H8]<;>simp
  omega
theorem AHs (q:DQuery):V3 q Gh=noQ q:=by
 have e:ND q.p.v ⟨0,0,ByteArray.empty⟩=pJ q.p.v:=rfl
 simp only[V3,gB,noQ,Gh,AB_,G7,DPred.kind,DPred.col,DPred.op,DPred.v,DPred.l,y_]
 simp only[DPred.v] at e
 rw[e]
 simp only[Bool.and_assoc]
 rcases q.kind==0<;>rcases q.col==0<;>rcases((q.out.length:Int)==0)<;>simp only[ag,aj,aK,aN]
theorem ACA (q:DQuery):Ctr prog 349 [.agg q.c] [.val (.c (.v (.bool (noQ q))))]:=by
 refine CM call349 func349 ntmps349 results349 fun hw=>?_
 have e1:(q.p.v.ty==0&&(q.p.v.n==0&&q.p.v.s.toList==ByteArray.empty.toList))=pJ q.p.v:=rfl
 rcases h1:q.kind==0 with _ | _
 ·simp only[go_sem,bD,aU,aO,h1,e1,ES,IL,aN,noQ,ag,aj]
 rcases h2:q.col==0 with _ | _
 ·simp only[go_sem,bD,aU,aO,h1,h2,e1,ES,IL,aN,noQ,ag,aj]
 rcases h3:((q.out.length:Int)==0) with _ | _
 ·simp only[go_sem,bD,aU,aO,h1,h2,h3,e1,ES,IL,aN,noQ,ag,aj]
 rcases h4:q.p.kind==0 with _ | _
 ·simp only[go_sem,bD,aU,aO,h1,h2,h3,h4,e1,ES,IL,aN,noQ,ag,aj]
 rcases h5:q.p.col==0 with _ | _
 ·simp only[go_sem,bD,aU,aO,h1,h2,h3,h4,h5,e1,ES,IL,aN,noQ,ag,aj]
 rcases h6:q.p.op==0 with _ | _
 ·simp only[go_sem,bD,aU,aO,h1,h2,h3,h4,h5,h6,e1,ES,IL,aN,noQ,ag,aj]
 rcases h7:pJ q.p.v with _ | _
 ·simp only[go_sem,bD,aU,aO,h1,h2,h3,h4,h5,h6,h7,e1,ES,IL,aN,noQ,ag,aj]
 simp only[go_sem,h1,h2,h3,h4,h5,h6,h7,e1,ES,IL,aN,noQ,aj]
theorem ACB:Eh Gh:=by
 rw[GI]
 refine⟨?_,aA _⟩
 show BD G7
 rw[Bg]
 exact⟨by simp[Gj,G7,DPred.v],aA _,fun x hx=>by cases hx⟩
def C9 (t:DTask):Bool:=((t.pc==0)&&((t.h==0)&&((((t.r.length:Int)==0))&&((t.id==0)&&((noQ t.q)&&((t.ts==0)&&((t.ver==0)&&((((t.l.length:Int)==0))&&((t.i==0)&&((t.j==0)&&((t.s==0)&&((t.at0==0)&&((t.own==0)&&((!t.won)&&(((t.got.length:Int)==0))))))))))))))))
theorem vW (t:DTask) (hq:Eh t.q):Ctr prog 308 [.agg t.c] [.val (.c (.v (.bool (C9 t))))]:=by
 refine CM call308 func308 ntmps308 results308 fun hw=>?_
 rcases kpc:t.pc==0 with _ | _
 ·simp only[go_sem,bD,aU,aO,kpc,C9,ag,aj]
 rcases kh:t.h==0 with _ | _
 ·simp only[go_sem,bD,aU,aO,kpc,kh,C9,ag,aj]
 rcases kr:((t.r.length:Int)==0) with _ | _
 ·simp only[go_sem,bD,aU,aO,kpc,kh,kr,C9,ag,aj]
 rcases kid:t.id==0 with _ | _
 ·simp only[go_sem,bD,aU,aO,kpc,kh,kr,kid,C9,ag,aj]
 simp only[go_sem,bD,aU,aO,kpc,kh,kr,kid]
 refine AAM _ (by have:=RS t.q Gh hq ACB; rw[AHs] at this; simpa only[go_sem,Gh,G7,DPred.kind,DPred.col,DPred.op,DPred.v,DPred.l,di] using this) fun _=>?_
 exact AGI
theorem vX (t:DTask) (hq:Eh t.q):Ctr prog 295 [.agg t.c] [.val (.c (.v (.bool (C9 t))))]:=by
 refine CM call295 func295 ntmps295 results295 fun hw=>?_
 rcases kpc:t.pc==0 with _ | _
 ·simp only[go_sem,bD,aU,aO,kpc,C9,ag,aj]
 rcases kh:t.h==0 with _ | _
 ·simp only[go_sem,bD,aU,aO,kpc,kh,C9,ag,aj]
 rcases kr:((t.r.length:Int)==0) with _ | _
 ·simp only[go_sem,bD,aU,aO,kpc,kh,kr,C9,ag,aj]
 rcases kid:t.id==0 with _ | _
 ·simp only[go_sem,bD,aU,aO,kpc,kh,kr,kid,C9,ag,aj]
 simp only[go_sem,bD,aU,aO,kpc,kh,kr,kid]
 refine CW (ACA t.q) fun _=>?_
 exact AGI
end Go.Proofs.YtnoldekcdlaahaaGreat
