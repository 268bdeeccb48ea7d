/- A part. -/
import Derived.Test.YtdagmocgcanknaaGreatZa
set_option linter.unusedSimpArgs false
set_option linter.unusedVariables false
set_option maxHeartbeats 4000000
set_option maxRecDepth 10000
open Go.Proofs.Tryz
namespace Go.Proofs.YtdagmocgcanknaaGreat
open Go.Vm
def OH:List Int->List Int->Bool
 | [],[]=>true
 | a::l,b::m=>(a==b)&&OH l m
 | _,_=>false
theorem X9:∀ (a b:List Int),a.length≠b.length->OH a b=false
 | [],[],h=>APN
 | [],_::_,_=>rfl
 | _::_,[],_=>rfl
 | a::l,b::m,h=>by simp only[OH]; rw[X9 l m APO]; simp
theorem iC (a b:List Int) {k:Nat} (h1:k<a.length) (h2:k<b.length):OH (a.drop k) (b.drop k)=((a[k]==b[k])&&OH (a.drop (k+1)) (b.drop (k+1))):=by rw[aB h1,aB h2]; rfl
theorem iD (a b:List Int) (ha:a.length<=1048576) (hb:b.length<=1048576):Ctr prog 298 [.c (.sl (a.map intC)),.c (.sl (b.map intC))] [.val (.c (.v (.bool (OH a b))))]:=by
 refine CM call298 func298 ntmps298 results298 fun hw=>?_;refine AOd (fun h=>?_) fun h=>?_
 .simp only[go_sem];rw[X9 a b AO1]
 .have he:a.length=b.length:=by simp at h; omega
  simp only[go_sem];refine AAe 0 (A:=Nat) (fun k=>[(13,.c (.v (.int .i64 (k))))]) (fun _=>[]) (fun k=>k<=a.length/\OH (a.drop k) (b.drop k)=OH a b) (fun k=>a.length-k) 0 ⟨⟨rfl,rfl⟩,rfl,aq _,rfl⟩ ?_;exact AHf
theorem iE (a b:List Int) (ha:a.length<=1048576) (hb:b.length<=1048576):Ctr prog 281 [.c (.sl (a.map intC)),.c (.sl (b.map intC))] [.val (.c (.v (.bool (OH a b))))]:=by
 refine CM call281 func281 ntmps281 results281 fun hw=>?_;refine AOd (fun h=>?_) fun h=>?_
 .simp only[go_sem];rw[X9 a b AO1]
 .have he:a.length=b.length:=by simp at h; omega
  simp only[go_sem];refine AAe 0 (A:=Nat) (fun k=>[(5,.c (.v (.int .i64 (k))))]) (fun _=>[]) (fun k=>k<=a.length/\OH (a.drop k) (b.drop k)=OH a b) (fun k=>a.length-k) 0 ⟨⟨rfl,rfl⟩,rfl,aq _,rfl⟩ ?_;exact AHf
mutual
def Oz:DPred->DPred->Bool
 | .mk k c o v l,q=>(k==q.kind)&&((c==q.col)&&((o==q.op)&&(N7 v q.v&&IG l q.l)))
def IG:List DPred->List DPred->Bool
 | [],[]=>true
 | a::l,b::m=>Oz a b&&IG l m
 | _,_=>false
end
theorem iF (p q:DPred):Oz p q=((p.kind==q.kind)&&((p.col==q.col)&&((p.op==q.op)&&(N7 p.v q.v&&IG p.l q.l)))):=by cases p;rw[Oz];rfl
theorem U3:∀ (a b:List DPred),a.length≠b.length->IG a b=false
 | [],[],h=>APN
 | [],_::_,_=>by rw[IG]<;>simp
 | _::_,[],_=>by rw[IG]<;>simp
 | a::l,b::m,h=>by rw[IG,U3 l m APO]; simp
theorem Y6 (a b:List DPred) {k:Nat} (h1:k<a.length) (h2:k<b.length):IG (a.drop k) (b.drop k)=(Oz a[k] b[k]&&IG (a.drop (k+1)) (b.drop (k+1))):=by rw[aB h1,aB h2,IG]
def iG (p:DPred):List Cl:=[.v (.int .i64 p.kind),.v (.int .i64 p.col),.v (.int .i64 p.op),.v (.int .i64 p.v.ty),.v (.int .i64 p.v.n),.v (.string p.v.s),.sl (p.l.map DPred.c)]
@[go_sem] theorem AJx (p:DPred):iG p = [.v (.int .i64 p.kind),.v (.int .i64 p.col),.v (.int .i64 p.op),.v (.int .i64 p.v.ty),.v (.int .i64 p.v.n),.v (.string p.v.s),.sl (p.l.map DPred.c)]:=rfl
theorem ACU (p q:DPred) (hp:BF p) (hq:BF q) (hx:∀ x∈p.l,∀ y∈q.l,Ctr prog 297 [.agg x.c,.agg y.c] [.val (.c (.v (.bool (Oz x y))))]):Ctr prog 297 [.agg p.c,.agg q.c] [.val (.c (.v (.bool (Oz p q))))]:=by
 refine CM call297 func297 ntmps297 results297 fun hw=>?_;have hpl:p.l.length<=1048576:=AQB;have hql:q.l.length<=1048576:=by rw[Bc] at hq; exact hq.2.1
 rw[iF p q];have e1:(p.v.ty==q.v.ty&&(p.v.n==q.v.n&&p.v.s.toList==q.v.s.toList))=N7 p.v q.v:=rfl;rcases h1:p.kind==q.kind with _ | _
 .exact AOC
 have g1:(p.kind != q.kind)=false:=AQf;rcases h2:p.col==q.col with _ | _
 .exact AN0
 have g2:(p.col != q.col)=false:=by simp[bne,h2]
 rcases h3:p.op==q.op with _ | _
 .exact ANp
 have g3:(p.op != q.op)=false:=by simp[bne,h3]
 rcases h4:N7 p.v q.v with _ | _
 .simp only[go_sem,h1,g1,h2,g2,h3,g3,e1,h4,EW,IZ,aw,aH,ac,ah]
 simp only[go_sem,h1,g1,h2,g2,h3,g3,e1,h4,EW,IZ,aw,aD,ah];refine AAQ (fun h=>?_) (fun h=>?_)
 .simp only[go_sem];rw[U3 p.l q.l AO1]
 have he:p.l.length=q.l.length:=AO1;simp only[go_sem];refine AAe 2 (A:=Nat) (fun k=>[(44,.c (.v (.int .i64 (k))))]) (fun _=>[⟨115,7,[iG p],true,true⟩,⟨115,7,[iG q],true,true⟩]) (fun k=>k<=p.l.length/\IG (p.l.drop k) (q.l.drop k)=IG p.l q.l) (fun k=>p.l.length-k) 0 ⟨⟨rfl,rfl⟩,rfl,aq _,rfl⟩ ?_;exact AH9
theorem ACV (p q:DPred) (hp:BF p) (hq:BF q) (hx:∀ x∈p.l,∀ y∈q.l,Ctr prog 282 [.agg x.c,.agg y.c] [.val (.c (.v (.bool (Oz x y))))]):Ctr prog 282 [.agg p.c,.agg q.c] [.val (.c (.v (.bool (Oz p q))))]:=by
 refine CM call282 func282 ntmps282 results282 fun hw=>?_;have hpl:p.l.length<=1048576:=AQB;have hql:q.l.length<=1048576:=by rw[Bc] at hq; exact hq.2.1
 rw[iF p q];have e1:(p.v.ty==q.v.ty&&(p.v.n==q.v.n&&p.v.s.toList==q.v.s.toList))=N7 p.v q.v:=rfl;rcases h1:p.kind==q.kind with _ | _
 .exact AOC
 have g1:(p.kind != q.kind)=false:=AQf;rcases h2:p.col==q.col with _ | _
 .exact AN0
 have g2:(p.col != q.col)=false:=by simp[bne,h2]
 rcases h3:p.op==q.op with _ | _
 .exact ANp
 have g3:(p.op != q.op)=false:=by simp[bne,h3]
 rcases h4:N7 p.v q.v with _ | _
 .simp only[go_sem,h1,g1,h2,g2,h3,g3,e1,h4,EW,IZ,aw,aH,ac,ah]
 simp only[go_sem,h1,g1,h2,g2,h3,g3,e1,h4,EW,IZ,aw,aD,ah];refine AAQ (fun h=>?_) (fun h=>?_)
 .simp only[go_sem];rw[U3 p.l q.l AO1]
 have he:p.l.length=q.l.length:=AO1;simp only[go_sem];refine AAe 2 (A:=Nat) (fun k=>[(5,.c (.v (.int .i64 (k))))]) (fun _=>[⟨115,7,[iG p],true,true⟩,⟨115,7,[iG q],true,true⟩]) (fun k=>k<=p.l.length/\IG (p.l.drop k) (q.l.drop k)=IG p.l q.l) (fun k=>p.l.length-k) 0 ⟨⟨rfl,rfl⟩,rfl,aq _,rfl⟩ ?_;exact AH9
theorem wS {C:DPred->DPred->Prop} (h:∀ p q,BF p->BF q->(∀ x∈p.l,∀ y∈q.l,C x y)->C p q):∀ (n:Nat) (p q:DPred),SizeOf.sizeOf p<=n->BF p->BF q->C p q:=by
 intro n;induction n with
 | zero=>intro p q h; cases p; simp at h
 | succ n ih =>
  intro p q hs hp hq
  refine h p q hp hq fun x hx y hy=>ih x y ?_ ?_ ?_
  .exact AMg
  .rw[Bc] at hp; exact hp.2.2 x hx
  .rw[Bc] at hq; exact hq.2.2 y hy
theorem wU (p q:DPred) (hp:BF p) (hq:BF q):Ctr prog 297 [.agg p.c,.agg q.c] [.val (.c (.v (.bool (Oz p q))))]:=wS ACU _ p q (aG _) hp hq
theorem wV (p q:DPred) (hp:BF p) (hq:BF q):Ctr prog 282 [.agg p.c,.agg q.c] [.val (.c (.v (.bool (Oz p q))))]:=wS ACV _ p q (aG _) hp hq
def Wl (a b:DQuery):Bool:=(a.kind==b.kind)&&(Oz a.p b.p&&((a.col==b.col)&&OH a.out b.out))
theorem Sm (a b:DQuery) (ha:En a) (hb:En b):Ctr prog 257 [.agg a.c,.agg b.c] [.val (.c (.v (.bool (Wl a b))))]:=by
 refine CM call257 func257 ntmps257 results257 fun hw=>?_;rw[GY] at ha hb;unfold Wl;rcases h1:a.kind==b.kind with _ | _
 .exact AL1
 simp only[go_sem,h1];refine CW (wU a.p b.p ha.1 hb.1) fun _=>?_;rcases h2:Oz a.p b.p with _ | _
 .simp only[go_sem,h1,h2,ac,ah]
 rcases h3:a.col==b.col with _ | _
 .simp only[go_sem,h1,h2,h3,ac,ah]
 simp only[go_sem,h1,h2,h3];refine AAO _ (iD a.out b.out ha.2 hb.2) fun _=>?_;simp only[go_sem,ah]
theorem Y7 (a b:DQuery) (ha:En a) (hb:En b):Ctr prog 234 [.agg a.c,.agg b.c] [.val (.c (.v (.bool (Wl a b))))]:=by
 refine CM call234 func234 ntmps234 results234 fun hw=>?_;rw[GY] at ha hb;unfold Wl;rcases h1:a.kind==b.kind with _ | _
 .exact AL1
 rcases h3:a.col==b.col with _ | _
 .simp only[go_sem,h1,h3,ac,ay]
 simp only[go_sem,h1,h3];refine AAO _ (iE a.out b.out ha.2 hb.2) fun _=>?_;rcases h2:OH a.out b.out with _ | _
 .simp only[go_sem,h1,h2,h3,ay]
 simp only[go_sem,h1,h2,h3];refine CW (wV a.p b.p ha.1 hb.1) fun _=>?_;simp only[go_sem,ah,aw]
def O0:DPred:=.mk 0 0 0 ⟨0,0,ByteArray.empty⟩ []
def J5:DQuery:=⟨0,O0,0,[]⟩
def qN (v:DVal):Bool:=(v.ty==0)&&((v.n==0)&&(v.s.toList==ByteArray.empty.toList))
def noQ (q:DQuery):Bool:=(q.kind==0)&&((q.col==0)&&(((q.out.length:Int)==0)&&((q.p.kind==0)&&((q.p.col==0)&&((q.p.op==0)&&(qN q.p.v&&((q.p.l.length:Int)==0)))))))
theorem ACW (l:List Int):OH l []=((l.length:Int)==0):=by
 cases l with
 | nil=>rfl
 | cons a l=>symm; simp only[OH,ag,beq_eq_false_iff_ne]; omega
theorem zT (l:List DPred):IG l []=((l.length:Int)==0):=by
 cases l with
 | nil=>rw[IG]; rfl
 | cons a l =>
  rw[IG]<;>simp
  omega
theorem AHt (q:DQuery):Wl q J5=noQ q:=by have e:N7 q.p.v ⟨0,0,ByteArray.empty⟩=qN q.p.v:=rfl;simp only[Wl,iF,noQ,J5,ACW,O0,DPred.kind,DPred.col,DPred.op,DPred.v,DPred.l,zT];simp only[DPred.v] at e;rw[e];simp only[Bool.and_assoc];rcases q.kind==0<;>rcases q.col==0<;>rcases((q.out.length:Int)==0)<;>simp only[ac,ah,ay,aw]
theorem ACX (q:DQuery):Ctr prog 278 [.agg q.c] [.val (.c (.v (.bool (noQ q))))]:=by
 refine CM call278 func278 ntmps278 results278 fun hw=>?_;have e1:(q.p.v.ty==0&&(q.p.v.n==0&&q.p.v.s.toList==ByteArray.empty.toList))=qN q.p.v:=rfl;rcases h1:q.kind==0 with _ | _
 .simp only[go_sem,aW,aJ,aA,h1,e1,EW,IZ,aw,noQ,ac,ah]
 rcases h2:q.col==0 with _ | _
 .simp only[go_sem,aW,aJ,aA,h1,h2,e1,EW,IZ,aw,noQ,ac,ah]
 rcases h3:((q.out.length:Int)==0) with _ | _
 .simp only[go_sem,aW,aJ,aA,h1,h2,h3,e1,EW,IZ,aw,noQ,ac,ah]
 rcases h4:q.p.kind==0 with _ | _
 .simp only[go_sem,aW,aJ,aA,h1,h2,h3,h4,e1,EW,IZ,aw,noQ,ac,ah]
 rcases h5:q.p.col==0 with _ | _
 .simp only[go_sem,aW,aJ,aA,h1,h2,h3,h4,h5,e1,EW,IZ,aw,noQ,ac,ah]
 rcases h6:q.p.op==0 with _ | _
 .simp only[go_sem,aW,aJ,aA,h1,h2,h3,h4,h5,h6,e1,EW,IZ,aw,noQ,ac,ah]
 rcases h7:qN q.p.v with _ | _
 .simp only[go_sem,aW,aJ,aA,h1,h2,h3,h4,h5,h6,h7,e1,EW,IZ,aw,noQ,ac,ah]
 simp only[go_sem,h1,h2,h3,h4,h5,h6,h7,e1,EW,IZ,aw,noQ,ah]
theorem ACY:En J5:=by rw[GY];refine⟨?_,aq _⟩;show BF O0;rw[Bc];exact⟨by simp[G7,O0,DPred.v],aq _,fun x hx=>by cases hx⟩
def DJ (t:DTask):Bool:=((t.pc==0)&&((t.h==0)&&((((t.r.length:Int)==0))&&((t.id==0)&&((noQ t.q)&&((t.ts==0)&&((t.ver==0)&&((((t.l.length:Int)==0))&&((t.i==0)&&((t.j==0)&&((t.s==0)&&((t.at0==0)&&((t.own==0)&&((!t.won)&&(((t.got.length:Int)==0))))))))))))))))
theorem wW (t:DTask) (hq:En t.q):Ctr prog 252 [.agg t.c] [.val (.c (.v (.bool (DJ t))))]:=by
 refine CM call252 func252 ntmps252 results252 fun hw=>?_;rcases kpc:t.pc==0 with _ | _
 .simp only[go_sem,aW,aJ,aA,kpc,DJ,ac,ah]
 rcases kh:t.h==0 with _ | _
 .simp only[go_sem,aW,aJ,aA,kpc,kh,DJ,ac,ah]
 rcases kr:((t.r.length:Int)==0) with _ | _
 .simp only[go_sem,aW,aJ,aA,kpc,kh,kr,DJ,ac,ah]
 rcases kid:t.id==0 with _ | _
 .simp only[go_sem,aW,aJ,aA,kpc,kh,kr,kid,DJ,ac,ah]
 simp only[go_sem,aW,aJ,aA,kpc,kh,kr,kid];refine AAO _ (by have:=Sm t.q J5 hq ACY; rw[AHt] at this; simpa only[go_sem,J5,O0,DPred.kind,DPred.col,DPred.op,DPred.v,DPred.l,ap] using this) fun _=>?_;exact AGe
theorem wX (t:DTask) (hq:En t.q):Ctr prog 229 [.agg t.c] [.val (.c (.v (.bool (DJ t))))]:=by
 refine CM call229 func229 ntmps229 results229 fun hw=>?_;rcases kpc:t.pc==0 with _ | _
 .simp only[go_sem,aW,aJ,aA,kpc,DJ,ac,ah]
 rcases kh:t.h==0 with _ | _
 .simp only[go_sem,aW,aJ,aA,kpc,kh,DJ,ac,ah]
 rcases kr:((t.r.length:Int)==0) with _ | _
 .simp only[go_sem,aW,aJ,aA,kpc,kh,kr,DJ,ac,ah]
 rcases kid:t.id==0 with _ | _
 .simp only[go_sem,aW,aJ,aA,kpc,kh,kr,kid,DJ,ac,ah]
 simp only[go_sem,aW,aJ,aA,kpc,kh,kr,kid];refine CW (ACX t.q) fun _=>?_;exact AGe
def Zo (t:DTask):List Cl:=[.v (.int .i64 t.op),.v (.int .i64 t.pc),.v (.int .i64 t.h),.sl (t.r.map DVal.c),.v (.int .i64 t.id),.v (.int .i64 t.q.kind),.v (.int .i64 t.q.p.kind),.v (.int .i64 t.q.p.col),.v (.int .i64 t.q.p.op),.v (.int .i64 t.q.p.v.ty),.v (.int .i64 t.q.p.v.n),.v (.string t.q.p.v.s),.sl (t.q.p.l.map DPred.c),.v (.int .i64 t.q.col),.sl (t.q.out.map intC),.v (.int .i64 t.ts),.v (.int .i64 t.ver),.sl (t.l.map DRef.c),.v (.int .i64 t.i),.v (.int .i64 t.j),.v (.int .i64 t.s),.v (.int .i64 t.at0),.v (.int .i64 t.own),.v (.bool t.won),.sl (t.got.map DRow.c)]
@[go_sem] theorem AHu (t:DTask):Zo t = [.v (.int .i64 t.op),.v (.int .i64 t.pc),.v (.int .i64 t.h),.sl (t.r.map DVal.c),.v (.int .i64 t.id),.v (.int .i64 t.q.kind),.v (.int .i64 t.q.p.kind),.v (.int .i64 t.q.p.col),.v (.int .i64 t.q.p.op),.v (.int .i64 t.q.p.v.ty),.v (.int .i64 t.q.p.v.n),.v (.string t.q.p.v.s),.sl (t.q.p.l.map DPred.c),.v (.int .i64 t.q.col),.sl (t.q.out.map intC),.v (.int .i64 t.ts),.v (.int .i64 t.ver),.sl (t.l.map DRef.c),.v (.int .i64 t.i),.v (.int .i64 t.j),.v (.int .i64 t.s),.v (.int .i64 t.at0),.v (.int .i64 t.own),.v (.bool t.won),.sl (t.got.map DRow.c)]:=rfl
def Jf (k op:Int):Bool:=if(op==0)=true then true else if(decide (k<3))=true then Ae op 1 3 else op==4
theorem jQ (k op:Int):Ctr prog 251 [.c (.v (.int .i64 (k))),.c (.v (.int .i64 (op)))] [.val (.c (.v (.bool (Jf k op))))]:=by
 refine CM call251 func251 ntmps251 results251 fun hw=>?_;rcases h1:op==0 with _ | _
 .rcases h2:decide (k<3) with _ | _
  .simp only[go_sem,h1,h2,Jf,ax,aL]
  .simp only[go_sem,h1,h2,Jf,ax,aL,aO];refine AAO _ (AL op 1 3) fun _=>?_;exact AJC
 .simp only[go_sem,h1,Jf,aO]
def numsL (t:DTask):List Int:=[t.h,t.id,t.ts,t.ver,t.i,t.j,t.s,t.at0,t.own]
def DC (n:Int):Bool:=!decide (n<0)
def G6 (r:DRef):Bool:=Eh r && !decide (r.first<0)
def wY (t:DTask):Bool:=!((t.id != 0)&&((t.op != 1)&&(t.op != 2)))
def Ie (t:DTask) (k:Int):Bool:=Ae k 0 4&&(Jf k t.op&&(Ae t.pc 0 9&&(!decide ((t.l.length:Int)>8)&&((numsL t).all DC&&(t.l.all G6&&(wY t&&((t.op != 0)||DJ t)))))))
def AA9 (t:DTask) (k:Int):Bool:=if(t.op==0)=true then DJ t else if(t.op==1)=true then decide (k<3) else if(t.op==2)=true then decide (k<3) else if(t.op==3)=true then decide (k<3)&&(t.id==0) else(t.op==4)&&(decide (k>=3)&&(t.id==0))
theorem AES (t:DTask) (k:Int):AA9 t k=(Jf k t.op&&(wY t&&((t.op != 0)||DJ t))):=by
 have hb:DJ t=true->(t.id==0)=true:=by intro h;simp only[DJ,ar] at h;exact h.2.2.2.1
 unfold AA9 Jf wY;rcases h0:t.op==0 with _ | _
 .rcases h1:t.op==1 with _ | _
  .rcases h2:t.op==2 with _ | _
   .rcases h3:t.op==3 with _ | _
    .have hr:Ae t.op 1 3=false:=by simp at h0 h1 h2 h3;simp[Ae]; omega
     by_cases hk:k<3
     .have hk2:decide (k>=3)=false:=by simp; omega
      simp[h0,h1,h2,hk,hk2,hr,bne]
     .have hk2:decide (k>=3)=true:=by simp; omega
      simp[h0,h1,h2,hk,hk2,bne]
    .have e3:t.op=3:=by simpa using h3
     by_cases hk:k<3<;>simp[e3,hk,Ae,bne]
   .have e2:t.op=2:=by simpa using h2
    by_cases hk:k<3<;>simp[e2,hk,Ae,bne]
  .have e1:t.op=1:=by simpa using h1
   by_cases hk:k<3<;>simp[e1,hk,Ae,bne]
 .have e0:t.op=0:=by simpa using h0
  rcases hbl:DJ t with _ | _
  .simp[e0,bne]
  .have:=hb hbl;simp[e0,bne,this]
theorem Wn (t:DTask) (k:Int) (hf:Ei t):Ctr prog 186 [.agg t.c,.c (.v (.int .i64 (k)))] [.val (.c (.v (.bool (Ie t k))))]:=by
 rw[Dy] at hf;refine CM call186 func186 ntmps186 results186 fun hw=>?_;have hl:=hf.2.2.1;simp only[go_sem];refine AAO _ (AL k 0 4) fun _=>?_;rcases h1:Ae k 0 4 with _ | _
 .simp only[go_sem,h1,Ie,ac]
 simp only[go_sem,h1];refine AAO _ (jQ k t.op) fun _=>?_;rcases h2:Jf k t.op with _ | _
 .simp only[go_sem,h1,h2,Ie,ac,ah]
 simp only[go_sem,h1,h2];refine AAO _ (AL t.pc 0 9) fun _=>?_;rcases h3:Ae t.pc 0 9 with _ | _
 .simp only[go_sem,h1,h2,h3,Ie,ac,ah]
 rcases h4:decide ((t.l.length:Int)>8) with _ | _;rotate_left
 .simp only[go_sem,h1,h2,h3,h4,Ie,aD,ac,ah]
 have ht:Ie t k=((numsL t).all DC&&(t.l.all G6&&(wY t&&((t.op != 0)||DJ t)))):=by simp only[Ie,h1,h2,h3,h4,aH,ah]
 simp only[go_sem,h1,h2,h3,h4,au];refine AAe 2 (A:=Nat) (fun x=>[(51,.c (.v (.int .i64 (x))))]) (fun _=>[⟨120,25,[Zo t],true,true⟩,⟨3,1,(numsL t).map intC,true,true⟩]) (FW (numsL t) DC) (fun x=>(numsL t).length-x) 0 ⟨⟨rfl,rfl⟩,rfl,D9⟩ ?_;intro m hm;refine AOd (fun h=>?_) fun h=>?_
 .have hk':m<(numsL t).length:=by simp[numsL] at h ⊢; omega
  have hwm:IntKind.i64.wrap ((m:Int)+1)=((m+1:Nat):Int):=by have:m<9:=hk'; rw[wrap_i64 AOl AOl]; rfl
  simp only[go_sem,AA _ hk',hk'];refine AAQ (fun hn=>?_) (fun hn=>?_)
  .have hn2:DC (numsL t)[m]=false:=by unfold DC; rw[hn]; rfl
   simp only[go_sem,ht,Ba (p:=DC) hk' hn2,ac]
  .have hn2:DC (numsL t)[m]=true:=by unfold DC; rw[hn]; rfl
   simp only[go_sem,hwm];exact⟨m+1,⟨rfl,rfl⟩,rfl,CB hk' hm hn2,by have:m<(numsL t).length:=hk'; omega⟩
 have hk':m=(numsL t).length:=by have:=hm.1; simp[numsL] at h this ⊢; omega
 subst hk';rw[ht,DX hm,ah];simp only[go_sem];refine AAe 2 (A:=Nat) (fun x=>[(61,.c (.v (.int .i64 (x))))]) (fun _=>[⟨120,25,[Zo t],true,true⟩,⟨3,1,(numsL t).map intC,true,true⟩]) (FW t.l G6) (fun x=>t.l.length-x) 0 ⟨⟨rfl,rfl⟩,rfl,D9⟩ ?_;intro j hj;refine AOd (fun h=>?_) fun h=>?_
 .have hk':j<t.l.length:=by simpa using h
  simp only[go_sem,AA _ hk',hk'];try refine AAP ?_
  try simp only[go_sem,AA _ hk',hk']
  first | refine CY (SN t.l[j]) ?_ | refine CW (SN t.l[j]) fun _=>?_
  rcases h5:Eh t.l[j] with _ | _
  .simp only[go_sem,h5,Ba (p:=G6) hk' (by simp only[G6,h5,ac]),ac]
  rcases h6:decide (t.l[j].first<0) with _ | _
  .simp only[go_sem,h5,h6,wrap_i64 (n:=(j:Int)+1) AOl AOl];exact AOI
  .simp only[go_sem,h5,h6,Ba (p:=G6) hk' (by simp only[G6,h5,h6]; rfl),ac]
 have hk':j=t.l.length:=APM;subst hk';rw[DX hj,ah];unfold wY;have fin:∀ b,b=true->b=true:=fun _ h=>h;rcases k0:t.op != 0 with _ | _
 .have e0:t.op=0:=by simpa using k0
  have e1:(t.op != 1)=true:=by simp[e0]
  have e2:(t.op != 2)=true:=by simp[e0]
  rcases k3:t.id != 0 with _ | _
  .simp only[go_sem,k0,k3,e1,e2,ac,aH,ah,be];refine CW (wW t hf.2.1) fun _=>?_;exact AJC
  .simp only[go_sem,k0,k3,e1,e2,ah,aD,ac]
 .rcases k1:t.op != 1 with _ | _<;>rcases k2:t.op != 2 with _ | _<;>rcases k3:t.id != 0 with _ | _ <;>
   simp only[go_sem,k0,k1,k2,k3,ac,ay,aH,aD,ah,P7]
theorem AF6 (t:DTask) (k:Int):Ie t k=(Ae k 0 4&&(Ae t.pc 0 9&&((numsL t).all DC&&(!decide ((t.l.length:Int)>8)&&(t.l.all G6&&AA9 t k))))):=by rw[AES];unfold Ie;rcases Ae k 0 4<;>rcases Jf k t.op<;>rcases Ae t.pc 0 9<;>rcases decide ((t.l.length:Int)>8)<;>rcases(numsL t).all DC<;>rcases t.l.all G6<;>simp only[ac,ah,ay,aD,aH]
theorem Wp (t:DTask) (k:Int) (hf:Ei t):Ctr prog 154 [.agg t.c,.c (.v (.int .i64 (k)))] [.val (.c (.v (.bool (Ie t k))))]:=by
 rw[Dy] at hf;rw[AF6];refine CM call154 func154 ntmps154 results154 fun hw=>?_;have hl:=hf.2.2.1;simp only[go_sem,aW,aJ,aA];refine AAO _ (AP k 0 4) fun _=>?_;rcases h1:Ae k 0 4 with _ | _
 .simp only[go_sem,aW,aJ,aA,h1,ac]
 simp only[go_sem,aW,aJ,aA,h1];refine AAO _ (AP t.pc 0 9) fun _=>?_;rcases h3:Ae t.pc 0 9 with _ | _
 .simp only[go_sem,aW,aJ,aA,h1,h3,ac,ah]
 rcases n0:decide (t.h<0) with _ | _;rotate_left
 .have e:(numsL t).all DC=false:=Ba (k:=0) (show 0<9 from AOu) (show DC (t.h)=false by unfold DC; rw[n0]; rfl);simp only[go_sem,aW,aJ,aA,h1,h3,n0,e,ac,ah]
 rcases n1:decide (t.id<0) with _ | _;rotate_left
 .have e:(numsL t).all DC=false:=Ba (k:=1) (show 1<9 from AOu) (show DC (t.id)=false by unfold DC; rw[n1]; rfl);simp only[go_sem,aW,aJ,aA,h1,h3,n0,n1,e,ac,ah]
 rcases n2:decide (t.ts<0) with _ | _;rotate_left
 .have e:(numsL t).all DC=false:=Ba (k:=2) (show 2<9 from AOu) (show DC (t.ts)=false by unfold DC; rw[n2]; rfl);simp only[go_sem,aW,aJ,aA,h1,h3,n0,n1,n2,e,ac,ah]
 rcases n3:decide (t.ver<0) with _ | _;rotate_left
 .have e:(numsL t).all DC=false:=Ba (k:=3) (show 3<9 from AOu) (show DC (t.ver)=false by unfold DC; rw[n3]; rfl);simp only[go_sem,aW,aJ,aA,h1,h3,n0,n1,n2,n3,e,ac,ah]
 rcases n4:decide (t.i<0) with _ | _;rotate_left
 .have e:(numsL t).all DC=false:=Ba (k:=4) (show 4<9 from AOu) (show DC (t.i)=false by unfold DC; rw[n4]; rfl);simp only[go_sem,aW,aJ,aA,h1,h3,n0,n1,n2,n3,n4,e,ac,ah]
 rcases n5:decide (t.j<0) with _ | _;rotate_left
 .have e:(numsL t).all DC=false:=Ba (k:=5) (show 5<9 from AOu) (show DC (t.j)=false by unfold DC; rw[n5]; rfl);simp only[go_sem,aW,aJ,aA,h1,h3,n0,n1,n2,n3,n4,n5,e,ac,ah]
 rcases n6:decide (t.s<0) with _ | _;rotate_left
 .have e:(numsL t).all DC=false:=Ba (k:=6) (show 6<9 from AOu) (show DC (t.s)=false by unfold DC; rw[n6]; rfl);simp only[go_sem,aW,aJ,aA,h1,h3,n0,n1,n2,n3,n4,n5,n6,e,ac,ah]
 rcases n7:decide (t.at0<0) with _ | _;rotate_left
 .have e:(numsL t).all DC=false:=Ba (k:=7) (show 7<9 from AOu) (show DC (t.at0)=false by unfold DC; rw[n7]; rfl);simp only[go_sem,aW,aJ,aA,h1,h3,n0,n1,n2,n3,n4,n5,n6,n7,e,ac,ah]
 rcases n8:decide (t.own<0) with _ | _;rotate_left
 .have e:(numsL t).all DC=false:=Ba (k:=8) (show 8<9 from AOu) (show DC (t.own)=false by unfold DC; rw[n8]; rfl);simp only[go_sem,aW,aJ,aA,h1,h3,n0,n1,n2,n3,n4,n5,n6,n7,n8,e,ac,ah]
 have e9:(numsL t).all DC=true:=by simp only[numsL,aI,aM,DC,n0,n1,n2,n3,n4,n5,n6,n7,n8,aH,aw]
 rcases h4:decide ((t.l.length:Int)>8) with _ | _;rotate_left
 .simp only[go_sem,aW,aJ,aA,h1,h3,n0,n1,n2,n3,n4,n5,n6,n7,n8,h4,aD,ac,ay]
 simp only[go_sem,aW,aJ,aA,h1,h3,n0,n1,n2,n3,n4,n5,n6,n7,n8,h4,e9,aH,ah];refine AAe 1 (A:=Nat) (fun x=>[(5,.c (.v (.int .i64 (x))))]) (fun _=>[⟨120,25,[Zo t],true,true⟩]) (FW t.l G6) (fun x=>t.l.length-x) 0 ⟨⟨rfl,rfl⟩,rfl,D9⟩ ?_;intro j hj;refine AOd (fun h=>?_) fun h=>?_
 .have hk':j<t.l.length:=by simpa using h
  simp only[go_sem,AA _ hk',hk'];try refine AAP ?_
  try simp only[go_sem,AA _ hk',hk']
  first | refine CY (SQ t.l[j]) ?_ | refine CW (SQ t.l[j]) fun _=>?_
  rcases h5:Eh t.l[j] with _ | _
  .simp only[go_sem,AA _ hk',hk',h5,Ba (p:=G6) hk' (by simp only[G6,h5,ac]),ac]
  rcases h6:decide (t.l[j].first<0) with _ | _
  .simp only[go_sem,AA _ hk',hk',h5,h6,wrap_i64 (n:=(j:Int)+1) AOl AOl];exact AOI
  .simp only[go_sem,AA _ hk',hk',h5,h6,Ba (p:=G6) hk' (by simp only[G6,h5,h6]; rfl),ac]
 have hk':j=t.l.length:=APM;subst hk';rw[DX hj,ah];unfold AA9;rcases k0:t.op==0 with _ | _;rotate_left
 .simp only[go_sem,k0,aO];refine CW (wX t hf.2.1) fun _=>?_;exact AJC
 rcases k1:t.op==1 with _ | _;rotate_left
 .simp only[go_sem,k0,k1,ax,aL,aO]
 rcases k2:t.op==2 with _ | _;rotate_left
 .simp only[go_sem,k0,k1,k2,ax,aL,aO]
 rcases k3:t.op==3 with _ | _;rotate_left
 .rcases k4:decide (k<3) with _ | _<;>simp only[go_sem,k0,k1,k2,k3,k4,ax,aL,aO,ac,ah]
 rcases k5:t.op==4 with _ | _
 .simp only[go_sem,k0,k1,k2,k3,k5,ax,aL,ac]
 rcases k6:decide (k>=3) with _ | _<;>simp only[go_sem,k0,k1,k2,k3,k5,k6,ax,aL,ac,ah]
