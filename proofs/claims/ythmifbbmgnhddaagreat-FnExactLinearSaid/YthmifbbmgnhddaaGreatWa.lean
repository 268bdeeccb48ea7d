/- A part. -/
import Derived.Test.YthmifbbmgnhddaaGreatDk
import Derived.Test.YthmifbbmgnhddaaGreatDa
set_option linter.unusedSimpArgs false
set_option linter.unusedVariables false
set_option maxHeartbeats 4000000
set_option maxRecDepth 10000
open Go.Proofs.Tryz
namespace Go.Proofs.YthmifbbmgnhddaaGreat
open Go.Vm
attribute [go_sem] ae
theorem BP {α:Type} {l:List α} {p:α→Bool} {k:Nat} (hk:k<l.length) (h:p l[k]=false):l.all p=false:=by
 rw[Bool.eq_false_iff]
 intro h2
 have:=aS.1 h2 _ (aj hk)
 rw[h] at this; cases this
theorem AIU {α:Type} {l:List α} {p:α→Bool} (h:∀ i (hi:i<l.length),i<l.length→p l[i]=true):l.all p=true:=aS.2 fun x hx=>by
 obtain⟨i,hi,rfl⟩:=abC.1 hx
 exact h i hi hi
theorem AKd {α:Type} {l:List α} {p:α→Bool} {k:Nat} (hk:k<l.length) (hall:∀ i (h:i<l.length),i<k→p l[i]=true) (hc:p l[k]=true):k+1≤l.length∧∀ i (h:i<l.length),i<k+1→p l[i]=true:=⟨hk,fun i h2 h3=>by
 by_cases e:i=k
 ·subst e; exact hc
 ·exact hall i h2 AQ2⟩
def Gp {α:Type} (l:List α) (p:α→Bool) (k:Nat):Prop:=k≤l.length∧∀ i (h:i<l.length),i<k→p l[i]=true
theorem EL {α:Type} {l:List α} {p:α→Bool}:Gp l p 0:=⟨au _,fun _ _ h=>AQ2⟩
theorem Bv {α:Type} {l:List α} {p:α→Bool} {k:Nat} (hk:k<l.length) (h:Gp l p k) (hc:p l[k]=true):Gp l p (k+1):=AKd hk h.2 hc
theorem DR {α:Type} {l:List α} {p:α→Bool} (h:Gp l p l.length):l.all p=true:=AIU h.2
def Oq (c:DConf):Bool:=E8 c.cols&&(Ad c.slots 1 4&&Ad c.bufs 1 8)
theorem XZ (c:DConf):Ctr prog 125 [.agg c.c] [.val (.c (.v (.bool (Oq c))))]:=by
 refine CM call125 func125 ntmps125 results125 fun hw=>?_
 simp only[go_sem]
 refine AAN _ (OZ c.cols) fun _=>?_
 rcases h1:E8 c.cols with _ | _
 ·simp only[go_sem,Oq,h1,ag]
 simp only[go_sem,h1]
 refine AAN _ (AL c.slots 1 4) fun _=>?_
 rcases h2:Ad c.slots 1 4 with _ | _
 ·simp only[go_sem,Oq,h1,h2,ag,ah]
 simp only[go_sem,h1,h2]
 refine AAN _ (AL c.bufs 1 8) fun _=>?_
 simp only[go_sem,Oq,h1,h2,ah]
theorem Xa (c:DConf):Ctr prog 108 [.agg c.c] [.val (.c (.v (.bool (Oq c))))]:=by
 refine CM call108 func108 ntmps108 results108 fun hw=>?_
 simp only[go_sem]
 refine AAN _ (OY c.cols) fun _=>?_
 rcases h1:E8 c.cols with _ | _
 ·simp only[go_sem,Oq,h1,ag]
 simp only[go_sem,h1]
 refine AAN _ (AQ c.slots 1 4) fun _=>?_
 rcases h2:Ad c.slots 1 4 with _ | _
 ·simp only[go_sem,Oq,h1,h2,ag,ah]
 simp only[go_sem,h1,h2]
 refine AAN _ (AQ c.bufs 1 8) fun _=>?_
 simp only[go_sem,Oq,h1,h2,ah]
def Pm (n:Int):Bool:=decide (n ≥ -1)
theorem Xb (n:Int):Ctr prog 241 [.c (.v (.int .i64 (n)))] [.val (.c (.v (.bool (Pm n))))]:=by
 refine CM call241 func241 ntmps241 results241 fun hw=>?_
 simp only[go_sem,Pm]
theorem Q3 (n:Int):Ctr prog 223 [.c (.v (.int .i64 (n)))] [.val (.c (.v (.bool (Pm n))))]:=by
 refine CM call223 func223 ntmps223 results223 fun hw=>?_
 simp only[go_sem,Pm]
def TS (e p:Int):Bool:=!((p != -1) && !Ad p 0 e)
def Pn (l:List Int) (e:Int):Bool:=l.all (TS e)
theorem Xc (l:List Int) (e:Int) (hl:l.length≤1048576):Ctr prog 131 [.c (.sl (l.map intC)),.c (.v (.int .i64 (e)))] [.val (.c (.v (.bool (Pn l e))))]:=by
 refine CM call131 func131 ntmps131 results131 fun hw=>?_
 simp only[go_sem]
 refine AAT 0 (A:=Nat) (fun x=>[(9,.c (.v (.int .i64 (x))))]) (fun _=>[]) (Gp l (TS e)) (fun x=>l.length-x) 0 ⟨⟨rfl,rfl⟩,rfl,EL⟩ ?_
 intro k hk
 refine AQx (fun h=>?_) fun h=>?_
 ·have hk':k<l.length:=by simpa using h
  rcases h1:l[k] != -1 with _ | _
  ·exact AOy
  simp only[go_sem,AA _ hk',hk',h1]
  refine AAN _ (AL l[k] 0 e) fun _=>?_
  exact ANy
 ·exact AP6
theorem Xd (l:List Int) (e:Int) (hl:l.length≤1048576):Ctr prog 110 [.c (.sl (l.map intC)),.c (.v (.int .i64 (e)))] [.val (.c (.v (.bool (Pn l e))))]:=by
 refine CM call110 func110 ntmps110 results110 fun hw=>?_
 simp only[go_sem]
 refine AAT 0 (A:=Nat) (fun x=>[(5,.c (.v (.int .i64 (x))))]) (fun _=>[]) (Gp l (TS e)) (fun x=>l.length-x) 0 ⟨⟨rfl,rfl⟩,rfl,EL⟩ ?_
 intro k hk
 refine AQx (fun h=>?_) fun h=>?_
 ·have hk':k<l.length:=by simpa using h
  rcases h1:l[k] != -1 with _ | _
  ·exact AOy
  simp only[go_sem,AA _ hk',hk',h1]
  refine AAN _ (AQ l[k] 0 e) fun _=>?_
  exact ANy
 ·exact AP6
def endOf (d:DDir):Int:=match d.l.getLast? with
 | none=>0
 | some r=>IntKind.i64.wrap (r.first+r.many)
theorem oZ {d:DDir} (h:d.l = []):endOf d=0:=by simp[endOf,h]
theorem zA {d:DDir} {k:Nat} (h:d.l.length=k+1):∃ hk:k<d.l.length,endOf d=IntKind.i64.wrap (d.l[k].first+d.l[k].many):=by
 have hk:k<d.l.length:=AQ2
 refine⟨hk, ?_⟩
 unfold endOf
 rw[List.getLast?_eq_getElem?,h,show k+1-1=k from rfl,aC hk]
theorem Za (d:DDir) (hl:d.l.length≤1048576):Ctr prog 242 [.agg d.c] [.val (.c (.v (.int .i64 (endOf d))))]:=by
 refine CM call242 func242 ntmps242 results242 fun hw=>?_
 exact ALE
theorem Zb (d:DDir) (hl:d.l.length≤1048576):Ctr prog 224 [.agg d.c] [.val (.c (.v (.int .i64 (endOf d))))]:=by
 refine CM call224 func224 ntmps224 results224 fun hw=>?_
 exact ALE
def Eg (r:DRef):Bool:=decide (r.buf≥0)&&(decide (r.gen≥0)&&(Ad r.kind 1 2&&Ad r.many 1 1000000000))
theorem AKe (n:Int):((n==1)||(n==2))=Ad n 1 2:=by
 simp only[Ad]
 rcases h1:n==1 with _ | _
 ·rcases h2:n==2 with _ | _
  ·simp at h1 h2 ⊢
   omega
  ·simp at h2 ⊢
   omega
 ·simp at h1 ⊢
  omega
theorem TT (r:DRef):Ctr prog 238 [.agg r.c] [.val (.c (.v (.bool (Eg r))))]:=by
 refine CM call238 func238 ntmps238 results238 fun hw=>?_
 rcases h1:decide (r.buf≥0) with _ | _
 ·simp only[go_sem,h1,Eg,ag]
 rcases h2:decide (r.gen≥0) with _ | _
 ·simp only[go_sem,h1,h2,Eg,ag,ah]
 have e:=AKe r.kind
 rcases h3:r.kind==1 with _ | _
 ·rcases h4:r.kind==2 with _ | _
  ·rw[h3,h4] at e
   simp only[go_sem,h1,h2,h3,h4,Eg,← e,ag,ah,abQ]
  ·rw[h3,h4] at e
   simp only[go_sem,h1,h2,h3,h4]
   refine AAN _ (AL r.many 1 1000000000) fun _=>?_
   simp only[go_sem,Eg,h1,h2,← e,ah,Bool.or_true]
 ·rw[h3,Pv] at e
  simp only[go_sem,h1,h2,h3]
  refine AAN _ (AL r.many 1 1000000000) fun _=>?_
  simp only[go_sem,Eg,h1,h2,← e,ah]
theorem TU (r:DRef):Ctr prog 217 [.agg r.c] [.val (.c (.v (.bool (Eg r))))]:=by
 refine CM call217 func217 ntmps217 results217 fun hw=>?_
 rcases h1:decide (r.buf≥0) with _ | _
 ·simp only[go_sem,h1,Eg,ag]
 rcases h2:decide (r.gen≥0) with _ | _
 ·simp only[go_sem,h1,h2,Eg,ag,ah]
 simp only[go_sem,h1,h2]
 refine AAN _ (AQ r.kind 1 2) fun _=>?_
 rcases h3:Ad r.kind 1 2 with _ | _
 ·simp only[go_sem,h1,h2,h3,Eg,ag,ah]
 have e:Ad r.many 1 1000000000=(decide (r.many≥1)&&decide (r.many≤1000000000)):=rfl
 rcases h4:decide (r.many≥1) with _ | _
 ·simp only[go_sem,h1,h2,h3,h4,Eg,e,ag,ah]
 ·simp only[go_sem,h1,h2,h3,h4,Eg,e,ah]
def Ew (l:List DRef) (n:Int):Bool:=l.any fun r=>r.buf==n
theorem uC {α:Type} {l:List α} {p:α→Bool} {k:Nat} (hk:k<l.length) (h:p l[k]=true):l.any p=true:=List.any_eq_true.2 ⟨_,aj hk,h⟩
theorem ABo {α:Type} {l:List α} {p:α→Bool} (h:Gp l (fun x=>!p x) l.length):l.any p=false:=by
 rw[Bool.eq_false_iff]
 intro h2
 obtain⟨x,hx,hp⟩:=List.any_eq_true.1 h2
 obtain⟨i,hi,rfl⟩:=abC.1 hx
 have:=h.2 i hi hi
 simp[hp] at this
theorem uD (d:DDir) (n:Int) (hl:d.l.length≤1048576):Ctr prog 239 [.agg d.c,.c (.v (.int .i64 (n)))] [.val (.c (.v (.bool (Ew d.l n))))]:=by
 refine CM call239 func239 ntmps239 results239 fun hw=>?_
 simp only[go_sem]
 refine AAT 1 (A:=Nat) (fun x=>[(10,.c (.v (.int .i64 (x))))]) (fun _=>[⟨40,2,[d.c],true,true⟩]) (Gp d.l fun r=>!(r.buf==n)) (fun x=>d.l.length-x) 0 ⟨⟨rfl,rfl⟩,rfl,EL⟩ ?_
 exact AKD
theorem Xe (d:DDir) (n:Int) (hl:d.l.length≤1048576):Ctr prog 220 [.agg d.c,.c (.v (.int .i64 (n)))] [.val (.c (.v (.bool (Ew d.l n))))]:=by
 refine CM call220 func220 ntmps220 results220 fun hw=>?_
 simp only[go_sem]
 refine AAT 1 (A:=Nat) (fun x=>[(5,.c (.v (.int .i64 (x))))]) (fun _=>[⟨40,2,[d.c],true,true⟩]) (Gp d.l fun r=>!(r.buf==n)) (fun x=>d.l.length-x) 0 ⟨⟨rfl,rfl⟩,rfl,EL⟩ ?_
 exact AKD
def Ot:List Int→List Int→Bool
 | [],[]=>true
 | a::l,b::m=>(a==b)&&Ot l m
 | _,_=>false
theorem Yc:∀ (a b:List Int),a.length≠b.length→Ot a b=false
 | [],[],h=>ARa
 | [],_::_,_=>rfl
 | _::_,[],_=>rfl
 | a::l,b::m,h=>by simp only[Ot]; rw[Yc l m ARY]; simp
theorem jR (a b:List Int) {k:Nat} (h1:k<a.length) (h2:k<b.length):Ot (a.drop k) (b.drop k)=((a[k]==b[k])&&Ot (a.drop (k+1)) (b.drop (k+1))):=by
 rw[aA h1,aA h2]; rfl
theorem jS (a b:List Int) (ha:a.length≤1048576) (hb:b.length≤1048576):Ctr prog 362 [.c (.sl (a.map intC)),.c (.sl (b.map intC))] [.val (.c (.v (.bool (Ot a b))))]:=by
 refine CM call362 func362 ntmps362 results362 fun hw=>?_
 refine AQx (fun h=>?_) fun h=>?_
 ·simp only[go_sem]
  rw[Yc a b ARD]
 ·have he:a.length=b.length:=by simp at h; omega
  simp only[go_sem]
  refine AAT 0 (A:=Nat) (fun k=>[(13,.c (.v (.int .i64 (k))))]) (fun _=>[]) (fun k=>k≤a.length∧Ot (a.drop k) (b.drop k)=Ot a b) (fun k=>a.length-k) 0 ⟨⟨rfl,rfl⟩,rfl,au _,rfl⟩ ?_
  exact AHs
theorem jT (a b:List Int) (ha:a.length≤1048576) (hb:b.length≤1048576):Ctr prog 352 [.c (.sl (a.map intC)),.c (.sl (b.map intC))] [.val (.c (.v (.bool (Ot a b))))]:=by
 refine CM call352 func352 ntmps352 results352 fun hw=>?_
 refine AQx (fun h=>?_) fun h=>?_
 ·simp only[go_sem]
  rw[Yc a b ARD]
 ·have he:a.length=b.length:=by simp at h; omega
  simp only[go_sem]
  refine AAT 0 (A:=Nat) (fun k=>[(5,.c (.v (.int .i64 (k))))]) (fun _=>[]) (fun k=>k≤a.length∧Ot (a.drop k) (b.drop k)=Ot a b) (fun k=>a.length-k) 0 ⟨⟨rfl,rfl⟩,rfl,au _,rfl⟩ ?_
  exact AHs
mutual
def PT:DPred→DPred→Bool
 | .mk k c o v l,q=>(k==q.kind)&&((c==q.col)&&((o==q.op)&&(LG v q.v&&IQ l q.l)))
def IQ:List DPred→List DPred→Bool
 | [],[]=>true
 | a::l,b::m=>PT a b&&IQ l m
 | _,_=>false
end
theorem jU (p q:DPred):PT p q=((p.kind==q.kind)&&((p.col==q.col)&&((p.op==q.op)&&(LG p.v q.v&&IQ p.l q.l)))):=by
 cases p
 rw[PT]
 rfl
theorem Vk:∀ (a b:List DPred),a.length≠b.length→IQ a b=false
 | [],[],h=>ARa
 | [],_::_,_=>by rw[IQ]<;>simp
 | _::_,[],_=>by rw[IQ]<;>simp
 | a::l,b::m,h=>by rw[IQ,Vk l m ARY]; simp
theorem Zc (a b:List DPred) {k:Nat} (h1:k<a.length) (h2:k<b.length):IQ (a.drop k) (b.drop k)=(PT a[k] b[k]&&IQ (a.drop (k+1)) (b.drop (k+1))):=by
 rw[aA h1,aA h2,IQ]
def jV (p:DPred):List Cl:=[.v (.int .i64 p.kind),.v (.int .i64 p.col),.v (.int .i64 p.op),.v (.int .i64 p.v.ty),.v (.int .i64 p.v.n),.v (.string p.v.s),.sl (p.l.map DPred.c)]
@[go_sem] theorem AMj (p:DPred):jV p = [.v (.int .i64 p.kind),.v (.int .i64 p.col),.v (.int .i64 p.op),.v (.int .i64 p.v.ty),.v (.int .i64 p.v.n),.v (.string p.v.s),.sl (p.l.map DPred.c)]:=rfl
theorem AEg (p q:DPred) (hp:Ap p) (hq:Ap q) (hx:∀ x∈p.l,∀ y∈q.l,Ctr prog 361 [.agg x.c,.agg y.c] [.val (.c (.v (.bool (PT x y))))]):Ctr prog 361 [.agg p.c,.agg q.c] [.val (.c (.v (.bool (PT p q))))]:=by
 refine CM call361 func361 ntmps361 results361 fun hw=>?_
 have hpl:p.l.length≤1048576:=ASF
 have hql:q.l.length≤1048576:=by rw[BG] at hq; exact hq.2.1
 rw[jU p q]
 have e1:(p.v.ty==q.v.ty&&(p.v.n==q.v.n&&p.v.s.toList==q.v.s.toList))=LG p.v q.v:=rfl
 rcases h1:p.kind==q.kind with _ | _
 ·exact AQX
 have g1:(p.kind != q.kind)=false:=ASf
 rcases h2:p.col==q.col with _ | _
 ·exact AQL
 have g2:(p.col != q.col)=false:=by simp[bne,h2]
 rcases h3:p.op==q.op with _ | _
 ·exact AQC
 have g3:(p.op != q.op)=false:=by simp[bne,h3]
 rcases h4:LG p.v q.v with _ | _
 ·simp only[go_sem,h1,g1,h2,g2,h3,g3,e1,h4,Dx,G9,aF,aH,ag,ah]
 simp only[go_sem,h1,g1,h2,g2,h3,g3,e1,h4,Dx,G9,aF,aO,ah]
 refine AAP (fun h=>?_) (fun h=>?_)
 ·simp only[go_sem]
  rw[Vk p.l q.l ARD]
 have he:p.l.length=q.l.length:=ARD
 simp only[go_sem]
 refine AAT 2 (A:=Nat) (fun k=>[(44,.c (.v (.int .i64 (k))))]) (fun _=>[⟨69,7,[jV p],true,true⟩,⟨69,7,[jV q],true,true⟩]) (fun k=>k≤p.l.length∧IQ (p.l.drop k) (q.l.drop k)=IQ p.l q.l) (fun k=>p.l.length-k) 0 ⟨⟨rfl,rfl⟩,rfl,au _,rfl⟩ ?_
 exact AIr
theorem AEh (p q:DPred) (hp:Ap p) (hq:Ap q) (hx:∀ x∈p.l,∀ y∈q.l,Ctr prog 353 [.agg x.c,.agg y.c] [.val (.c (.v (.bool (PT x y))))]):Ctr prog 353 [.agg p.c,.agg q.c] [.val (.c (.v (.bool (PT p q))))]:=by
 refine CM call353 func353 ntmps353 results353 fun hw=>?_
 have hpl:p.l.length≤1048576:=ASF
 have hql:q.l.length≤1048576:=by rw[BG] at hq; exact hq.2.1
 rw[jU p q]
 have e1:(p.v.ty==q.v.ty&&(p.v.n==q.v.n&&p.v.s.toList==q.v.s.toList))=LG p.v q.v:=rfl
 rcases h1:p.kind==q.kind with _ | _
 ·exact AQX
 have g1:(p.kind != q.kind)=false:=ASf
 rcases h2:p.col==q.col with _ | _
 ·exact AQL
 have g2:(p.col != q.col)=false:=by simp[bne,h2]
 rcases h3:p.op==q.op with _ | _
 ·exact AQC
 have g3:(p.op != q.op)=false:=by simp[bne,h3]
 rcases h4:LG p.v q.v with _ | _
 ·simp only[go_sem,h1,g1,h2,g2,h3,g3,e1,h4,Dx,G9,aF,aH,ag,ah]
 simp only[go_sem,h1,g1,h2,g2,h3,g3,e1,h4,Dx,G9,aF,aO,ah]
 refine AAP (fun h=>?_) (fun h=>?_)
 ·simp only[go_sem]
  rw[Vk p.l q.l ARD]
 have he:p.l.length=q.l.length:=ARD
 simp only[go_sem]
 refine AAT 2 (A:=Nat) (fun k=>[(5,.c (.v (.int .i64 (k))))]) (fun _=>[⟨69,7,[jV p],true,true⟩,⟨69,7,[jV q],true,true⟩]) (fun k=>k≤p.l.length∧IQ (p.l.drop k) (q.l.drop k)=IQ p.l q.l) (fun k=>p.l.length-k) 0 ⟨⟨rfl,rfl⟩,rfl,au _,rfl⟩ ?_
 exact AIr
theorem zB {C:DPred→DPred→Prop} (h:∀ p q,Ap p→Ap q→(∀ x∈p.l,∀ y∈q.l,C x y)→C p q):∀ (n:Nat) (p q:DPred),SizeOf.sizeOf p≤n→Ap p→Ap q→C p q:=by
 intro n
 induction n with
 | zero=>intro p q h; cases p; simp at h
 | succ n ih =>
  intro p q hs hp hq
  refine h p q hp hq fun x hx y hy=>ih x y ?_ ?_ ?_
  ·exact ALB
  ·rw[BG] at hp; exact hp.2.2 x hx
  ·rw[BG] at hq; exact hq.2.2 y hy
theorem zC (p q:DPred) (hp:Ap p) (hq:Ap q):Ctr prog 361 [.agg p.c,.agg q.c] [.val (.c (.v (.bool (PT p q))))]:=zB AEg _ p q (aI _) hp hq
theorem zD (p q:DPred) (hp:Ap p) (hq:Ap q):Ctr prog 353 [.agg p.c,.agg q.c] [.val (.c (.v (.bool (PT p q))))]:=zB AEh _ p q (aI _) hp hq
def Xf (a b:DQuery):Bool:=(a.kind==b.kind)&&(PT a.p b.p&&((a.col==b.col)&&Ot a.out b.out))
theorem TV (a b:DQuery) (ha:Bl a) (hb:Bl b):Ctr prog 324 [.agg a.c,.agg b.c] [.val (.c (.v (.bool (Xf a b))))]:=by
 refine CM call324 func324 ntmps324 results324 fun hw=>?_
 rw[EG] at ha hb
 unfold Xf
 rcases h1:a.kind==b.kind with _ | _
 ·exact AOH
 simp only[go_sem,h1]
 refine CW (zC a.p b.p ha.1 hb.1) fun _=>?_
 rcases h2:PT a.p b.p with _ | _
 ·simp only[go_sem,h1,h2,ag,ah]
 rcases h3:a.col==b.col with _ | _
 ·simp only[go_sem,h1,h2,h3,ag,ah]
 simp only[go_sem,h1,h2,h3]
 refine AAN _ (jS a.out b.out ha.2 hb.2) fun _=>?_
 simp only[go_sem,ah]
theorem Zd (a b:DQuery) (ha:Bl a) (hb:Bl b):Ctr prog 315 [.agg a.c,.agg b.c] [.val (.c (.v (.bool (Xf a b))))]:=by
 refine CM call315 func315 ntmps315 results315 fun hw=>?_
 rw[EG] at ha hb
 unfold Xf
 rcases h1:a.kind==b.kind with _ | _
 ·exact AOH
 rcases h3:a.col==b.col with _ | _
 ·simp only[go_sem,h1,h3,ag,aK]
 simp only[go_sem,h1,h3]
 refine AAN _ (jT a.out b.out ha.2 hb.2) fun _=>?_
 rcases h2:Ot a.out b.out with _ | _
 ·simp only[go_sem,h1,h2,h3,aK]
 simp only[go_sem,h1,h2,h3]
 refine CW (zD a.p b.p ha.1 hb.1) fun _=>?_
 simp only[go_sem,ah,aF]
def NW:DPred:=.mk 0 0 0 ⟨0,0,ByteArray.empty⟩ []
def JH:DQuery:=⟨0,NW,0,[]⟩
def jW (v:DVal):Bool:=(v.ty==0)&&((v.n==0)&&(v.s.toList==ByteArray.empty.toList))
def noQ (q:DQuery):Bool:=(q.kind==0)&&((q.col==0)&&(((q.out.length:Int)==0)&&((q.p.kind==0)&&((q.p.col==0)&&((q.p.op==0)&&(jW q.p.v&&((q.p.l.length:Int)==0)))))))
theorem AEi (l:List Int):Ot l []=((l.length:Int)==0):=by
 cases l with
 | nil=>rfl
 | cons a l=>symm; simp only[Ot,bz,beq_eq_false_iff_ne]; omega
theorem ABq (l:List DPred):IQ l []=((l.length:Int)==0):=by
 cases l with
 | nil=>rw[IQ]; rfl
 | cons a l =>
  rw[IQ]<;>simp
  omega
theorem AKf (q:DQuery):Xf q JH=noQ q:=by
 have e:LG q.p.v ⟨0,0,ByteArray.empty⟩=jW q.p.v:=rfl
 simp only[Xf,jU,noQ,JH,AEi,NW,DPred.kind,DPred.col,DPred.op,DPred.v,DPred.l,ABq]
 simp only[DPred.v] at e
 rw[e]
 simp only[Bool.and_assoc]
 rcases q.kind==0<;>rcases q.col==0<;>rcases((q.out.length:Int)==0)<;>simp only[ag,ah,aK,aF]
theorem AEj (q:DQuery):Ctr prog 351 [.agg q.c] [.val (.c (.v (.bool (noQ q))))]:=by
 refine CM call351 func351 ntmps351 results351 fun hw=>?_
 have e1:(q.p.v.ty==0&&(q.p.v.n==0&&q.p.v.s.toList==ByteArray.empty.toList))=jW q.p.v:=rfl
 rcases h1:q.kind==0 with _ | _
 ·simp only[go_sem,bF,aT,aG,h1,e1,Dx,G9,aF,noQ,ag,ah]
 rcases h2:q.col==0 with _ | _
 ·simp only[go_sem,bF,aT,aG,h1,h2,e1,Dx,G9,aF,noQ,ag,ah]
 rcases h3:((q.out.length:Int)==0) with _ | _
 ·simp only[go_sem,bF,aT,aG,h1,h2,h3,e1,Dx,G9,aF,noQ,ag,ah]
 rcases h4:q.p.kind==0 with _ | _
 ·simp only[go_sem,bF,aT,aG,h1,h2,h3,h4,e1,Dx,G9,aF,noQ,ag,ah]
 rcases h5:q.p.col==0 with _ | _
 ·simp only[go_sem,bF,aT,aG,h1,h2,h3,h4,h5,e1,Dx,G9,aF,noQ,ag,ah]
 rcases h6:q.p.op==0 with _ | _
 ·simp only[go_sem,bF,aT,aG,h1,h2,h3,h4,h5,h6,e1,Dx,G9,aF,noQ,ag,ah]
 rcases h7:jW q.p.v with _ | _
 ·simp only[go_sem,bF,aT,aG,h1,h2,h3,h4,h5,h6,h7,e1,Dx,G9,aF,noQ,ag,ah]
 simp only[go_sem,h1,h2,h3,h4,h5,h6,h7,e1,Dx,G9,aF,noQ,ah]
theorem AEk:Bl JH:=by
 rw[EG]
 refine⟨?_,au _⟩
 show Ap NW
 rw[BG]
 exact⟨by simp[Ee,NW,DPred.v],au _,fun x hx=>by cases hx⟩
def B_ (t:DTask):Bool:=((t.pc==0)&&((t.h==0)&&((((t.r.length:Int)==0))&&((t.id==0)&&((noQ t.q)&&((t.ts==0)&&((t.ver==0)&&((((t.l.length:Int)==0))&&((t.i==0)&&((t.j==0)&&((t.s==0)&&((t.at0==0)&&((t.own==0)&&((!t.won)&&(((t.got.length:Int)==0))))))))))))))))
theorem zF (t:DTask) (hq:Bl t.q):Ctr prog 323 [.agg t.c] [.val (.c (.v (.bool (B_ t))))]:=by
 refine CM call323 func323 ntmps323 results323 fun hw=>?_
 rcases kpc:t.pc==0 with _ | _
 ·simp only[go_sem,bF,aT,aG,kpc,B_,ag,ah]
 rcases kh:t.h==0 with _ | _
 ·simp only[go_sem,bF,aT,aG,kpc,kh,B_,ag,ah]
 rcases kr:((t.r.length:Int)==0) with _ | _
 ·simp only[go_sem,bF,aT,aG,kpc,kh,kr,B_,ag,ah]
 rcases kid:t.id==0 with _ | _
 ·simp only[go_sem,bF,aT,aG,kpc,kh,kr,kid,B_,ag,ah]
 simp only[go_sem,bF,aT,aG,kpc,kh,kr,kid]
 refine AAN _ (by have:=TV t.q JH hq AEk; rw[AKf] at this; simpa only[go_sem,JH,NW,DPred.kind,DPred.col,DPred.op,DPred.v,DPred.l,df] using this) fun _=>?_
 exact AF6
theorem zG (t:DTask) (hq:Bl t.q):Ctr prog 314 [.agg t.c] [.val (.c (.v (.bool (B_ t))))]:=by
 refine CM call314 func314 ntmps314 results314 fun hw=>?_
 rcases kpc:t.pc==0 with _ | _
 ·simp only[go_sem,bF,aT,aG,kpc,B_,ag,ah]
 rcases kh:t.h==0 with _ | _
 ·simp only[go_sem,bF,aT,aG,kpc,kh,B_,ag,ah]
 rcases kr:((t.r.length:Int)==0) with _ | _
 ·simp only[go_sem,bF,aT,aG,kpc,kh,kr,B_,ag,ah]
 rcases kid:t.id==0 with _ | _
 ·simp only[go_sem,bF,aT,aG,kpc,kh,kr,kid,B_,ag,ah]
 simp only[go_sem,bF,aT,aG,kpc,kh,kr,kid]
 refine CW (AEj t.q) fun _=>?_
 exact AF6
def dY (t:DTask):List Cl:=[.v (.int .i64 t.op),.v (.int .i64 t.pc),.v (.int .i64 t.h),.sl (t.r.map DVal.c),.v (.int .i64 t.id),.v (.int .i64 t.q.kind),.v (.int .i64 t.q.p.kind),.v (.int .i64 t.q.p.col),.v (.int .i64 t.q.p.op),.v (.int .i64 t.q.p.v.ty),.v (.int .i64 t.q.p.v.n),.v (.string t.q.p.v.s),.sl (t.q.p.l.map DPred.c),.v (.int .i64 t.q.col),.sl (t.q.out.map intC),.v (.int .i64 t.ts),.v (.int .i64 t.ver),.sl (t.l.map DRef.c),.v (.int .i64 t.i),.v (.int .i64 t.j),.v (.int .i64 t.s),.v (.int .i64 t.at0),.v (.int .i64 t.own),.v (.bool t.won),.sl (t.got.map DRow.c)]
@[go_sem] theorem AKg (t:DTask):dY t = [.v (.int .i64 t.op),.v (.int .i64 t.pc),.v (.int .i64 t.h),.sl (t.r.map DVal.c),.v (.int .i64 t.id),.v (.int .i64 t.q.kind),.v (.int .i64 t.q.p.kind),.v (.int .i64 t.q.p.col),.v (.int .i64 t.q.p.op),.v (.int .i64 t.q.p.v.ty),.v (.int .i64 t.q.p.v.n),.v (.string t.q.p.v.s),.sl (t.q.p.l.map DPred.c),.v (.int .i64 t.q.col),.sl (t.q.out.map intC),.v (.int .i64 t.ts),.v (.int .i64 t.ver),.sl (t.l.map DRef.c),.v (.int .i64 t.i),.v (.int .i64 t.j),.v (.int .i64 t.s),.v (.int .i64 t.at0),.v (.int .i64 t.own),.v (.bool t.won),.sl (t.got.map DRow.c)]:=rfl
def Ko (k op:Int):Bool:=if(op==0)=true then true else if(decide (k<3))=true then Ad op 1 3 else op==4
theorem lu (k op:Int):Ctr prog 322 [.c (.v (.int .i64 (k))),.c (.v (.int .i64 (op)))] [.val (.c (.v (.bool (Ko k op))))]:=by
 refine CM call322 func322 ntmps322 results322 fun hw=>?_
 rcases h1:op==0 with _ | _
 ·rcases h2:decide (k<3) with _ | _
  ·simp only[go_sem,h1,h2,Ko,ay,aY]
  ·simp only[go_sem,h1,h2,Ko,ay,aY,bH]
   refine AAN _ (AL op 1 3) fun _=>?_
   exact AIu
 ·simp only[go_sem,h1,Ko,bH]
def numsL (t:DTask):List Int:=[t.h,t.id,t.ts,t.ver,t.i,t.j,t.s,t.at0,t.own]
def Cb (n:Int):Bool:=!decide (n<0)
def Gq (r:DRef):Bool:=Eg r && !decide (r.first<0)
def zH (t:DTask):Bool:=!((t.id != 0)&&((t.op != 1)&&(t.op != 2)))
def JX (t:DTask) (k:Int):Bool:=Ad k 0 4&&(Ko k t.op&&(Ad t.pc 0 9&&(!decide ((t.l.length:Int)>8)&&((numsL t).all Cb&&(t.l.all Gq&&(zH t&&((t.op != 0)||B_ t)))))))
def AC4 (t:DTask) (k:Int):Bool:=if(t.op==0)=true then B_ t else if(t.op==1)=true then decide (k<3) else if(t.op==2)=true then decide (k<3) else if(t.op==3)=true then decide (k<3)&&(t.id==0) else(t.op==4)&&(decide (k≥3)&&(t.id==0))
theorem AGt (t:DTask) (k:Int):AC4 t k=(Ko k t.op&&(zH t&&((t.op != 0)||B_ t))):=by
 have hb:B_ t=true→(t.id==0)=true:=by
  intro h
  simp only[B_,az] at h
  exact h.2.2.2.1
 unfold AC4 Ko zH
 rcases h0:t.op==0 with _ | _
 ·rcases h1:t.op==1 with _ | _
  ·rcases h2:t.op==2 with _ | _
   ·rcases h3:t.op==3 with _ | _
    ·have hr:Ad t.op 1 3=false:=by
      simp at h0 h1 h2 h3
      simp[Ad]; omega
     by_cases hk:k<3
     ·have hk2:decide (k≥3)=false:=by simp; omega
      simp[h0,h1,h2,hk,hk2,hr,bne]
     ·have hk2:decide (k≥3)=true:=by simp; omega
      simp[h0,h1,h2,hk,hk2,bne]
    ·have e3:t.op=3:=by simpa using h3
     by_cases hk:k<3<;>simp[e3,hk,Ad,bne]
   ·have e2:t.op=2:=by simpa using h2
    by_cases hk:k<3<;>simp[e2,hk,Ad,bne]
  ·have e1:t.op=1:=by simpa using h1
   by_cases hk:k<3<;>simp[e1,hk,Ad,bne]
 ·have e0:t.op=0:=by simpa using h0
  rcases hbl:B_ t with _ | _
  ·simp[e0,bne]
  ·have:=hb hbl
   simp[e0,bne,this]
theorem Xg (t:DTask) (k:Int) (hf:Ff t):Ctr prog 246 [.agg t.c,.c (.v (.int .i64 (k)))] [.val (.c (.v (.bool (JX t k))))]:=by
 rw[ED] at hf
 refine CM call246 func246 ntmps246 results246 fun hw=>?_
 have hl:=hf.2.2.1
 simp only[go_sem]
 refine AAN _ (AL k 0 4) fun _=>?_
 rcases h1:Ad k 0 4 with _ | _
 ·simp only[go_sem,h1,JX,ag]
 simp only[go_sem,h1]
 refine AAN _ (lu k t.op) fun _=>?_
 rcases h2:Ko k t.op with _ | _
 ·simp only[go_sem,h1,h2,JX,ag,ah]
 simp only[go_sem,h1,h2]
 refine AAN _ (AL t.pc 0 9) fun _=>?_
 rcases h3:Ad t.pc 0 9 with _ | _
 ·simp only[go_sem,h1,h2,h3,JX,ag,ah]
 rcases h4:decide ((t.l.length:Int)>8) with _ | _
 rotate_left
 ·simp only[go_sem,h1,h2,h3,h4,JX,aO,ag,ah]
 have ht:JX t k=((numsL t).all Cb&&(t.l.all Gq&&(zH t&&((t.op != 0)||B_ t)))):=by
  simp only[JX,h1,h2,h3,h4,aH,ah]
 simp only[go_sem,h1,h2,h3,h4,ak]
 refine AAT 2 (A:=Nat) (fun x=>[(51,.c (.v (.int .i64 (x))))]) (fun _=>[⟨132,25,[dY t],true,true⟩,⟨3,1,(numsL t).map intC,true,true⟩]) (Gp (numsL t) Cb) (fun x=>(numsL t).length-x) 0 ⟨⟨rfl,rfl⟩,rfl,EL⟩ ?_
 intro m hm
 refine AQx (fun h=>?_) fun h=>?_
 ·have hk':m<(numsL t).length:=by simp[numsL] at h ⊢; omega
  have hwm:IntKind.i64.wrap ((m:Int)+1)=((m+1:Nat):Int):=by have:m<9:=hk'; rw[wrap_i64 AQ2 AQ2]; rfl
  simp only[go_sem,AA _ hk',hk']
  refine AAP (fun hn=>?_) (fun hn=>?_)
  ·have hn2:Cb (numsL t)[m]=false:=by unfold Cb; rw[hn]; rfl
   simp only[go_sem,ht,BP (p:=Cb) hk' hn2,ag]
  ·have hn2:Cb (numsL t)[m]=true:=by unfold Cb; rw[hn]; rfl
   simp only[go_sem,hwm]
   exact⟨m+1,⟨rfl,rfl⟩,rfl,Bv hk' hm hn2,by have:m<(numsL t).length:=hk'; omega⟩
 have hk':m=(numsL t).length:=by have:=hm.1; simp[numsL] at h this ⊢; omega
 subst hk'
 rw[ht,DR hm,ah]
 simp only[go_sem]
 refine AAT 2 (A:=Nat) (fun x=>[(61,.c (.v (.int .i64 (x))))]) (fun _=>[⟨132,25,[dY t],true,true⟩,⟨3,1,(numsL t).map intC,true,true⟩]) (Gp t.l Gq) (fun x=>t.l.length-x) 0 ⟨⟨rfl,rfl⟩,rfl,EL⟩ ?_
 intro j hj
 refine AQx (fun h=>?_) fun h=>?_
 ·have hk':j<t.l.length:=by simpa using h
  simp only[go_sem,AA _ hk',hk']
  try refine AAO ?_
  try simp only[go_sem,AA _ hk',hk']
  first | refine CY (TT t.l[j]) ?_ | refine CW (TT t.l[j]) fun _=>?_
  rcases h5:Eg t.l[j] with _ | _
  ·simp only[go_sem,h5,BP (p:=Gq) hk' (by simp only[Gq,h5,ag]),ag]
  rcases h6:decide (t.l[j].first<0) with _ | _
  ·simp only[go_sem,h5,h6,wrap_i64 (n:=(j:Int)+1) AQ2 AQ2]
   exact AQc
  ·simp only[go_sem,h5,h6,BP (p:=Gq) hk' (by simp only[Gq,h5,h6]; rfl),ag]
 have hk':j=t.l.length:=ARX
 subst hk'
 rw[DR hj,ah]
 unfold zH
 have fin:∀ b,b=true→b=true:=fun _ h=>h
 rcases k0:t.op != 0 with _ | _
 ·have e0:t.op=0:=by simpa using k0
  have e1:(t.op != 1)=true:=by simp[e0]
  have e2:(t.op != 2)=true:=by simp[e0]
  rcases k3:t.id != 0 with _ | _
  ·simp only[go_sem,k0,k3,e1,e2,ag,aH,ah,bW]
   refine CW (zF t hf.2.1) fun _=>?_
   exact AIu
  ·simp only[go_sem,k0,k3,e1,e2,ah,aO,ag]
 ·rcases k1:t.op != 1 with _ | _<;>rcases k2:t.op != 2 with _ | _<;>rcases k3:t.id != 0 with _ | _ <;>
   simp only[go_sem,k0,k1,k2,k3,ag,aK,aH,aO,ah,Pv]
theorem AIV (t:DTask) (k:Int):JX t k=(Ad k 0 4&&(Ad t.pc 0 9&&((numsL t).all Cb&&(!decide ((t.l.length:Int)>8)&&(t.l.all Gq&&AC4 t k))))):=by
 rw[AGt]
 unfold JX
 rcases Ad k 0 4<;>rcases Ko k t.op<;>rcases Ad t.pc 0 9<;>rcases decide ((t.l.length:Int)>8)<;>rcases(numsL t).all Cb<;>rcases t.l.all Gq<;>simp only[ag,ah,aK,aO,aH]
theorem Xh (t:DTask) (k:Int) (hf:Ff t):Ctr prog 225 [.agg t.c,.c (.v (.int .i64 (k)))] [.val (.c (.v (.bool (JX t k))))]:=by
 rw[ED] at hf
 rw[AIV]
 refine CM call225 func225 ntmps225 results225 fun hw=>?_
 have hl:=hf.2.2.1
 simp only[go_sem,bF,aT,aG]
 refine AAN _ (AQ k 0 4) fun _=>?_
 rcases h1:Ad k 0 4 with _ | _
 ·simp only[go_sem,bF,aT,aG,h1,ag]
 simp only[go_sem,bF,aT,aG,h1]
 refine AAN _ (AQ t.pc 0 9) fun _=>?_
 rcases h3:Ad t.pc 0 9 with _ | _
 ·simp only[go_sem,bF,aT,aG,h1,h3,ag,ah]
 rcases n0:decide (t.h<0) with _ | _
 rotate_left
 ·have e:(numsL t).all Cb=false:=BP (k:=0) (show 0<9 from ARJ) (show Cb (t.h)=false by unfold Cb; rw[n0]; rfl)
  simp only[go_sem,bF,aT,aG,h1,h3,n0,e,ag,ah]
 rcases n1:decide (t.id<0) with _ | _
 rotate_left
 ·have e:(numsL t).all Cb=false:=BP (k:=1) (show 1<9 from ARJ) (show Cb (t.id)=false by unfold Cb; rw[n1]; rfl)
  simp only[go_sem,bF,aT,aG,h1,h3,n0,n1,e,ag,ah]
 rcases n2:decide (t.ts<0) with _ | _
 rotate_left
 ·have e:(numsL t).all Cb=false:=BP (k:=2) (show 2<9 from ARJ) (show Cb (t.ts)=false by unfold Cb; rw[n2]; rfl)
  simp only[go_sem,bF,aT,aG,h1,h3,n0,n1,n2,e,ag,ah]
 rcases n3:decide (t.ver<0) with _ | _
 rotate_left
 ·have e:(numsL t).all Cb=false:=BP (k:=3) (show 3<9 from ARJ) (show Cb (t.ver)=false by unfold Cb; rw[n3]; rfl)
  simp only[go_sem,bF,aT,aG,h1,h3,n0,n1,n2,n3,e,ag,ah]
 rcases n4:decide (t.i<0) with _ | _
 rotate_left
 ·have e:(numsL t).all Cb=false:=BP (k:=4) (show 4<9 from ARJ) (show Cb (t.i)=false by unfold Cb; rw[n4]; rfl)
  simp only[go_sem,bF,aT,aG,h1,h3,n0,n1,n2,n3,n4,e,ag,ah]
 rcases n5:decide (t.j<0) with _ | _
 rotate_left
 ·have e:(numsL t).all Cb=false:=BP (k:=5) (show 5<9 from ARJ) (show Cb (t.j)=false by unfold Cb; rw[n5]; rfl)
  simp only[go_sem,bF,aT,aG,h1,h3,n0,n1,n2,n3,n4,n5,e,ag,ah]
 rcases n6:decide (t.s<0) with _ | _
 rotate_left
 ·have e:(numsL t).all Cb=false:=BP (k:=6) (show 6<9 from ARJ) (show Cb (t.s)=false by unfold Cb; rw[n6]; rfl)
  simp only[go_sem,bF,aT,aG,h1,h3,n0,n1,n2,n3,n4,n5,n6,e,ag,ah]
 rcases n7:decide (t.at0<0) with _ | _
 rotate_left
 ·have e:(numsL t).all Cb=false:=BP (k:=7) (show 7<9 from ARJ) (show Cb (t.at0)=false by unfold Cb; rw[n7]; rfl)
  simp only[go_sem,bF,aT,aG,h1,h3,n0,n1,n2,n3,n4,n5,n6,n7,e,ag,ah]
 rcases n8:decide (t.own<0) with _ | _
 rotate_left
 ·have e:(numsL t).all Cb=false:=BP (k:=8) (show 8<9 from ARJ) (show Cb (t.own)=false by unfold Cb; rw[n8]; rfl)
  simp only[go_sem,bF,aT,aG,h1,h3,n0,n1,n2,n3,n4,n5,n6,n7,n8,e,ag,ah]
 have e9:(numsL t).all Cb=true:=by simp only[numsL,aW,bn,Cb,n0,n1,n2,n3,n4,n5,n6,n7,n8,aH,aF]
 rcases h4:decide ((t.l.length:Int)>8) with _ | _
 rotate_left
 ·simp only[go_sem,bF,aT,aG,h1,h3,n0,n1,n2,n3,n4,n5,n6,n7,n8,h4,aO,ag,aK]
 simp only[go_sem,bF,aT,aG,h1,h3,n0,n1,n2,n3,n4,n5,n6,n7,n8,h4,e9,aH,ah]
 refine AAT 1 (A:=Nat) (fun x=>[(5,.c (.v (.int .i64 (x))))]) (fun _=>[⟨132,25,[dY t],true,true⟩]) (Gp t.l Gq) (fun x=>t.l.length-x) 0 ⟨⟨rfl,rfl⟩,rfl,EL⟩ ?_
 intro j hj
 refine AQx (fun h=>?_) fun h=>?_
 ·have hk':j<t.l.length:=by simpa using h
  simp only[go_sem,AA _ hk',hk']
  try refine AAO ?_
  try simp only[go_sem,AA _ hk',hk']
  first | refine CY (TU t.l[j]) ?_ | refine CW (TU t.l[j]) fun _=>?_
  rcases h5:Eg t.l[j] with _ | _
  ·simp only[go_sem,AA _ hk',hk',h5,BP (p:=Gq) hk' (by simp only[Gq,h5,ag]),ag]
  rcases h6:decide (t.l[j].first<0) with _ | _
  ·simp only[go_sem,AA _ hk',hk',h5,h6,wrap_i64 (n:=(j:Int)+1) AQ2 AQ2]
   exact AQc
  ·simp only[go_sem,AA _ hk',hk',h5,h6,BP (p:=Gq) hk' (by simp only[Gq,h5,h6]; rfl),ag]
 have hk':j=t.l.length:=ARX
 subst hk'
 rw[DR hj,ah]
 unfold AC4
 rcases k0:t.op==0 with _ | _
 rotate_left
 ·simp only[go_sem,k0,bH]
  refine CW (zG t hf.2.1) fun _=>?_
  exact AIu
 rcases k1:t.op==1 with _ | _
 rotate_left
 ·simp only[go_sem,k0,k1,ay,aY,bH]
 rcases k2:t.op==2 with _ | _
 rotate_left
 ·simp only[go_sem,k0,k1,k2,ay,aY,bH]
 rcases k3:t.op==3 with _ | _
 rotate_left
 ·rcases k4:decide (k<3) with _ | _<;>simp only[go_sem,k0,k1,k2,k3,k4,ay,aY,bH,ag,ah]
 rcases k5:t.op==4 with _ | _
 ·simp only[go_sem,k0,k1,k2,k3,k5,ay,aY,ag]
 rcases k6:decide (k≥3) with _ | _<;>simp only[go_sem,k0,k1,k2,k3,k5,k6,ay,aY,ag,ah]
def isByte (c:Int):Prop:=0≤c∧c<256
def Af (b:List Int):Prop:=∀ c∈b,isByte c
theorem Vl {b:List Int} (h:Af b) {k:Nat} {c:Int} (hk:b[k]?=some c):isByte c:=h c (bI hk)
def zig (n:Int):Int:=if n<0 then -2*n-1 else 2*n
def zag (x:Int):Int:=if x%2=1 then -((x+1)/2) else x/2
theorem AIW {x:Int} (h:0≤x):zig (zag x)=x:=by
 unfold zig zag
 omega
theorem AIX {x:Int} (h:0≤x) (h2:x≤2000000000) : -1000000000≤zag x∧zag x≤1000000000:=by
 unfold zag
 omega
def jX:Nat→Int→List Int
 | 0,x=>[x]
 | f+1,x=>if x≥128 then(x%128+128)::jX f (x/128) else [x]
def FX (n:Int):List Int:=jX 4 (zig n)
def Kq (b:List Int) (p:Nat):Nat→Int→Nat→Option (Int×Nat)
 | 0,_,_=>none
 | f+1,x,i=>match b[p+i]? with
  | none=>none
  | some c=>if c≥128 then Kq b p f (x+(c%128)*128 ^ i) (i+1) else
   if(0<i∧c=0)∨x+(c%128)*128 ^ i>2000000000 then none else some (zag (x+(c%128)*128 ^ i),p+i+1)
def BU (b:List Int) (p:Int):Option (Int×Nat):=if 0≤p then Kq b p.toNat 5 0 0 else none
theorem AEl {b:List Int} (hb:Af b) (p:Nat):∀ (f:Nat) (x:Int) (i:Nat) (n:Int) (q:Nat),0≤x→Kq b p (f+1) x i=some (n,q) →
  ∃ y:Int,0≤y∧(0<i→0<y)∧x+y*128 ^ i≤2000000000∧n=zag (x+y*128 ^ i)∧p+i<q∧q≤b.length∧(b.drop (p+i)).take (q-(p+i))=jX f y:=by
 intro f
 induction f with
 | zero =>
  intro x i n q hx h
  simp only[Kq] at h
  cases hc:b[p+i]? with
  | none=>grind
  | some c =>
   simp only[hc] at h
   obtain⟨c0,c1⟩:=Vl hb hc
   split at h
   ·cases h
   ·rename_i hlt
    split at h
    ·cases h
    ·rename_i hno
     simp only[ai,bU] at h
     obtain⟨rfl,rfl⟩:=h
     have hm:c%128=c:=AQ2
     rw[hm] at hno ⊢
     have hl:=(aP.1 hc).1
     refine⟨c,c0,fun hi=>?_,AQ2,rfl,AQ2,AQ2, ?_⟩
     ·omega
     ·rw[aA hl]
      have e1:p+i+1-(p+i)=1:=AQ2
      have e2:b[p+i]=c:=(aP.1 hc).2
      rw[e1,e2]; simp[jX]
 | succ f ih =>
  intro x i n q hx h
  rw[Kq] at h
  cases hc:b[p+i]? with
  | none=>grind
  | some c =>
   simp only[hc] at h
   obtain⟨c0,c1⟩:=Vl hb hc
   have hl:=(aP.1 hc).1
   have e2:b[p+i]=c:=(aP.1 hc).2
   have hp:(0:Int)≤128 ^ i:=aa5 AQ2
   split at h
   ·rename_i hge
    have hm0:0≤c%128*128 ^ i:=abe AQ2 hp
    obtain⟨y,y0,y1,y2,y3,y4,y5,y6⟩:=ih _ (i+1) n q AQ2 h
    have y1:=y1 AQ2
    have e3:x+c%128*128 ^ i+y*128 ^ (i+1)=x+(c%128+y*128)*128 ^ i:=by
     rw[abp,Int.add_mul,Int.mul_assoc y 128,Int.mul_comm 128 (128 ^ i)]; omega
    rw[e3] at y2 y3
    refine⟨c%128+y*128,AQ2,fun _=>AQ2,y2,y3,AQ2,y5, ?_⟩
    rw[aA hl,e2]
    have e4:q-(p+i)=(q-(p+(i+1)))+1:=AQ2
    rw[e4,cu]
    have e5:p+i+1=p+(i+1):=AQ2
    rw[e5,y6,jX,bG AQ2]
    grind
   ·rename_i hlt
    split at h
    ·cases h
    ·rename_i hno
     simp only[ai,bU] at h
     obtain⟨rfl,rfl⟩:=h
     have hm:c%128=c:=AQ2
     rw[hm] at hno ⊢
     refine⟨c,c0,fun hi=>?_,AQ2,rfl,AQ2,AQ2, ?_⟩
     ·omega
     ·rw[aA hl,e2]
      have e1:p+i+1-(p+i)=1:=AQ2
      rw[e1]
      simp[jX,show ¬ c≥128 from AQ2]
theorem Ig {b:List Int} (hb:Af b) {p n:Int} {q:Nat} (h:BU b p=some (n,q)) :
  0≤p∧p<q∧q≤b.length∧ -1000000000≤n∧n≤1000000000∧(b.drop p.toNat).take (q-p.toNat)=FX n:=by
 unfold BU at h
 split at h
 ·rename_i hp
  obtain⟨y,y0,_,y2,y3,y4,y5,y6⟩:=AEl hb p.toNat 4 0 0 n q (abO _) h
  simp only[Int.pow_zero,Int.mul_one,Int.zero_add] at y2 y3
  have:=AIX y0 y2
  refine⟨hp,AQ2,y5,AQ2,AQ2, ?_⟩
  rw[FX,y3,AIW y0]
  omega
 ·cases h
end Go.Proofs.YthmifbbmgnhddaaGreat
