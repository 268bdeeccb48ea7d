/- A part. -/
import Derived.Test.YtnfbaclikokapaaGreatDk
set_option linter.unusedSimpArgs false
set_option linter.unusedVariables false
set_option maxHeartbeats 4000000
set_option maxRecDepth 10000
open Go.Proofs.Tryz
namespace Go.Proofs.YtnfbaclikokapaaGreat
open Go.Vm
attribute [go_sem] ae
theorem BF {α:Type} {l:List α} {p:α→Bool} {k:Nat} (hk:k<l.length) (h:p l[k]=false):l.all p=false:=by
 rw[Bool.eq_false_iff]
 intro h2
 have:=aF.1 h2 _ (aj hk)
 rw[h] at this; cases this
theorem ADJ {α:Type} {l:List α} {p:α→Bool} (h:∀ i (hi:i<l.length),i<l.length→p l[i]=true):l.all p=true:=aF.2 fun x hx=>by
 obtain⟨i,hi,rfl⟩:=aaz.1 hx
 exact h i hi hi
theorem AE7 {α:Type} {l:List α} {p:α→Bool} {k:Nat} (hk:k<l.length) (hall:∀ i (h:i<l.length),i<k→p l[i]=true) (hc:p l[k]=true):k+1≤l.length∧∀ i (h:i<l.length),i<k+1→p l[i]=true:=⟨hk,fun i h2 h3=>by
 by_cases e:i=k
 ·subst e; exact hc
 ·exact hall i h2 (by omega)⟩
def FO {α:Type} (l:List α) (p:α→Bool) (k:Nat):Prop:=k≤l.length∧∀ i (h:i<l.length),i<k→p l[i]=true
theorem DW {α:Type} {l:List α} {p:α→Bool}:FO l p 0:=⟨ax _,fun _ _ h=>by omega⟩
theorem Bc {α:Type} {l:List α} {p:α→Bool} {k:Nat} (hk:k<l.length) (h:FO l p k) (hc:p l[k]=true):FO l p (k+1):=AE7 hk h.2 hc
theorem CP {α:Type} {l:List α} {p:α→Bool} (h:FO l p l.length):l.all p=true:=ADJ h.2
def Lt (c:DConf):Bool:=EQ c.cols&&(Ac c.slots 1 4&&Ac c.bufs 1 8)
theorem UT (c:DConf):Ctr prog 105 [.agg c.c] [.val (.c (.v (.bool (Lt c))))]:=by
 refine CM call105 func105 ntmps105 results105 fun hw=>?_
 simp only[go_sem]
 refine CallK.mk _ (OM c.cols) fun _=>?_
 rcases h1:EQ c.cols with _ | _
 ·simp only[go_sem,Lt,h1,ag]
 simp only[go_sem,h1]
 refine CallK.mk _ (AC c.slots 1 4) fun _=>?_
 rcases h2:Ac c.slots 1 4 with _ | _
 ·simp only[go_sem,Lt,h1,h2,ag,ai]
 simp only[go_sem,h1,h2]
 refine CallK.mk _ (AC c.bufs 1 8) fun _=>?_
 simp only[go_sem,Lt,h1,h2,ai]
theorem UU (c:DConf):Ctr prog 88 [.agg c.c] [.val (.c (.v (.bool (Lt c))))]:=by
 refine CM call88 func88 ntmps88 results88 fun hw=>?_
 simp only[go_sem]
 refine CallK.mk _ (OL c.cols) fun _=>?_
 rcases h1:EQ c.cols with _ | _
 ·simp only[go_sem,Lt,h1,ag]
 simp only[go_sem,h1]
 refine CallK.mk _ (AL c.slots 1 4) fun _=>?_
 rcases h2:Ac c.slots 1 4 with _ | _
 ·simp only[go_sem,Lt,h1,h2,ag,ai]
 simp only[go_sem,h1,h2]
 refine CallK.mk _ (AL c.bufs 1 8) fun _=>?_
 simp only[go_sem,Lt,h1,h2,ai]
def NK (n:Int):Bool:=decide (n ≥ -1)
theorem UV (n:Int):Ctr prog 180 [.c (.v (.int .i64 (n)))] [.val (.c (.v (.bool (NK n))))]:=by
 refine CM call180 func180 ntmps180 results180 fun hw=>?_
 simp only[go_sem,NK]
theorem Oi (n:Int):Ctr prog 163 [.c (.v (.int .i64 (n)))] [.val (.c (.v (.bool (NK n))))]:=by
 refine CM call163 func163 ntmps163 results163 fun hw=>?_
 simp only[go_sem,NK]
def QB (e p:Int):Bool:=!((p != -1) && !Ac p 0 e)
def NL (l:List Int) (e:Int):Bool:=l.all (QB e)
theorem UW (l:List Int) (e:Int) (hl:l.length≤1048576):Ctr prog 112 [.c (.sl (l.map intC)),.c (.v (.int .i64 (e)))] [.val (.c (.v (.bool (NL l e))))]:=by
 refine CM call112 func112 ntmps112 results112 fun hw=>?_
 simp only[go_sem]
 refine LoopU.mk 0 (A:=Nat) (fun x=>[(9,.c (.v (.int .i64 (x))))]) (fun _=>[]) (FO l (QB e)) (fun x=>l.length-x) 0 ⟨⟨rfl,rfl⟩,rfl,DW⟩ ?_
 intro k hk
 simp only[go_sem]
 refine cndC.mk (fun h=>?_) (fun h=>?_)
 ·have hk':k<l.length:=by simpa using h
  rcases h1:l[k] != -1 with _ | _
  ·simp only[go_sem,AA _ hk',hk',h1,wrap_i64 (n:=(k:Int)+1) (by omega) (by omega)]
   exact⟨k+1,⟨rfl,rfl⟩,rfl,Bc hk' hk (by simp[QB,h1]),by omega⟩
  simp only[go_sem,AA _ hk',hk',h1]
  refine CallK.mk _ (AC l[k] 0 e) fun _=>?_
  rcases h2:Ac l[k] 0 e with _ | _
  ·simp only[go_sem,h2,NL,BF (p:=QB e) hk' (by simp[QB,h1,h2])]
  ·simp only[go_sem,h2,wrap_i64 (n:=(k:Int)+1) (by omega) (by omega)]
   exact⟨k+1,⟨rfl,rfl⟩,rfl,Bc hk' hk (by simp[QB,h1,h2]),by omega⟩
 ·have hk':k=l.length:=by have:=hk.1; simp at h; omega
  subst hk'
  simp only[go_sem,NL,CP hk]
theorem UX (l:List Int) (e:Int) (hl:l.length≤1048576):Ctr prog 91 [.c (.sl (l.map intC)),.c (.v (.int .i64 (e)))] [.val (.c (.v (.bool (NL l e))))]:=by
 refine CM call91 func91 ntmps91 results91 fun hw=>?_
 simp only[go_sem]
 refine LoopU.mk 0 (A:=Nat) (fun x=>[(5,.c (.v (.int .i64 (x))))]) (fun _=>[]) (FO l (QB e)) (fun x=>l.length-x) 0 ⟨⟨rfl,rfl⟩,rfl,DW⟩ ?_
 intro k hk
 simp only[go_sem]
 refine cndC.mk (fun h=>?_) (fun h=>?_)
 ·have hk':k<l.length:=by simpa using h
  rcases h1:l[k] != -1 with _ | _
  ·simp only[go_sem,AA _ hk',hk',h1,wrap_i64 (n:=(k:Int)+1) (by omega) (by omega)]
   exact⟨k+1,⟨rfl,rfl⟩,rfl,Bc hk' hk (by simp[QB,h1]),by omega⟩
  simp only[go_sem,AA _ hk',hk',h1]
  refine CallK.mk _ (AL l[k] 0 e) fun _=>?_
  rcases h2:Ac l[k] 0 e with _ | _
  ·simp only[go_sem,h2,NL,BF (p:=QB e) hk' (by simp[QB,h1,h2])]
  ·simp only[go_sem,h2,wrap_i64 (n:=(k:Int)+1) (by omega) (by omega)]
   exact⟨k+1,⟨rfl,rfl⟩,rfl,Bc hk' hk (by simp[QB,h1,h2]),by omega⟩
 ·have hk':k=l.length:=by have:=hk.1; simp at h; omega
  subst hk'
  simp only[go_sem,NL,CP hk]
def endOf (d:DDir):Int:=match d.l.getLast? with
 | none=>0
 | some r=>IntKind.i64.wrap (r.first+r.many)
theorem fJ {d:DDir} (h:d.l = []):endOf d=0:=by simp[endOf,h]
theorem qP {d:DDir} {k:Nat} (h:d.l.length=k+1):∃ hk:k<d.l.length,endOf d=IntKind.i64.wrap (d.l[k].first+d.l[k].many):=by
 have hk:k<d.l.length:=by omega
 refine⟨hk, ?_⟩
 unfold endOf
 rw[List.getLast?_eq_getElem?,h,show k+1-1=k from rfl,aA hk]
theorem WG (d:DDir) (hl:d.l.length≤1048576):Ctr prog 181 [.agg d.c] [.val (.c (.v (.int .i64 (endOf d))))]:=by
 refine CM call181 func181 ntmps181 results181 fun hw=>?_
 rcases hn:d.l.length with _ | k
 ·have e0:((d.l.length:Int)==0)=true:=by rw[hn]; rfl
  simp only[go_sem,e0,fJ (List.length_eq_zero_iff.1 hn)]
 obtain⟨hk,he⟩:=qP hn
 have e0:((d.l.length:Int)==0)=false:=by rw[hn]; simp; omega
 have e1:IntKind.i64.wrap ((d.l.length:Int)-1)=(k:Int):=by rw[wrap_i64 (by omega) (by omega)]; omega
 simp only[go_sem,e0,e1,AA _ hk,hk,he]
theorem WH (d:DDir) (hl:d.l.length≤1048576):Ctr prog 164 [.agg d.c] [.val (.c (.v (.int .i64 (endOf d))))]:=by
 refine CM call164 func164 ntmps164 results164 fun hw=>?_
 rcases hn:d.l.length with _ | k
 ·have e0:((d.l.length:Int)==0)=true:=by rw[hn]; rfl
  simp only[go_sem,e0,fJ (List.length_eq_zero_iff.1 hn)]
 obtain⟨hk,he⟩:=qP hn
 have e0:((d.l.length:Int)==0)=false:=by rw[hn]; simp; omega
 have e1:IntKind.i64.wrap ((d.l.length:Int)-1)=(k:Int):=by rw[wrap_i64 (by omega) (by omega)]; omega
 simp only[go_sem,e0,e1,AA _ hk,hk,he]
def Dt (r:DRef):Bool:=decide (r.buf≥0)&&(decide (r.gen≥0)&&(Ac r.kind 1 2&&Ac r.many 1 1000000000))
theorem AE8 (n:Int):((n==1)||(n==2))=Ac n 1 2:=by
 simp only[Ac]
 rcases h1:n==1 with _ | _
 ·rcases h2:n==2 with _ | _
  ·simp at h1 h2 ⊢
   omega
  ·simp at h2 ⊢
   omega
 ·simp at h1 ⊢
  omega
theorem QC (r:DRef):Ctr prog 177 [.agg r.c] [.val (.c (.v (.bool (Dt r))))]:=by
 refine CM call177 func177 ntmps177 results177 fun hw=>?_
 rcases h1:decide (r.buf≥0) with _ | _
 ·simp only[go_sem,h1,Dt,ag]
 rcases h2:decide (r.gen≥0) with _ | _
 ·simp only[go_sem,h1,h2,Dt,ag,ai]
 have e:=AE8 r.kind
 rcases h3:r.kind==1 with _ | _
 ·rcases h4:r.kind==2 with _ | _
  ·rw[h3,h4] at e
   simp only[go_sem,h1,h2,h3,h4,Dt,← e,ag,ai,abr]
  ·rw[h3,h4] at e
   simp only[go_sem,h1,h2,h3,h4]
   refine CallK.mk _ (AC r.many 1 1000000000) fun _=>?_
   simp only[go_sem,Dt,h1,h2,← e,ai,Bool.or_true]
 ·rw[h3,cO] at e
  simp only[go_sem,h1,h2,h3]
  refine CallK.mk _ (AC r.many 1 1000000000) fun _=>?_
  simp only[go_sem,Dt,h1,h2,← e,ai]
theorem QD (r:DRef):Ctr prog 157 [.agg r.c] [.val (.c (.v (.bool (Dt r))))]:=by
 refine CM call157 func157 ntmps157 results157 fun hw=>?_
 rcases h1:decide (r.buf≥0) with _ | _
 ·simp only[go_sem,h1,Dt,ag]
 rcases h2:decide (r.gen≥0) with _ | _
 ·simp only[go_sem,h1,h2,Dt,ag,ai]
 simp only[go_sem,h1,h2]
 refine CallK.mk _ (AL r.kind 1 2) fun _=>?_
 rcases h3:Ac r.kind 1 2 with _ | _
 ·simp only[go_sem,h1,h2,h3,Dt,ag,ai]
 have e:Ac r.many 1 1000000000=(decide (r.many≥1)&&decide (r.many≤1000000000)):=rfl
 rcases h4:decide (r.many≥1) with _ | _
 ·simp only[go_sem,h1,h2,h3,h4,Dt,e,ag,ai]
 ·simp only[go_sem,h1,h2,h3,h4,Dt,e,ai]
def D_ (l:List DRef) (n:Int):Bool:=l.any fun r=>r.buf==n
theorem kM {α:Type} {l:List α} {p:α→Bool} {k:Nat} (hk:k<l.length) (h:p l[k]=true):l.any p=true:=List.any_eq_true.2 ⟨_,aj hk,h⟩
theorem uk {α:Type} {l:List α} {p:α→Bool} (h:FO l (fun x=>!p x) l.length):l.any p=false:=by
 rw[Bool.eq_false_iff]
 intro h2
 obtain⟨x,hx,hp⟩:=List.any_eq_true.1 h2
 obtain⟨i,hi,rfl⟩:=aaz.1 hx
 have:=h.2 i hi hi
 simp[hp] at this
theorem kN (d:DDir) (n:Int) (hl:d.l.length≤1048576):Ctr prog 178 [.agg d.c,.c (.v (.int .i64 (n)))] [.val (.c (.v (.bool (D_ d.l n))))]:=by
 refine CM call178 func178 ntmps178 results178 fun hw=>?_
 simp only[go_sem]
 refine LoopU.mk 1 (A:=Nat) (fun x=>[(10,.c (.v (.int .i64 (x))))]) (fun _=>[⟨38,2,[d.c],true,true⟩]) (FO d.l fun r=>!(r.buf==n)) (fun x=>d.l.length-x) 0 ⟨⟨rfl,rfl⟩,rfl,DW⟩ ?_
 intro k hk
 simp only[go_sem]
 refine cndC.mk (fun h=>?_) (fun h=>?_)
 ·have hk':k<d.l.length:=by simpa using h
  rcases h1:d.l[k].buf==n with _ | _
  ·simp only[go_sem,AA _ hk',hk',h1,wrap_i64 (n:=(k:Int)+1) (by omega) (by omega)]
   exact⟨k+1,⟨rfl,rfl⟩,rfl,Bc hk' hk (by simp[h1]),by omega⟩
  ·simp only[go_sem,AA _ hk',hk',h1,D_,kM (p:=fun r:DRef=>r.buf==n) hk' h1]
 ·have hk':k=d.l.length:=by have:=hk.1; simp at h; omega
  subst hk'
  simp only[go_sem,D_,uk hk]
theorem UY (d:DDir) (n:Int) (hl:d.l.length≤1048576):Ctr prog 160 [.agg d.c,.c (.v (.int .i64 (n)))] [.val (.c (.v (.bool (D_ d.l n))))]:=by
 refine CM call160 func160 ntmps160 results160 fun hw=>?_
 simp only[go_sem]
 refine LoopU.mk 1 (A:=Nat) (fun x=>[(5,.c (.v (.int .i64 (x))))]) (fun _=>[⟨38,2,[d.c],true,true⟩]) (FO d.l fun r=>!(r.buf==n)) (fun x=>d.l.length-x) 0 ⟨⟨rfl,rfl⟩,rfl,DW⟩ ?_
 intro k hk
 simp only[go_sem]
 refine cndC.mk (fun h=>?_) (fun h=>?_)
 ·have hk':k<d.l.length:=by simpa using h
  rcases h1:d.l[k].buf==n with _ | _
  ·simp only[go_sem,AA _ hk',hk',h1,wrap_i64 (n:=(k:Int)+1) (by omega) (by omega)]
   exact⟨k+1,⟨rfl,rfl⟩,rfl,Bc hk' hk (by simp[h1]),by omega⟩
  ·simp only[go_sem,AA _ hk',hk',h1,D_,kM (p:=fun r:DRef=>r.buf==n) hk' h1]
 ·have hk':k=d.l.length:=by have:=hk.1; simp at h; omega
  subst hk'
  simp only[go_sem,D_,uk hk]
def Lu:List Int→List Int→Bool
 | [],[]=>true
 | a::l,b::m=>(a==b)&&Lu l m
 | _,_=>false
theorem VQ:∀ (a b:List Int),a.length≠b.length→Lu a b=false
 | [],[],h=>by simp at h
 | [],_::_,_=>rfl
 | _::_,[],_=>rfl
 | a::l,b::m,h=>by simp only[Lu]; rw[VQ l m (by simpa using h)]; simp
theorem Y4 (a b:List Int) {k:Nat} (h1:k<a.length) (h2:k<b.length):Lu (a.drop k) (b.drop k)=((a[k]==b[k])&&Lu (a.drop (k+1)) (b.drop (k+1))):=by
 rw[aG h1,aG h2]; rfl
theorem Y5 (a b:List Int) (ha:a.length≤1048576) (hb:b.length≤1048576):Ctr prog 257 [.c (.sl (a.map intC)),.c (.sl (b.map intC))] [.val (.c (.v (.bool (Lu a b))))]:=by
 refine CM call257 func257 ntmps257 results257 fun hw=>?_
 simp only[go_sem]
 refine cndC.mk (fun h=>?_) (fun h=>?_)
 ·simp only[go_sem]
  rw[VQ a b (by simp at h; omega)]
 ·have he:a.length=b.length:=by simp at h; omega
  simp only[go_sem]
  refine LoopU.mk 0 (A:=Nat) (fun k=>[(13,.c (.v (.int .i64 (k))))]) (fun _=>[]) (fun k=>k≤a.length∧Lu (a.drop k) (b.drop k)=Lu a b) (fun k=>a.length-k) 0 ⟨⟨rfl,rfl⟩,rfl,ax _,rfl⟩ ?_
  rintro k ⟨hk,hf⟩
  simp only[go_sem]
  refine cndC.mk (fun h=>?_) (fun h=>?_)
  ·have hk':k<a.length:=by simpa using h
   have hk2:k<b.length:=by omega
   rw[Y4 a b hk' hk2] at hf
   rcases hv:a[k]==b[k] with _ | _
   ·have hv2:(a[k] != b[k])=true:=by simp[bne,hv]
    simp only[go_sem,AA _ hk',AA _ hk2,hk',hk2,hv,hv2]
    refine DrawK.mk ?_
    simp only[go_sem,AA _ hk',AA _ hk2,hk',hk2,hv,hv2]
    rw[hv,ag] at hf
    rw[hf]
   ·have hv2:(a[k] != b[k])=false:=by simp[bne,hv]
    simp only[go_sem,AA _ hk',AA _ hk2,hk',hk2,hv,hv2]
    refine DrawK.mk ?_
    simp only[go_sem,AA _ hk',AA _ hk2,hk',hk2,hv,hv2,wrap_i64 (n:=(k:Int)+1) (by omega) (by omega)]
    rw[hv,ai] at hf
    exact⟨k+1,⟨rfl,rfl⟩,rfl,⟨by omega,hf⟩,by omega⟩
  ·have hk':k=a.length:=by simp at h; omega
   subst hk'
   simp only[go_sem]
   rw[← hf,aU,he,aU]; rfl
theorem Y6 (a b:List Int) (ha:a.length≤1048576) (hb:b.length≤1048576):Ctr prog 246 [.c (.sl (a.map intC)),.c (.sl (b.map intC))] [.val (.c (.v (.bool (Lu a b))))]:=by
 refine CM call246 func246 ntmps246 results246 fun hw=>?_
 simp only[go_sem]
 refine cndC.mk (fun h=>?_) (fun h=>?_)
 ·simp only[go_sem]
  rw[VQ a b (by simp at h; omega)]
 ·have he:a.length=b.length:=by simp at h; omega
  simp only[go_sem]
  refine LoopU.mk 0 (A:=Nat) (fun k=>[(5,.c (.v (.int .i64 (k))))]) (fun _=>[]) (fun k=>k≤a.length∧Lu (a.drop k) (b.drop k)=Lu a b) (fun k=>a.length-k) 0 ⟨⟨rfl,rfl⟩,rfl,ax _,rfl⟩ ?_
  rintro k ⟨hk,hf⟩
  simp only[go_sem]
  refine cndC.mk (fun h=>?_) (fun h=>?_)
  ·have hk':k<a.length:=by simpa using h
   have hk2:k<b.length:=by omega
   rw[Y4 a b hk' hk2] at hf
   rcases hv:a[k]==b[k] with _ | _
   ·have hv2:(a[k] != b[k])=true:=by simp[bne,hv]
    simp only[go_sem,AA _ hk',AA _ hk2,hk',hk2,hv,hv2]
    refine DrawK.mk ?_
    simp only[go_sem,AA _ hk',AA _ hk2,hk',hk2,hv,hv2]
    rw[hv,ag] at hf
    rw[hf]
   ·have hv2:(a[k] != b[k])=false:=by simp[bne,hv]
    simp only[go_sem,AA _ hk',AA _ hk2,hk',hk2,hv,hv2]
    refine DrawK.mk ?_
    simp only[go_sem,AA _ hk',AA _ hk2,hk',hk2,hv,hv2,wrap_i64 (n:=(k:Int)+1) (by omega) (by omega)]
    rw[hv,ai] at hf
    exact⟨k+1,⟨rfl,rfl⟩,rfl,⟨by omega,hf⟩,by omega⟩
  ·have hk':k=a.length:=by simp at h; omega
   subst hk'
   simp only[go_sem]
   rw[← hf,aU,he,aU]; rfl
mutual
def Md:DPred→DPred→Bool
 | .mk k c o v l,q=>(k==q.kind)&&((c==q.col)&&((o==q.op)&&(LC v q.v&&GY l q.l)))
def GY:List DPred→List DPred→Bool
 | [],[]=>true
 | a::l,b::m=>Md a b&&GY l m
 | _,_=>false
end
theorem Y7 (p q:DPred):Md p q=((p.kind==q.kind)&&((p.col==q.col)&&((p.op==q.op)&&(LC p.v q.v&&GY p.l q.l)))):=by
 cases p
 rw[Md]
 rfl
theorem SI:∀ (a b:List DPred),a.length≠b.length→GY a b=false
 | [],[],h=>by simp at h
 | [],_::_,_=>by rw[GY]<;>simp
 | _::_,[],_=>by rw[GY]<;>simp
 | a::l,b::m,h=>by rw[GY,SI l m (by simpa using h)]; simp
theorem WI (a b:List DPred) {k:Nat} (h1:k<a.length) (h2:k<b.length):GY (a.drop k) (b.drop k)=(Md a[k] b[k]&&GY (a.drop (k+1)) (b.drop (k+1))):=by
 rw[aG h1,aG h2,GY]
def Y8 (p:DPred):List Cl:=[.v (.int .i64 p.kind),.v (.int .i64 p.col),.v (.int .i64 p.op),.v (.int .i64 p.v.ty),.v (.int .i64 p.v.n),.v (.string p.v.s),.sl (p.l.map DPred.c)]
@[go_sem] theorem AG1 (p:DPred):Y8 p = [.v (.int .i64 p.kind),.v (.int .i64 p.col),.v (.int .i64 p.op),.v (.int .i64 p.v.ty),.v (.int .i64 p.v.n),.v (.string p.v.s),.sl (p.l.map DPred.c)]:=rfl
theorem zX (p q:DPred) (hp:Aq p) (hq:Aq q) (hx:∀ x∈p.l,∀ y∈q.l,Ctr prog 256 [.agg x.c,.agg y.c] [.val (.c (.v (.bool (Md x y))))]):Ctr prog 256 [.agg p.c,.agg q.c] [.val (.c (.v (.bool (Md p q))))]:=by
 refine CM call256 func256 ntmps256 results256 fun hw=>?_
 have hpl:p.l.length≤1048576:=by rw[BP] at hp; exact hp.2.1
 have hql:q.l.length≤1048576:=by rw[BP] at hq; exact hq.2.1
 rw[Y7 p q]
 have e1:(p.v.ty==q.v.ty&&(p.v.n==q.v.n&&p.v.s.toList==q.v.s.toList))=LC p.v q.v:=rfl
 rcases h1:p.kind==q.kind with _ | _
 ·have g1:(p.kind != q.kind)=true:=by simp[bne,h1]
  simp only[go_sem,h1,g1,ag]
 have g1:(p.kind != q.kind)=false:=by simp[bne,h1]
 rcases h2:p.col==q.col with _ | _
 ·have g2:(p.col != q.col)=true:=by simp[bne,h2]
  simp only[go_sem,h1,g1,h2,g2,ag,ai]
 have g2:(p.col != q.col)=false:=by simp[bne,h2]
 rcases h3:p.op==q.op with _ | _
 ·have g3:(p.op != q.op)=true:=by simp[bne,h3]
  simp only[go_sem,h1,g1,h2,g2,h3,g3,ag,ai]
 have g3:(p.op != q.op)=false:=by simp[bne,h3]
 rcases h4:LC p.v q.v with _ | _
 ·simp only[go_sem,h1,g1,h2,g2,h3,g3,e1,h4,Dc,Gs,aS,aO,ag,ai]
 simp only[go_sem,h1,g1,h2,g2,h3,g3,e1,h4,Dc,Gs,aS,aQ,ai]
 refine cndC.mk (fun h=>?_) (fun h=>?_)
 ·simp only[go_sem]
  rw[SI p.l q.l (by simp at h; omega)]
 have he:p.l.length=q.l.length:=by simp at h; omega
 simp only[go_sem]
 refine LoopU.mk 2 (A:=Nat) (fun k=>[(44,.c (.v (.int .i64 (k))))]) (fun _=>[⟨71,7,[Y8 p],true,true⟩,⟨71,7,[Y8 q],true,true⟩]) (fun k=>k≤p.l.length∧GY (p.l.drop k) (q.l.drop k)=GY p.l q.l) (fun k=>p.l.length-k) 0 ⟨⟨rfl,rfl⟩,rfl,ax _,rfl⟩ ?_
 rintro k ⟨hk,hb⟩
 simp only[go_sem]
 refine cndC.mk (fun h=>?_) (fun h=>?_)
 ·have hk':k<p.l.length:=by simpa using h
  have hk2:k<q.l.length:=by omega
  rw[WI p.l q.l hk' hk2] at hb
  simp only[go_sem,AA _ hk',AA _ hk2,hk',hk2]
  try refine DrawK.mk ?_
  try simp only[go_sem,AA _ hk',AA _ hk2,hk',hk2]
  first | refine CY (hx p.l[k] (aj hk') q.l[k] (aj hk2)) ?_ | refine CW (hx p.l[k] (aj hk') q.l[k] (aj hk2)) fun _=>?_
  rcases hv:Md p.l[k] q.l[k] with _ | _
  ·simp only[go_sem,hv]
   rw[hv,ag] at hb
   rw[← hb]
  ·simp only[go_sem,hv,wrap_i64 (n:=(k:Int)+1) (by omega) (by omega)]
   rw[hv,ai] at hb
   exact⟨k+1,⟨rfl,rfl⟩,rfl,⟨by omega,hb⟩,by omega⟩
 ·have hk':k=p.l.length:=by simp at h; omega
  subst hk'
  simp only[go_sem]
  rw[← hb,aU,he,aU,GY]
theorem zY (p q:DPred) (hp:Aq p) (hq:Aq q) (hx:∀ x∈p.l,∀ y∈q.l,Ctr prog 247 [.agg x.c,.agg y.c] [.val (.c (.v (.bool (Md x y))))]):Ctr prog 247 [.agg p.c,.agg q.c] [.val (.c (.v (.bool (Md p q))))]:=by
 refine CM call247 func247 ntmps247 results247 fun hw=>?_
 have hpl:p.l.length≤1048576:=by rw[BP] at hp; exact hp.2.1
 have hql:q.l.length≤1048576:=by rw[BP] at hq; exact hq.2.1
 rw[Y7 p q]
 have e1:(p.v.ty==q.v.ty&&(p.v.n==q.v.n&&p.v.s.toList==q.v.s.toList))=LC p.v q.v:=rfl
 rcases h1:p.kind==q.kind with _ | _
 ·have g1:(p.kind != q.kind)=true:=by simp[bne,h1]
  simp only[go_sem,h1,g1,ag]
 have g1:(p.kind != q.kind)=false:=by simp[bne,h1]
 rcases h2:p.col==q.col with _ | _
 ·have g2:(p.col != q.col)=true:=by simp[bne,h2]
  simp only[go_sem,h1,g1,h2,g2,ag,ai]
 have g2:(p.col != q.col)=false:=by simp[bne,h2]
 rcases h3:p.op==q.op with _ | _
 ·have g3:(p.op != q.op)=true:=by simp[bne,h3]
  simp only[go_sem,h1,g1,h2,g2,h3,g3,ag,ai]
 have g3:(p.op != q.op)=false:=by simp[bne,h3]
 rcases h4:LC p.v q.v with _ | _
 ·simp only[go_sem,h1,g1,h2,g2,h3,g3,e1,h4,Dc,Gs,aS,aO,ag,ai]
 simp only[go_sem,h1,g1,h2,g2,h3,g3,e1,h4,Dc,Gs,aS,aQ,ai]
 refine cndC.mk (fun h=>?_) (fun h=>?_)
 ·simp only[go_sem]
  rw[SI p.l q.l (by simp at h; omega)]
 have he:p.l.length=q.l.length:=by simp at h; omega
 simp only[go_sem]
 refine LoopU.mk 2 (A:=Nat) (fun k=>[(5,.c (.v (.int .i64 (k))))]) (fun _=>[⟨71,7,[Y8 p],true,true⟩,⟨71,7,[Y8 q],true,true⟩]) (fun k=>k≤p.l.length∧GY (p.l.drop k) (q.l.drop k)=GY p.l q.l) (fun k=>p.l.length-k) 0 ⟨⟨rfl,rfl⟩,rfl,ax _,rfl⟩ ?_
 rintro k ⟨hk,hb⟩
 simp only[go_sem]
 refine cndC.mk (fun h=>?_) (fun h=>?_)
 ·have hk':k<p.l.length:=by simpa using h
  have hk2:k<q.l.length:=by omega
  rw[WI p.l q.l hk' hk2] at hb
  simp only[go_sem,AA _ hk',AA _ hk2,hk',hk2]
  try refine DrawK.mk ?_
  try simp only[go_sem,AA _ hk',AA _ hk2,hk',hk2]
  first | refine CY (hx p.l[k] (aj hk') q.l[k] (aj hk2)) ?_ | refine CW (hx p.l[k] (aj hk') q.l[k] (aj hk2)) fun _=>?_
  rcases hv:Md p.l[k] q.l[k] with _ | _
  ·simp only[go_sem,hv]
   rw[hv,ag] at hb
   rw[← hb]
  ·simp only[go_sem,hv,wrap_i64 (n:=(k:Int)+1) (by omega) (by omega)]
   rw[hv,ai] at hb
   exact⟨k+1,⟨rfl,rfl⟩,rfl,⟨by omega,hb⟩,by omega⟩
 ·have hk':k=p.l.length:=by simp at h; omega
  subst hk'
  simp only[go_sem]
  rw[← hb,aU,he,aU,GY]
theorem qQ {C:DPred→DPred→Prop} (h:∀ p q,Aq p→Aq q→(∀ x∈p.l,∀ y∈q.l,C x y)→C p q):∀ (n:Nat) (p q:DPred),SizeOf.sizeOf p≤n→Aq p→Aq q→C p q:=by
 intro n
 induction n with
 | zero=>intro p q h; cases p; simp at h
 | succ n ih =>
  intro p q hs hp hq
  refine h p q hp hq fun x hx y hy=>ih x y ?_ ?_ ?_
  ·have h1:SizeOf.sizeOf x<SizeOf.sizeOf p.l:=v_ hx
   have h2:SizeOf.sizeOf p.l<SizeOf.sizeOf p:=by cases p; simp[DPred.l]; omega
   omega
  ·rw[BP] at hp; exact hp.2.2 x hx
  ·rw[BP] at hq; exact hq.2.2 y hy
theorem qR (p q:DPred) (hp:Aq p) (hq:Aq q):Ctr prog 256 [.agg p.c,.agg q.c] [.val (.c (.v (.bool (Md p q))))]:=qQ zX _ p q (aN _) hp hq
theorem qU (p q:DPred) (hp:Aq p) (hq:Aq q):Ctr prog 247 [.agg p.c,.agg q.c] [.val (.c (.v (.bool (Md p q))))]:=qQ zY _ p q (aN _) hp hq
def UZ (a b:DQuery):Bool:=(a.kind==b.kind)&&(Md a.p b.p&&((a.col==b.col)&&Lu a.out b.out))
theorem QE (a b:DQuery) (ha:Dv a) (hb:Dv b):Ctr prog 230 [.agg a.c,.agg b.c] [.val (.c (.v (.bool (UZ a b))))]:=by
 refine CM call230 func230 ntmps230 results230 fun hw=>?_
 rw[Ey] at ha hb
 unfold UZ
 rcases h1:a.kind==b.kind with _ | _
 ·simp only[go_sem,h1,ag]
 simp only[go_sem,h1]
 refine CW (qR a.p b.p ha.1 hb.1) fun _=>?_
 rcases h2:Md a.p b.p with _ | _
 ·simp only[go_sem,h1,h2,ag,ai]
 rcases h3:a.col==b.col with _ | _
 ·simp only[go_sem,h1,h2,h3,ag,ai]
 simp only[go_sem,h1,h2,h3]
 refine CallK.mk _ (Y5 a.out b.out ha.2 hb.2) fun _=>?_
 simp only[go_sem,ai]
theorem WJ (a b:DQuery) (ha:Dv a) (hb:Dv b):Ctr prog 220 [.agg a.c,.agg b.c] [.val (.c (.v (.bool (UZ a b))))]:=by
 refine CM call220 func220 ntmps220 results220 fun hw=>?_
 rw[Ey] at ha hb
 unfold UZ
 rcases h1:a.kind==b.kind with _ | _
 ·simp only[go_sem,h1,ag]
 rcases h3:a.col==b.col with _ | _
 ·simp only[go_sem,h1,h3,ag,aH]
 simp only[go_sem,h1,h3]
 refine CallK.mk _ (Y6 a.out b.out ha.2 hb.2) fun _=>?_
 rcases h2:Lu a.out b.out with _ | _
 ·simp only[go_sem,h1,h2,h3,aH]
 simp only[go_sem,h1,h2,h3]
 refine CW (qU a.p b.p ha.1 hb.1) fun _=>?_
 simp only[go_sem,ai,aS]
def Me:DPred:=.mk 0 0 0 ⟨0,0,ByteArray.empty⟩ []
def Ih:DQuery:=⟨0,Me,0,[]⟩
def Y9 (v:DVal):Bool:=(v.ty==0)&&((v.n==0)&&(v.s.toList==ByteArray.empty.toList))
def ul (q:DQuery):Bool:=(q.kind==0)&&((q.col==0)&&(((q.out.length:Int)==0)&&((q.p.kind==0)&&((q.p.col==0)&&((q.p.op==0)&&(Y9 q.p.v&&((q.p.l.length:Int)==0)))))))
theorem zZ (l:List Int):Lu l []=((l.length:Int)==0):=by
 cases l with
 | nil=>rfl
 | cons a l=>symm; simp only[Lu,bU,beq_eq_false_iff_ne]; omega
theorem um (l:List DPred):GY l []=((l.length:Int)==0):=by
 cases l with
 | nil=>rw[GY]; rfl
 | cons a l =>
  rw[GY]<;>simp
  omega
theorem AE9 (q:DQuery):UZ q Ih=ul q:=by
 have e:LC q.p.v ⟨0,0,ByteArray.empty⟩=Y9 q.p.v:=rfl
 simp only[UZ,Y7,ul,Ih,zZ,Me,DPred.kind,DPred.col,DPred.op,DPred.v,DPred.l,um]
 simp only[DPred.v] at e
 rw[e]
 simp only[Bool.and_assoc]
 rcases q.kind==0<;>rcases q.col==0<;>rcases((q.out.length:Int)==0)<;>simp only[ag,ai,aH,aS]
theorem zf (q:DQuery):Ctr prog 245 [.agg q.c] [.val (.c (.v (.bool (ul q))))]:=by
 refine CM call245 func245 ntmps245 results245 fun hw=>?_
 have e1:(q.p.v.ty==0&&(q.p.v.n==0&&q.p.v.s.toList==ByteArray.empty.toList))=Y9 q.p.v:=rfl
 rcases h1:q.kind==0 with _ | _
 ·simp only[go_sem,bi,aK,aI,h1,e1,Dc,Gs,aS,ul,ag,ai]
 rcases h2:q.col==0 with _ | _
 ·simp only[go_sem,bi,aK,aI,h1,h2,e1,Dc,Gs,aS,ul,ag,ai]
 rcases h3:((q.out.length:Int)==0) with _ | _
 ·simp only[go_sem,bi,aK,aI,h1,h2,h3,e1,Dc,Gs,aS,ul,ag,ai]
 rcases h4:q.p.kind==0 with _ | _
 ·simp only[go_sem,bi,aK,aI,h1,h2,h3,h4,e1,Dc,Gs,aS,ul,ag,ai]
 rcases h5:q.p.col==0 with _ | _
 ·simp only[go_sem,bi,aK,aI,h1,h2,h3,h4,h5,e1,Dc,Gs,aS,ul,ag,ai]
 rcases h6:q.p.op==0 with _ | _
 ·simp only[go_sem,bi,aK,aI,h1,h2,h3,h4,h5,h6,e1,Dc,Gs,aS,ul,ag,ai]
 rcases h7:Y9 q.p.v with _ | _
 ·simp only[go_sem,bi,aK,aI,h1,h2,h3,h4,h5,h6,h7,e1,Dc,Gs,aS,ul,ag,ai]
 simp only[go_sem,h1,h2,h3,h4,h5,h6,h7,e1,Dc,Gs,aS,ul,ai]
theorem zg:Dv Ih:=by
 rw[Ey]
 refine⟨?_,ax _⟩
 show Aq Me
 rw[BP]
 exact⟨by simp[Ff,Me,DPred.v],ax _,fun x hx=>by cases hx⟩
def Bf (t:DTask):Bool:=((t.pc==0)&&((t.h==0)&&((((t.r.length:Int)==0))&&((t.id==0)&&((ul t.q)&&((t.ts==0)&&((t.ver==0)&&((((t.l.length:Int)==0))&&((t.i==0)&&((t.j==0)&&((t.s==0)&&((t.at0==0)&&((t.own==0)&&((!t.won)&&(((t.got.length:Int)==0))))))))))))))))
theorem qV (t:DTask) (hq:Dv t.q):Ctr prog 227 [.agg t.c] [.val (.c (.v (.bool (Bf t))))]:=by
 refine CM call227 func227 ntmps227 results227 fun hw=>?_
 rcases kpc:t.pc==0 with _ | _
 ·simp only[go_sem,bi,aK,aI,kpc,Bf,ag,ai]
 rcases kh:t.h==0 with _ | _
 ·simp only[go_sem,bi,aK,aI,kpc,kh,Bf,ag,ai]
 rcases kr:((t.r.length:Int)==0) with _ | _
 ·simp only[go_sem,bi,aK,aI,kpc,kh,kr,Bf,ag,ai]
 rcases kid:t.id==0 with _ | _
 ·simp only[go_sem,bi,aK,aI,kpc,kh,kr,kid,Bf,ag,ai]
 simp only[go_sem,bi,aK,aI,kpc,kh,kr,kid]
 refine CallK.mk _ (by have:=QE t.q Ih hq zg; rw[AE9] at this; simpa only[go_sem,Ih,Me,DPred.kind,DPred.col,DPred.op,DPred.v,DPred.l,dh] using this) fun _=>?_
 rcases kq:ul t.q with _ | _
 ·simp only[go_sem,bi,aK,aI,kpc,kh,kr,kid,kq,Bf,ag,ai]
 rcases kts:t.ts==0 with _ | _
 ·simp only[go_sem,bi,aK,aI,kpc,kh,kr,kid,kq,kts,Bf,ag,ai]
 rcases kver:t.ver==0 with _ | _
 ·simp only[go_sem,bi,aK,aI,kpc,kh,kr,kid,kq,kts,kver,Bf,ag,ai]
 rcases kl:((t.l.length:Int)==0) with _ | _
 ·simp only[go_sem,bi,aK,aI,kpc,kh,kr,kid,kq,kts,kver,kl,Bf,ag,ai]
 rcases ki:t.i==0 with _ | _
 ·simp only[go_sem,bi,aK,aI,kpc,kh,kr,kid,kq,kts,kver,kl,ki,Bf,ag,ai]
 rcases kj:t.j==0 with _ | _
 ·simp only[go_sem,bi,aK,aI,kpc,kh,kr,kid,kq,kts,kver,kl,ki,kj,Bf,ag,ai]
 rcases ks:t.s==0 with _ | _
 ·simp only[go_sem,bi,aK,aI,kpc,kh,kr,kid,kq,kts,kver,kl,ki,kj,ks,Bf,ag,ai]
 rcases kat:t.at0==0 with _ | _
 ·simp only[go_sem,bi,aK,aI,kpc,kh,kr,kid,kq,kts,kver,kl,ki,kj,ks,kat,Bf,ag,ai]
 rcases kown:t.own==0 with _ | _
 ·simp only[go_sem,bi,aK,aI,kpc,kh,kr,kid,kq,kts,kver,kl,ki,kj,ks,kat,kown,Bf,ag,ai]
 rcases kwon:t.won with _ | _
 rotate_left
 ·simp only[go_sem,bi,aK,aI,kpc,kh,kr,kid,kq,kts,kver,kl,ki,kj,ks,kat,kown,kwon,Bf,ag,ai,aQ]
 simp only[go_sem,bi,aK,aI,kpc,kh,kr,kid,kq,kts,kver,kl,ki,kj,ks,kat,kown,kwon,Bf,ai,aO]
theorem qW (t:DTask) (hq:Dv t.q):Ctr prog 217 [.agg t.c] [.val (.c (.v (.bool (Bf t))))]:=by
 refine CM call217 func217 ntmps217 results217 fun hw=>?_
 rcases kpc:t.pc==0 with _ | _
 ·simp only[go_sem,bi,aK,aI,kpc,Bf,ag,ai]
 rcases kh:t.h==0 with _ | _
 ·simp only[go_sem,bi,aK,aI,kpc,kh,Bf,ag,ai]
 rcases kr:((t.r.length:Int)==0) with _ | _
 ·simp only[go_sem,bi,aK,aI,kpc,kh,kr,Bf,ag,ai]
 rcases kid:t.id==0 with _ | _
 ·simp only[go_sem,bi,aK,aI,kpc,kh,kr,kid,Bf,ag,ai]
 simp only[go_sem,bi,aK,aI,kpc,kh,kr,kid]
 refine CW (zf t.q) fun _=>?_
 rcases kq:ul t.q with _ | _
 ·simp only[go_sem,bi,aK,aI,kpc,kh,kr,kid,kq,Bf,ag,ai]
 rcases kts:t.ts==0 with _ | _
 ·simp only[go_sem,bi,aK,aI,kpc,kh,kr,kid,kq,kts,Bf,ag,ai]
 rcases kver:t.ver==0 with _ | _
 ·simp only[go_sem,bi,aK,aI,kpc,kh,kr,kid,kq,kts,kver,Bf,ag,ai]
 rcases kl:((t.l.length:Int)==0) with _ | _
 ·simp only[go_sem,bi,aK,aI,kpc,kh,kr,kid,kq,kts,kver,kl,Bf,ag,ai]
 rcases ki:t.i==0 with _ | _
 ·simp only[go_sem,bi,aK,aI,kpc,kh,kr,kid,kq,kts,kver,kl,ki,Bf,ag,ai]
 rcases kj:t.j==0 with _ | _
 ·simp only[go_sem,bi,aK,aI,kpc,kh,kr,kid,kq,kts,kver,kl,ki,kj,Bf,ag,ai]
 rcases ks:t.s==0 with _ | _
 ·simp only[go_sem,bi,aK,aI,kpc,kh,kr,kid,kq,kts,kver,kl,ki,kj,ks,Bf,ag,ai]
 rcases kat:t.at0==0 with _ | _
 ·simp only[go_sem,bi,aK,aI,kpc,kh,kr,kid,kq,kts,kver,kl,ki,kj,ks,kat,Bf,ag,ai]
 rcases kown:t.own==0 with _ | _
 ·simp only[go_sem,bi,aK,aI,kpc,kh,kr,kid,kq,kts,kver,kl,ki,kj,ks,kat,kown,Bf,ag,ai]
 rcases kwon:t.won with _ | _
 rotate_left
 ·simp only[go_sem,bi,aK,aI,kpc,kh,kr,kid,kq,kts,kver,kl,ki,kj,ks,kat,kown,kwon,Bf,ag,ai,aQ]
 simp only[go_sem,bi,aK,aI,kpc,kh,kr,kid,kq,kts,kver,kl,ki,kj,ks,kat,kown,kwon,Bf,ai,aO]
end Go.Proofs.YtnfbaclikokapaaGreat
