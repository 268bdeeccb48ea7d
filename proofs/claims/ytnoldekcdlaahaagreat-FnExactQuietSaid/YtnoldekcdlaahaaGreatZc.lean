/- A part. -/
import Derived.Test.YtnoldekcdlaahaaGreatAa
import Derived.Test.YtnoldekcdlaahaaGreatOa
set_option linter.unusedSimpArgs false
set_option linter.unusedVariables false
set_option maxHeartbeats 4000000
set_option maxRecDepth 10000
open Go.Proofs.Tryz
namespace Go.Proofs.YtnoldekcdlaahaaGreat
open Go.Vm
def ACi {α:Type} (f:α→Prop) (l:List α):Prop:=l.length≤1099511627776∧∀ x∈l,f x
theorem fitS.big {α:Type} {f:α→Prop} {l:List α} (h:fitS f l):ACi f l:=⟨Nat.le_trans h.1 AOq,h.2⟩
theorem OY {α:Type} {f:α→List Cl} {n:Nat} (h:∀ x,Go.Vm.rowOk n (f x)=true) (l:List α):LG n (l.map f)=true:=aP.2 fun r hr=>by
 grind
theorem Io (l:List DVal):LG 3 (l.map DVal.c)=true:=OY (fun _=>rfl) l
theorem Gx (l:List DVal) (h:l.length≤1048576):Ctr prog 235 [.c (.sl (l.map DVal.c))] [.own 64 3 (l.map DVal.c) true]:=by
 refine CM call235 func235 ntmps235 results235 fun hw=>?_
 have hl:l.length≤2147483648:=AOh
 simp only[go_sem,Io,ae,hl,aI,DD]
 try simp
theorem Ox (r:DRow) (h:r.l.length≤1048576):Ctr prog 315 [.agg r.c] [.agg r.o]:=by
 refine CM call315 func315 ntmps315 results315 fun hw=>?_
 simp only[go_sem]
 refine ABU ?_
 simp only[go_sem]
 refine ACJ _ (Gx r.l h) ?_
 simp only[go_sem,DD]
 try exact AIj
theorem Ri (r:DRow) (h:r.l.length≤1048576):Ctr prog 290 [.agg r.c] [.agg r.o]:=by
 refine CM call290 func290 ntmps290 results290 fun hw=>?_
 have hl:r.l.length≤2147483648:=AOh
 simp only[go_sem]
 refine ABU ?_
 simp only[go_sem,Io,ae,hl,aI,DD]
 try exact AIj
def Xj:List Cl:=[.v (.int .i64 0),.v (.slice none 0 0)]
def Rj:Option DRow→Res
 | none=>.val (.agg [.v (.int .i64 0),.sl []])
 | some r=>.agg r.o
def IR (l:List DRow) (n:Int):Option DRow:=l.find? fun r=>r.id==n
theorem AAH (l:List DRow) (n:Int) (ha:ACi Gu l):Ctr prog 241 [.c (.sl (l.map DRow.c)),.c (.v (.int .i64 (n)))] [Rj (IR l n),.val (.c (.v (.bool ((IR l n).isSome))))]:=by
 refine CM call241 func241 ntmps241 results241 fun hw=>?_
 have hlen:=ha.1
 simp only[go_sem,ae]
 refine AB4 1 (A:=Nat) (fun k=>[(10,.c (.v (.int .i64 (k))))]) (fun _=>[⟨204,2,[Xj],true,true⟩]) (fun k=>k≤l.length∧IR (l.drop k) n=IR l n) (fun k=>l.length-k) 0 ⟨⟨rfl,rfl⟩,rfl,az _,rfl⟩ ?_
 rintro k ⟨hk,hf⟩
 simp only[go_sem,ae,Xj]
 refine AA0 (fun h=>?_) (fun h=>?_)
 ·have hk':k<l.length:=by simpa using h
  have hr:=ha.2 _ (ax hk')
  rw[Ja] at hr
  rw[aG hk',IR,List.find?_cons] at hf
  simp only[go_sem,ae,AA _ hk',hk',aI]
  try refine AAm ?_
  try simp only[go_sem,ae,AA _ hk',hk',aI]
  rcases hv:l[k].id==n with _ | _
  ·simp only[go_sem,hv,wrap_i64 (n:=(k:Int)+1) AOh AOh]
   rw[hv] at hf
   exact AKe
  ·simp only[go_sem,hv,AA _ hk',hk',aI]
   rw[hv] at hf
   rw[← hf]
   first | refine CW (Ox l[k] hr.1) fun _=>?_ | (refine ABU ?_; simp only[go_sem,ae,AA _ hk',hk',aI]; refine CZ (Ox l[k] hr.1) ?_)
   simp only[go_sem,Rj,DD]
   try exact AIj
 ·exact AMX
theorem AAI (l:List DRow) (n:Int) (ha:ACi Gu l):Ctr prog 206 [.c (.sl (l.map DRow.c)),.c (.v (.int .i64 (n)))] [Rj (IR l n),.val (.c (.v (.bool ((IR l n).isSome))))]:=by
 refine CM call206 func206 ntmps206 results206 fun hw=>?_
 have hlen:=ha.1
 simp only[go_sem,ae]
 refine AB4 1 (A:=Nat) (fun k=>[(6,.c (.v (.int .i64 (k))))]) (fun _=>[⟨204,2,[Xj],true,true⟩]) (fun k=>k≤l.length∧IR (l.drop k) n=IR l n) (fun k=>l.length-k) 0 ⟨⟨rfl,rfl⟩,rfl,az _,rfl⟩ ?_
 rintro k ⟨hk,hf⟩
 simp only[go_sem,ae,Xj]
 refine AA0 (fun h=>?_) (fun h=>?_)
 ·have hk':k<l.length:=by simpa using h
  have hr:=ha.2 _ (ax hk')
  rw[Ja] at hr
  rw[aG hk',IR,List.find?_cons] at hf
  simp only[go_sem,ae,AA _ hk',hk',aI]
  try refine AAm ?_
  try simp only[go_sem,ae,AA _ hk',hk',aI]
  rcases hv:l[k].id==n with _ | _
  ·simp only[go_sem,hv,wrap_i64 (n:=(k:Int)+1) AOh AOh]
   rw[hv] at hf
   exact AKe
  ·simp only[go_sem,hv,AA _ hk',hk',aI]
   rw[hv] at hf
   rw[← hf]
   first | refine CW (Ri l[k] hr.1) fun _=>?_ | (refine ABU ?_; simp only[go_sem,ae,AA _ hk',hk',aI]; refine CZ (Ri l[k] hr.1) ?_)
   simp only[go_sem,Rj,DD]
   try exact AIj
 ·exact AMX
theorem w_ (out:List DVal) (v:DVal):(out ++ [v]).map DVal.c=out.map DVal.c ++ [[.v (.int .i64 v.ty),.v (.int .i64 v.n),.v (.string v.s)]]:=by simp[DVal.c_eq]
def MI (l:List DRow) (k:Int):List DVal:=l.filterMap fun r=>if 0≤k then r.l[k.toNat]? else none
theorem ACj {l:List DRow} {n:Int} {k:Nat} (h:k<l.length):MI (l.drop k) n=(if h2:0≤n∧n.toNat<l[k].l.length then [l[k].l[n.toNat]'h2.2] else [])++MI (l.drop (k+1)) n:=by
 unfold MI
 grind [aG]
theorem qV (l:List DRow) (n:Int) (ha:ACi Gu l):Ctr prog 334 [.c (.sl (l.map DRow.c)),.c (.v (.int .i64 (n)))] [.own 64 3 ((MI l n).map DVal.c) true]:=by
 refine CM call334 func334 ntmps334 results334 fun hw=>?_
 have hlen:=ha.1
 simp only[go_sem,ae]
 refine AB6 [8] (A:=Nat×List DVal) (fun x=>[(11,.c (.v (.int .i64 (x.1)))),(5,.c (.ref 0))]) (fun x=>[⟨64,3,x.2.map DVal.c,true,true⟩]) (fun x=>x.1≤l.length∧x.2++MI (l.drop x.1) n=MI l n) (fun x=>l.length-x.1) (0,[]) (AB3 [(0,false)] ⟨rfl,rfl,rfl,trivial⟩ rfl) ⟨az _,rfl⟩ ?_
 rintro⟨k,out⟩ ⟨hk,hb⟩
 dsimp only at hk hb
 have hol:out.length≤l.length:=by
  have h1:(MI l n).length≤l.length:=List.length_filterMap_le _ _
  rw[← hb] at h1
  simp at h1; omega
 refine AOc (fun h=>?_) fun h=>?_
 ·have hk':k<l.length:=by simpa using h
  have hr:=ha.2 _ (ax hk')
  rw[Ja] at hr
  have hrl:=hr.1
  rw[ACj hk'] at hb
  simp only[go_sem,ae,AA _ hk',hk',aI]
  try refine AAm ?_
  try simp only[go_sem,ae,AA _ hk',hk',aI]
  by_cases hn:0≤n∧n.toNat<l[k].l.length
  ·rw[dif_pos hn] at hb
   obtain⟨m,rfl⟩:=aO hn.1
   have hm:m<l[k].l.length:=by have:=hn.2; simpa using this
   have e1:decide ((m:Int)≥0)=true:=AOi
   have e2:decide ((m:Int)<(l[k].l.length:Int))=true:=AOj
   have hol2:out.length+1≤1099511627776:=by
    have h1:(MI l (m:Int)).length≤l.length:=List.length_filterMap_le _ _
    have h2:=congrArg List.length hb
    simp at h2; omega
   simp only[go_sem,ae,AA _ hk',AA _ hm,hk',hm,e1,e2,hol2,aI]
   try refine ABU ?_
   simp only[go_sem,bC,bU,ae,AA _ hk',AA _ hm,hk',hm,e1,e2,hol2,aI,wrap_i64 (n:=(k:Int)+1) AOh AOh]
   exact⟨(k+1,out ++ [l[k].l[m]]),AB3 [(3,false)] ⟨rfl,rfl,by grind [w_,AY,DVal.pure],trivial⟩ (by rw[← w_]; rfl),⟨hk',by rw[← hb,bM]; rfl⟩,AOl⟩
  ·rw[dif_neg hn,aN] at hb
   have hfin:∀ P:Prop,P→P:=fun _ h=>h
   rcases h1:decide (n≥0) with _ | _
   ·simp only[go_sem,ae,AA _ hk',hk',h1,wrap_i64 (n:=(k:Int)+1) AOh AOh]
    exact ANv
   ·have h2:decide (n<(l[k].l.length:Int))=false:=by simp at h1 ⊢; have:¬ n.toNat<l[k].l.length:=fun hh=>hn ⟨h1,hh⟩; omega
    simp only[go_sem,ae,AA _ hk',hk',h1,h2,wrap_i64 (n:=(k:Int)+1) AOh AOh]
    exact ANv
 ·have hk':k=l.length:=by simp at h; omega
  subst hk'
  rw[aV] at hb
  have:out=MI l n:=by simpa [MI] using hb
  subst this
  simp only[go_sem,DD]
  try simp
def Fg (d:DDeed):Bool:=
 if(!(Aa d.op 1 4&&(Aa d.task 0 4&&Aa d.code 0 5)))=true then false else
 if(decide (d.stamp<0)||(decide (d.inv<0)||(decide (d.id < -1)||((d.lin != -1)&&decide (d.lin<d.inv)))))=true then false else
 (d.ret == -1)||((d.lin != -1)&&decide (d.ret≥d.lin))
theorem WG (d:DDeed):Ctr prog 192 [.agg d.c] [.val (.c (.v (.bool (Fg d))))]:=by
 refine CM call192 func192 ntmps192 results192 fun hw=>?_
 simp only[go_sem]
 refine AAT _ (AP d.op 1 4) fun _=>?_
 rcases h1:Aa d.op 1 4 with _ | _
 ·simp only[go_sem,Fg,h1,ai,aK]
 simp only[go_sem,h1]
 refine AAT _ (AP d.task 0 4) fun _=>?_
 rcases h2:Aa d.task 0 4 with _ | _
 ·simp only[go_sem,Fg,h1,h2,ai,aH,aK]
 simp only[go_sem,h1,h2]
 refine AAT _ (AP d.code 0 5) fun _=>?_
 exact AHa
theorem WH (d:DDeed):Ctr prog 110 [.agg d.c] [.val (.c (.v (.bool (Fg d))))]:=by
 refine CM call110 func110 ntmps110 results110 fun hw=>?_
 simp only[go_sem]
 refine AAT _ (AL d.op 1 4) fun _=>?_
 rcases h1:Aa d.op 1 4 with _ | _
 ·simp only[go_sem,Fg,h1,ai,aK]
 simp only[go_sem,h1]
 refine AAT _ (AL d.task 0 4) fun _=>?_
 rcases h2:Aa d.task 0 4 with _ | _
 ·simp only[go_sem,Fg,h1,h2,ai,aH,aK]
 simp only[go_sem,h1,h2]
 refine AAT _ (AL d.code 0 5) fun _=>?_
 exact AHa
attribute [go_sem] ae
theorem BH {α:Type} {l:List α} {p:α→Bool} {k:Nat} (hk:k<l.length) (h:p l[k]=false):l.all p=false:=by
 rw[abr]
 intro h2
 have:=aP.1 h2 _ (ax hk)
 rw[h] at this; cases this
theorem AGH {α:Type} {l:List α} {p:α→Bool} (h:∀ i (hi:i<l.length),i<l.length→p l[i]=true):l.all p=true:=aP.2 fun x hx=>by
 obtain⟨i,hi,rfl⟩:=abo.1 hx
 exact h i hi hi
theorem AIF {α:Type} {l:List α} {p:α→Bool} {k:Nat} (hk:k<l.length) (hall:∀ i (h:i<l.length),i<k→p l[i]=true) (hc:p l[k]=true):k+1≤l.length∧∀ i (h:i<l.length),i<k+1→p l[i]=true:=⟨hk,fun i h2 h3=>by
 by_cases e:i=k
 ·subst e; exact hc
 ·exact hall i h2 AOh⟩
def Ea {α:Type} (l:List α) (p:α→Bool) (k:Nat):Prop:=k≤l.length∧∀ i (h:i<l.length),i<k→p l[i]=true
theorem Ce {α:Type} {l:List α} {p:α→Bool}:Ea l p 0:=⟨az _,fun _ _ h=>AOh⟩
theorem Ah {α:Type} {l:List α} {p:α→Bool} {k:Nat} (hk:k<l.length) (h:Ea l p k) (hc:p l[k]=true):Ea l p (k+1):=AIF hk h.2 hc
theorem CV {α:Type} {l:List α} {p:α→Bool} (h:Ea l p l.length):l.all p=true:=AGH h.2
def Nw (c:DConf):Bool:=FN c.cols&&(Aa c.slots 1 4&&Aa c.bufs 1 8)
theorem WI (c:DConf):Ctr prog 102 [.agg c.c] [.val (.c (.v (.bool (Nw c))))]:=by
 refine CM call102 func102 ntmps102 results102 fun hw=>?_
 simp only[go_sem]
 refine AAT _ (Ph c.cols) fun _=>?_
 rcases h1:FN c.cols with _ | _
 ·simp only[go_sem,Nw,h1,ai]
 simp only[go_sem,h1]
 refine AAT _ (AL c.slots 1 4) fun _=>?_
 rcases h2:Aa c.slots 1 4 with _ | _
 ·simp only[go_sem,Nw,h1,h2,ai,aj]
 simp only[go_sem,h1,h2]
 refine AAT _ (AL c.bufs 1 8) fun _=>?_
 simp only[go_sem,Nw,h1,h2,aj]
theorem WJ (c:DConf):Ctr prog 82 [.agg c.c] [.val (.c (.v (.bool (Nw c))))]:=by
 refine CM call82 func82 ntmps82 results82 fun hw=>?_
 simp only[go_sem]
 refine AAT _ (Pg c.cols) fun _=>?_
 rcases h1:FN c.cols with _ | _
 ·simp only[go_sem,Nw,h1,ai]
 simp only[go_sem,h1]
 refine AAT _ (AP c.slots 1 4) fun _=>?_
 rcases h2:Aa c.slots 1 4 with _ | _
 ·simp only[go_sem,Nw,h1,h2,ai,aj]
 simp only[go_sem,h1,h2]
 refine AAT _ (AP c.bufs 1 8) fun _=>?_
 simp only[go_sem,Nw,h1,h2,aj]
def Oy (n:Int):Bool:=decide (n ≥ -1)
theorem WL (n:Int):Ctr prog 222 [.c (.v (.int .i64 (n)))] [.val (.c (.v (.bool (Oy n))))]:=by
 refine CM call222 func222 ntmps222 results222 fun hw=>?_
 simp only[go_sem,Oy]
theorem QO (n:Int):Ctr prog 197 [.c (.v (.int .i64 (n)))] [.val (.c (.v (.bool (Oy n))))]:=by
 refine CM call197 func197 ntmps197 results197 fun hw=>?_
 simp only[go_sem,Oy]
def Rk (e p:Int):Bool:=!((p != -1) && !Aa p 0 e)
def Oz (l:List Int) (e:Int):Bool:=l.all (Rk e)
theorem WM (l:List Int) (e:Int) (hl:l.length≤1048576):Ctr prog 108 [.c (.sl (l.map intC)),.c (.v (.int .i64 (e)))] [.val (.c (.v (.bool (Oz l e))))]:=by
 refine CM call108 func108 ntmps108 results108 fun hw=>?_
 simp only[go_sem]
 refine AB4 0 (A:=Nat) (fun x=>[(9,.c (.v (.int .i64 (x))))]) (fun _=>[]) (Ea l (Rk e)) (fun x=>l.length-x) 0 ⟨⟨rfl,rfl⟩,rfl,Ce⟩ ?_
 intro k hk
 refine AOb (fun h=>?_) fun h=>?_
 ·have hk':k<l.length:=by simpa using h
  rcases h1:l[k] != -1 with _ | _
  ·exact AMd
  simp only[go_sem,AA _ hk',hk',h1]
  refine AAT _ (AL l[k] 0 e) fun _=>?_
  exact ALm
 ·exact ANl
theorem WN (l:List Int) (e:Int) (hl:l.length≤1048576):Ctr prog 84 [.c (.sl (l.map intC)),.c (.v (.int .i64 (e)))] [.val (.c (.v (.bool (Oz l e))))]:=by
 refine CM call84 func84 ntmps84 results84 fun hw=>?_
 simp only[go_sem]
 refine AB4 0 (A:=Nat) (fun x=>[(5,.c (.v (.int .i64 (x))))]) (fun _=>[]) (Ea l (Rk e)) (fun x=>l.length-x) 0 ⟨⟨rfl,rfl⟩,rfl,Ce⟩ ?_
 intro k hk
 refine AOb (fun h=>?_) fun h=>?_
 ·have hk':k<l.length:=by simpa using h
  rcases h1:l[k] != -1 with _ | _
  ·exact AMd
  simp only[go_sem,AA _ hk',hk',h1]
  refine AAT _ (AP l[k] 0 e) fun _=>?_
  exact ALm
 ·exact ANl
def endOf (d:DDir):Int:=match d.l.getLast? with
 | none=>0
 | some r=>IntKind.i64.wrap (r.first+r.many)
theorem lZ {d:DDir} (h:d.l = []):endOf d=0:=by simp[endOf,h]
theorem xA {d:DDir} {k:Nat} (h:d.l.length=k+1):∃ hk:k<d.l.length,endOf d=IntKind.i64.wrap (d.l[k].first+d.l[k].many):=by
 have hk:k<d.l.length:=AOh
 refine⟨hk, ?_⟩
 unfold endOf
 rw[List.getLast?_eq_getElem?,h,show k+1-1=k from rfl,au hk]
theorem Yg (d:DDir) (hl:d.l.length≤1048576):Ctr prog 223 [.agg d.c] [.val (.c (.v (.int .i64 (endOf d))))]:=by
 refine CM call223 func223 ntmps223 results223 fun hw=>?_
 exact AKZ
theorem Yh (d:DDir) (hl:d.l.length≤1048576):Ctr prog 198 [.agg d.c] [.val (.c (.v (.int .i64 (endOf d))))]:=by
 refine CM call198 func198 ntmps198 results198 fun hw=>?_
 exact AKZ
def Ed (r:DRef):Bool:=decide (r.buf≥0)&&(decide (r.gen≥0)&&(Aa r.kind 1 2&&Aa r.many 1 1000000000))
theorem AIG (n:Int):((n==1)||(n==2))=Aa n 1 2:=by
 simp only[Aa]
 rcases h1:n==1 with _ | _
 ·rcases h2:n==2 with _ | _
  ·simp at h1 h2 ⊢
   omega
  ·simp at h2 ⊢
   omega
 ·simp at h1 ⊢
  omega
theorem Rl (r:DRef):Ctr prog 219 [.agg r.c] [.val (.c (.v (.bool (Ed r))))]:=by
 refine CM call219 func219 ntmps219 results219 fun hw=>?_
 rcases h1:decide (r.buf≥0) with _ | _
 ·simp only[go_sem,h1,Ed,ai]
 rcases h2:decide (r.gen≥0) with _ | _
 ·simp only[go_sem,h1,h2,Ed,ai,aj]
 have e:=AIG r.kind
 rcases h3:r.kind==1 with _ | _
 ·rcases h4:r.kind==2 with _ | _
  ·rw[h3,h4] at e
   simp only[go_sem,h1,h2,h3,h4,Ed,← e,ai,aj,abE]
  ·rw[h3,h4] at e
   simp only[go_sem,h1,h2,h3,h4]
   refine AAT _ (AL r.many 1 1000000000) fun _=>?_
   simp only[go_sem,Ed,h1,h2,← e,aj,Bool.or_true]
 ·rw[h3,cZ] at e
  simp only[go_sem,h1,h2,h3]
  refine AAT _ (AL r.many 1 1000000000) fun _=>?_
  simp only[go_sem,Ed,h1,h2,← e,aj]
theorem Rn (r:DRef):Ctr prog 191 [.agg r.c] [.val (.c (.v (.bool (Ed r))))]:=by
 refine CM call191 func191 ntmps191 results191 fun hw=>?_
 rcases h1:decide (r.buf≥0) with _ | _
 ·simp only[go_sem,h1,Ed,ai]
 rcases h2:decide (r.gen≥0) with _ | _
 ·simp only[go_sem,h1,h2,Ed,ai,aj]
 simp only[go_sem,h1,h2]
 refine AAT _ (AP r.kind 1 2) fun _=>?_
 rcases h3:Aa r.kind 1 2 with _ | _
 ·simp only[go_sem,h1,h2,h3,Ed,ai,aj]
 have e:Aa r.many 1 1000000000=(decide (r.many≥1)&&decide (r.many≤1000000000)):=rfl
 rcases h4:decide (r.many≥1) with _ | _
 ·simp only[go_sem,h1,h2,h3,h4,Ed,e,ai,aj]
 ·simp only[go_sem,h1,h2,h3,h4,Ed,e,aj]
def Ep (l:List DRef) (n:Int):Bool:=l.any fun r=>r.buf==n
theorem qW {α:Type} {l:List α} {p:α→Bool} {k:Nat} (hk:k<l.length) (h:p l[k]=true):l.any p=true:=List.any_eq_true.2 ⟨_,ax hk,h⟩
theorem AAJ {α:Type} {l:List α} {p:α→Bool} (h:Ea l (fun x=>!p x) l.length):l.any p=false:=by
 rw[abr]
 intro h2
 obtain⟨x,hx,hp⟩:=List.any_eq_true.1 h2
 obtain⟨i,hi,rfl⟩:=abo.1 hx
 have:=h.2 i hi hi
 simp[hp] at this
theorem qX (d:DDir) (n:Int) (hl:d.l.length≤1048576):Ctr prog 220 [.agg d.c,.c (.v (.int .i64 (n)))] [.val (.c (.v (.bool (Ep d.l n))))]:=by
 refine CM call220 func220 ntmps220 results220 fun hw=>?_
 simp only[go_sem]
 refine AB4 1 (A:=Nat) (fun x=>[(10,.c (.v (.int .i64 (x))))]) (fun _=>[⟨38,2,[d.c],true,true⟩]) (Ea d.l fun r=>!(r.buf==n)) (fun x=>d.l.length-x) 0 ⟨⟨rfl,rfl⟩,rfl,Ce⟩ ?_
 exact AJZ
theorem WO (d:DDir) (n:Int) (hl:d.l.length≤1048576):Ctr prog 194 [.agg d.c,.c (.v (.int .i64 (n)))] [.val (.c (.v (.bool (Ep d.l n))))]:=by
 refine CM call194 func194 ntmps194 results194 fun hw=>?_
 simp only[go_sem]
 refine AB4 1 (A:=Nat) (fun x=>[(5,.c (.v (.int .i64 (x))))]) (fun _=>[⟨38,2,[d.c],true,true⟩]) (Ea d.l fun r=>!(r.buf==n)) (fun x=>d.l.length-x) 0 ⟨⟨rfl,rfl⟩,rfl,Ce⟩ ?_
 exact AJZ
def Ny:List Int→List Int→Bool
 | [],[]=>true
 | a::l,b::m=>(a==b)&&Ny l m
 | _,_=>false
theorem Xk:∀ (a b:List Int),a.length≠b.length→Ny a b=false
 | [],[],h=>AO_
 | [],_::_,_=>rfl
 | _::_,[],_=>rfl
 | a::l,b::m,h=>by simp only[Ny]; rw[Xk l m AO7]; simp
theorem iJ (a b:List Int) {k:Nat} (h1:k<a.length) (h2:k<b.length):Ny (a.drop k) (b.drop k)=((a[k]==b[k])&&Ny (a.drop (k+1)) (b.drop (k+1))):=by
 rw[aG h1,aG h2]; rfl
theorem iK (a b:List Int) (ha:a.length≤1048576) (hb:b.length≤1048576):Ctr prog 364 [.c (.sl (a.map intC)),.c (.sl (b.map intC))] [.val (.c (.v (.bool (Ny a b))))]:=by
 refine CM call364 func364 ntmps364 results364 fun hw=>?_
 refine AOb (fun h=>?_) fun h=>?_
 ·simp only[go_sem]
  rw[Xk a b AOs]
 ·have he:a.length=b.length:=by simp at h; omega
  simp only[go_sem]
  refine AB4 0 (A:=Nat) (fun k=>[(13,.c (.v (.int .i64 (k))))]) (fun _=>[]) (fun k=>k≤a.length∧Ny (a.drop k) (b.drop k)=Ny a b) (fun k=>a.length-k) 0 ⟨⟨rfl,rfl⟩,rfl,az _,rfl⟩ ?_
  exact AHc
theorem iL (a b:List Int) (ha:a.length≤1048576) (hb:b.length≤1048576):Ctr prog 352 [.c (.sl (a.map intC)),.c (.sl (b.map intC))] [.val (.c (.v (.bool (Ny a b))))]:=by
 refine CM call352 func352 ntmps352 results352 fun hw=>?_
 refine AOb (fun h=>?_) fun h=>?_
 ·simp only[go_sem]
  rw[Xk a b AOs]
 ·have he:a.length=b.length:=by simp at h; omega
  simp only[go_sem]
  refine AB4 0 (A:=Nat) (fun k=>[(5,.c (.v (.int .i64 (k))))]) (fun _=>[]) (fun k=>k≤a.length∧Ny (a.drop k) (b.drop k)=Ny a b) (fun k=>a.length-k) 0 ⟨⟨rfl,rfl⟩,rfl,az _,rfl⟩ ?_
  exact AHc
mutual
def OZ:DPred→DPred→Bool
 | .mk k c o v l,q=>(k==q.kind)&&((c==q.col)&&((o==q.op)&&(NM v q.v&&Hy l q.l)))
def Hy:List DPred→List DPred→Bool
 | [],[]=>true
 | a::l,b::m=>OZ a b&&Hy l m
 | _,_=>false
end
theorem iM (p q:DPred):OZ p q=((p.kind==q.kind)&&((p.col==q.col)&&((p.op==q.op)&&(NM p.v q.v&&Hy p.l q.l)))):=by
 cases p
 rw[OZ]
 rfl
theorem Uh:∀ (a b:List DPred),a.length≠b.length→Hy a b=false
 | [],[],h=>AO_
 | [],_::_,_=>by rw[Hy]<;>simp
 | _::_,[],_=>by rw[Hy]<;>simp
 | a::l,b::m,h=>by rw[Hy,Uh l m AO7]; simp
theorem Yi (a b:List DPred) {k:Nat} (h1:k<a.length) (h2:k<b.length):Hy (a.drop k) (b.drop k)=(OZ a[k] b[k]&&Hy (a.drop (k+1)) (b.drop (k+1))):=by
 rw[aG h1,aG h2,Hy]
def iO (p:DPred):List Cl:=[.v (.int .i64 p.kind),.v (.int .i64 p.col),.v (.int .i64 p.op),.v (.int .i64 p.v.ty),.v (.int .i64 p.v.n),.v (.string p.v.s),.sl (p.l.map DPred.c)]
@[go_sem] theorem AKH (p:DPred):iO p = [.v (.int .i64 p.kind),.v (.int .i64 p.col),.v (.int .i64 p.op),.v (.int .i64 p.v.ty),.v (.int .i64 p.v.n),.v (.string p.v.s),.sl (p.l.map DPred.c)]:=rfl
theorem ACk (p q:DPred) (hp:A_ p) (hq:A_ q) (hx:∀ x∈p.l,∀ y∈q.l,Ctr prog 363 [.agg x.c,.agg y.c] [.val (.c (.v (.bool (OZ x y))))]):Ctr prog 363 [.agg p.c,.agg q.c] [.val (.c (.v (.bool (OZ p q))))]:=by
 refine CM call363 func363 ntmps363 results363 fun hw=>?_
 have hpl:p.l.length≤1048576:=APr
 have hql:q.l.length≤1048576:=by rw[BP] at hq; exact hq.2.1
 rw[iM p q]
 have e1:(p.v.ty==q.v.ty&&(p.v.n==q.v.n&&p.v.s.toList==q.v.s.toList))=NM p.v q.v:=rfl
 rcases h1:p.kind==q.kind with _ | _
 ·exact AOE
 have g1:(p.kind != q.kind)=false:=AQC
 rcases h2:p.col==q.col with _ | _
 ·exact AN3
 have g2:(p.col != q.col)=false:=by simp[bne,h2]
 rcases h3:p.op==q.op with _ | _
 ·exact ANs
 have g3:(p.op != q.op)=false:=by simp[bne,h3]
 rcases h4:NM p.v q.v with _ | _
 ·simp only[go_sem,h1,g1,h2,g2,h3,g3,e1,h4,EP,IG,aS,aK,ai,aj]
 simp only[go_sem,h1,g1,h2,g2,h3,g3,e1,h4,EP,IG,aS,aJ,aj]
 refine AA0 (fun h=>?_) (fun h=>?_)
 ·simp only[go_sem]
  rw[Uh p.l q.l AOs]
 have he:p.l.length=q.l.length:=AOs
 simp only[go_sem]
 refine AB4 2 (A:=Nat) (fun k=>[(44,.c (.v (.int .i64 (k))))]) (fun _=>[⟨67,7,[iO p],true,true⟩,⟨67,7,[iO q],true,true⟩]) (fun k=>k≤p.l.length∧Hy (p.l.drop k) (q.l.drop k)=Hy p.l q.l) (fun k=>p.l.length-k) 0 ⟨⟨rfl,rfl⟩,rfl,az _,rfl⟩ ?_
 exact AIZ
theorem ACl (p q:DPred) (hp:A_ p) (hq:A_ q) (hx:∀ x∈p.l,∀ y∈q.l,Ctr prog 353 [.agg x.c,.agg y.c] [.val (.c (.v (.bool (OZ x y))))]):Ctr prog 353 [.agg p.c,.agg q.c] [.val (.c (.v (.bool (OZ p q))))]:=by
 refine CM call353 func353 ntmps353 results353 fun hw=>?_
 have hpl:p.l.length≤1048576:=APr
 have hql:q.l.length≤1048576:=by rw[BP] at hq; exact hq.2.1
 rw[iM p q]
 have e1:(p.v.ty==q.v.ty&&(p.v.n==q.v.n&&p.v.s.toList==q.v.s.toList))=NM p.v q.v:=rfl
 rcases h1:p.kind==q.kind with _ | _
 ·exact AOE
 have g1:(p.kind != q.kind)=false:=AQC
 rcases h2:p.col==q.col with _ | _
 ·exact AN3
 have g2:(p.col != q.col)=false:=by simp[bne,h2]
 rcases h3:p.op==q.op with _ | _
 ·exact ANs
 have g3:(p.op != q.op)=false:=by simp[bne,h3]
 rcases h4:NM p.v q.v with _ | _
 ·simp only[go_sem,h1,g1,h2,g2,h3,g3,e1,h4,EP,IG,aS,aK,ai,aj]
 simp only[go_sem,h1,g1,h2,g2,h3,g3,e1,h4,EP,IG,aS,aJ,aj]
 refine AA0 (fun h=>?_) (fun h=>?_)
 ·simp only[go_sem]
  rw[Uh p.l q.l AOs]
 have he:p.l.length=q.l.length:=AOs
 simp only[go_sem]
 refine AB4 2 (A:=Nat) (fun k=>[(5,.c (.v (.int .i64 (k))))]) (fun _=>[⟨67,7,[iO p],true,true⟩,⟨67,7,[iO q],true,true⟩]) (fun k=>k≤p.l.length∧Hy (p.l.drop k) (q.l.drop k)=Hy p.l q.l) (fun k=>p.l.length-k) 0 ⟨⟨rfl,rfl⟩,rfl,az _,rfl⟩ ?_
 exact AIZ
theorem xB {C:DPred→DPred→Prop} (h:∀ p q,A_ p→A_ q→(∀ x∈p.l,∀ y∈q.l,C x y)→C p q):∀ (n:Nat) (p q:DPred),SizeOf.sizeOf p≤n→A_ p→A_ q→C p q:=by
 intro n
 induction n with
 | zero=>intro p q h; cases p; simp at h
 | succ n ih =>
  intro p q hs hp hq
  refine h p q hp hq fun x hx y hy=>ih x y ?_ ?_ ?_
  ·exact AMq
  ·rw[BP] at hp; exact hp.2.2 x hx
  ·rw[BP] at hq; exact hq.2.2 y hy
theorem xC (p q:DPred) (hp:A_ p) (hq:A_ q):Ctr prog 363 [.agg p.c,.agg q.c] [.val (.c (.v (.bool (OZ p q))))]:=xB ACk _ p q (aT _) hp hq
theorem xE (p q:DPred) (hp:A_ p) (hq:A_ q):Ctr prog 353 [.agg p.c,.agg q.c] [.val (.c (.v (.bool (OZ p q))))]:=xB ACl _ p q (aT _) hp hq
def WP (a b:DQuery):Bool:=(a.kind==b.kind)&&(OZ a.p b.p&&((a.col==b.col)&&Ny a.out b.out))
theorem Ro (a b:DQuery) (ha:Ee a) (hb:Ee b):Ctr prog 312 [.agg a.c,.agg b.c] [.val (.c (.v (.bool (WP a b))))]:=by
 refine CM call312 func312 ntmps312 results312 fun hw=>?_
 rw[F9] at ha hb
 unfold WP
 rcases h1:a.kind==b.kind with _ | _
 ·exact AMH
 simp only[go_sem,h1]
 refine CW (xC a.p b.p ha.1 hb.1) fun _=>?_
 rcases h2:OZ a.p b.p with _ | _
 ·simp only[go_sem,h1,h2,ai,aj]
 rcases h3:a.col==b.col with _ | _
 ·simp only[go_sem,h1,h2,h3,ai,aj]
 simp only[go_sem,h1,h2,h3]
 refine AAT _ (iK a.out b.out ha.2 hb.2) fun _=>?_
 simp only[go_sem,aj]
theorem Yj (a b:DQuery) (ha:Ee a) (hb:Ee b):Ctr prog 299 [.agg a.c,.agg b.c] [.val (.c (.v (.bool (WP a b))))]:=by
 refine CM call299 func299 ntmps299 results299 fun hw=>?_
 rw[F9] at ha hb
 unfold WP
 rcases h1:a.kind==b.kind with _ | _
 ·exact AMH
 rcases h3:a.col==b.col with _ | _
 ·simp only[go_sem,h1,h3,ai,aH]
 simp only[go_sem,h1,h3]
 refine AAT _ (iL a.out b.out ha.2 hb.2) fun _=>?_
 rcases h2:Ny a.out b.out with _ | _
 ·simp only[go_sem,h1,h2,h3,aH]
 simp only[go_sem,h1,h2,h3]
 refine CW (xE a.p b.p ha.1 hb.1) fun _=>?_
 simp only[go_sem,aj,aS]
def KJ:DPred:=.mk 0 0 0 ⟨0,0,ByteArray.empty⟩ []
def IU:DQuery:=⟨0,KJ,0,[]⟩
def qY (v:DVal):Bool:=(v.ty==0)&&((v.n==0)&&(v.s.toList==ByteArray.empty.toList))
def noQ (q:DQuery):Bool:=(q.kind==0)&&((q.col==0)&&(((q.out.length:Int)==0)&&((q.p.kind==0)&&((q.p.col==0)&&((q.p.op==0)&&(qY q.p.v&&((q.p.l.length:Int)==0)))))))
theorem ACm (l:List Int):Ny l []=((l.length:Int)==0):=by
 cases l with
 | nil=>rfl
 | cons a l=>symm; simp only[Ny,df,beq_eq_false_iff_ne]; omega
theorem AAK (l:List DPred):Hy l []=((l.length:Int)==0):=by
 cases l with
 | nil=>rw[Hy]; rfl
 | cons a l =>
  rw[Hy]<;>simp
  omega
theorem AIH (q:DQuery):WP q IU=noQ q:=by
 have e:NM q.p.v ⟨0,0,ByteArray.empty⟩=qY q.p.v:=rfl
 simp only[WP,iM,noQ,IU,ACm,KJ,DPred.kind,DPred.col,DPred.op,DPred.v,DPred.l,AAK]
 simp only[DPred.v] at e
 rw[e]
 simp only[Bool.and_assoc]
 rcases q.kind==0<;>rcases q.col==0<;>rcases((q.out.length:Int)==0)<;>simp only[ai,aj,aH,aS]
theorem ACn (q:DQuery):Ctr prog 349 [.agg q.c] [.val (.c (.v (.bool (noQ q))))]:=by
 refine CM call349 func349 ntmps349 results349 fun hw=>?_
 have e1:(q.p.v.ty==0&&(q.p.v.n==0&&q.p.v.s.toList==ByteArray.empty.toList))=qY q.p.v:=rfl
 rcases h1:q.kind==0 with _ | _
 ·simp only[go_sem,bi,aU,aN,h1,e1,EP,IG,aS,noQ,ai,aj]
 rcases h2:q.col==0 with _ | _
 ·simp only[go_sem,bi,aU,aN,h1,h2,e1,EP,IG,aS,noQ,ai,aj]
 rcases h3:((q.out.length:Int)==0) with _ | _
 ·simp only[go_sem,bi,aU,aN,h1,h2,h3,e1,EP,IG,aS,noQ,ai,aj]
 rcases h4:q.p.kind==0 with _ | _
 ·simp only[go_sem,bi,aU,aN,h1,h2,h3,h4,e1,EP,IG,aS,noQ,ai,aj]
 rcases h5:q.p.col==0 with _ | _
 ·simp only[go_sem,bi,aU,aN,h1,h2,h3,h4,h5,e1,EP,IG,aS,noQ,ai,aj]
 rcases h6:q.p.op==0 with _ | _
 ·simp only[go_sem,bi,aU,aN,h1,h2,h3,h4,h5,h6,e1,EP,IG,aS,noQ,ai,aj]
 rcases h7:qY q.p.v with _ | _
 ·simp only[go_sem,bi,aU,aN,h1,h2,h3,h4,h5,h6,h7,e1,EP,IG,aS,noQ,ai,aj]
 simp only[go_sem,h1,h2,h3,h4,h5,h6,h7,e1,EP,IG,aS,noQ,aj]
theorem ACo:Ee IU:=by
 rw[F9]
 refine⟨?_,az _⟩
 show A_ KJ
 rw[BP]
 exact⟨by simp[Gh,KJ,DPred.v],az _,fun x hx=>by cases hx⟩
def C9 (t:DTask):Bool:=((t.pc==0)&&((t.h==0)&&((((t.r.length:Int)==0))&&((t.id==0)&&((noQ t.q)&&((t.ts==0)&&((t.ver==0)&&((((t.l.length:Int)==0))&&((t.i==0)&&((t.j==0)&&((t.s==0)&&((t.at0==0)&&((t.own==0)&&((!t.won)&&(((t.got.length:Int)==0))))))))))))))))
theorem xG (t:DTask) (hq:Ee t.q):Ctr prog 308 [.agg t.c] [.val (.c (.v (.bool (C9 t))))]:=by
 refine CM call308 func308 ntmps308 results308 fun hw=>?_
 rcases kpc:t.pc==0 with _ | _
 ·simp only[go_sem,bi,aU,aN,kpc,C9,ai,aj]
 rcases kh:t.h==0 with _ | _
 ·simp only[go_sem,bi,aU,aN,kpc,kh,C9,ai,aj]
 rcases kr:((t.r.length:Int)==0) with _ | _
 ·simp only[go_sem,bi,aU,aN,kpc,kh,kr,C9,ai,aj]
 rcases kid:t.id==0 with _ | _
 ·simp only[go_sem,bi,aU,aN,kpc,kh,kr,kid,C9,ai,aj]
 simp only[go_sem,bi,aU,aN,kpc,kh,kr,kid]
 refine AAT _ (by have:=Ro t.q IU hq ACo; rw[AIH] at this; simpa only[go_sem,IU,KJ,DPred.kind,DPred.col,DPred.op,DPred.v,DPred.l,cu] using this) fun _=>?_
 exact AGf
theorem xH (t:DTask) (hq:Ee t.q):Ctr prog 295 [.agg t.c] [.val (.c (.v (.bool (C9 t))))]:=by
 refine CM call295 func295 ntmps295 results295 fun hw=>?_
 rcases kpc:t.pc==0 with _ | _
 ·simp only[go_sem,bi,aU,aN,kpc,C9,ai,aj]
 rcases kh:t.h==0 with _ | _
 ·simp only[go_sem,bi,aU,aN,kpc,kh,C9,ai,aj]
 rcases kr:((t.r.length:Int)==0) with _ | _
 ·simp only[go_sem,bi,aU,aN,kpc,kh,kr,C9,ai,aj]
 rcases kid:t.id==0 with _ | _
 ·simp only[go_sem,bi,aU,aN,kpc,kh,kr,kid,C9,ai,aj]
 simp only[go_sem,bi,aU,aN,kpc,kh,kr,kid]
 refine CW (ACn t.q) fun _=>?_
 exact AGf
end Go.Proofs.YtnoldekcdlaahaaGreat
