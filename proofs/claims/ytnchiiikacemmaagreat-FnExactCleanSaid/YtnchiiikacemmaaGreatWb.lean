/- A part. -/
import Derived.Test.YtnchiiikacemmaaGreatAa
import Derived.Test.YtnchiiikacemmaaGreatOa
import Derived.Test.YtnchiiikacemmaaGreatVmX
import Derived.Test.YtnchiiikacemmaaGreatDa
set_option linter.unusedSimpArgs false
set_option linter.unusedVariables false
set_option maxHeartbeats 2000000
set_option maxRecDepth 10000
open Go.Proofs.Tryz
namespace Go.Proofs.YtnchiiikacemmaaGreat
open Go.Vm
def AHI {α:Type} (f:α→Prop) (l:List α):Prop:=l.length≤1099511627776∧∀ x∈l,f x
theorem fitS.big {α:Type} {f:α→Prop} {l:List α} (h:fitS f l):AHI f l:=⟨Nat.le_trans h.1 (by decide),h.2⟩
theorem L_ {α:Type} {f:α→List Cl} {n:Nat} (h:∀ x,Go.Vm.rowOk n (f x)=true) (l:List α):Jc n (l.map f)=true:=aG.2 fun r hr=>by
 obtain⟨x,_,rfl⟩:=RX.1 hr
 exact h x
theorem Hq (l:List DVal):Jc 3 (l.map DVal.c)=true:=L_ (fun _=>rfl) l
theorem Ff (l:List DVal) (h:l.length≤1048576):Ctr prog 180 [.c (.sl (l.map DVal.c))] [.own 119 3 (l.map DVal.c) true]:=by
 refine CM call180 func180 ntmps180 results180 fun hw=>?_
 have hl:l.length≤2147483648:=by omega
 simp only[go_sem,Hq,ae,hl,aS,CX]
 try simp
theorem Zy (r:DRow) (h:r.l.length≤1048576):Ctr prog 222 [.agg r.c] [.agg r.o]:=by
 refine CM call222 func222 ntmps222 results222 fun hw=>?_
 simp only[go_sem]
 refine DrawK.mkE ?_
 simp only[go_sem]
 refine CallE.mk _ (Ff r.l h) ?_
 simp only[go_sem,CX]
 try simp[AY]
theorem pW (r:DRow) (h:r.l.length≤1048576):Ctr prog 199 [.agg r.c] [.agg r.o]:=by
 refine CM call199 func199 ntmps199 results199 fun hw=>?_
 have hl:r.l.length≤2147483648:=by omega
 simp only[go_sem]
 refine DrawK.mkE ?_
 simp only[go_sem,Hq,ae,hl,aS,CX]
 try simp[AY]
theorem pX (out:List DVal) (v:DVal):(out ++ [v]).map DVal.c=out.map DVal.c ++ [[.v (.int .i64 v.ty),.v (.int .i64 v.n),.v (.string v.s)]]:=by simp[DVal.c_eq]
def J7 (l:List DRow) (k:Int):List DVal:=l.filterMap fun r=>if 0≤k then r.l[k.toNat]? else none
theorem zq {l:List DRow} {n:Int} {k:Nat} (h:k<l.length):J7 (l.drop k) n=(if h2:0≤n∧n.toNat<l[k].l.length then [l[k].l[n.toNat]'h2.2] else [])++J7 (l.drop (k+1)) n:=by
 unfold J7
 rw[aC h,List.filterMap_cons]
 by_cases h1:0≤n
 ·by_cases h2:n.toNat<l[k].l.length
  ·simp[h1,h2]
  ·simp[h1,h2]
 ·simp[h1]
theorem jl (l:List DRow) (n:Int) (ha:AHI G_ l):Ctr prog 272 [.c (.sl (l.map DRow.c)),.c (.v (.int .i64 (n)))] [.own 119 3 ((J7 l n).map DVal.c) true]:=by
 refine CM call272 func272 ntmps272 results272 fun hw=>?_
 have hlen:=ha.1
 simp only[go_sem,ae]
 refine LoopH.mk [8] (A:=Nat×List DVal) (fun x=>[(11,.c (.v (.int .i64 (x.1)))),(5,.c (.ref 0))]) (fun x=>[⟨119,3,x.2.map DVal.c,true,true⟩]) (fun x=>x.1≤l.length∧x.2++J7 (l.drop x.1) n=J7 l n) (fun x=>l.length-x.1) (0,[]) (Head.sel [(0,false)] ⟨rfl,rfl,rfl,trivial⟩ rfl) ⟨ak _,rfl⟩ ?_
 rintro⟨k,out⟩ ⟨hk,hb⟩
 dsimp only at hk hb
 have hol:out.length≤l.length:=by
  have h1:(J7 l n).length≤l.length:=List.length_filterMap_le _ _
  rw[← hb] at h1
  simp at h1; omega
 simp only[go_sem]
 refine cndC.mk (fun h=>?_) (fun h=>?_)
 ·have hk':k<l.length:=by simpa using h
  have hr:=ha.2 _ (aj hk')
  rw[KY] at hr
  have hrl:=hr.1
  rw[zq hk'] at hb
  simp only[go_sem,AA _ hk']
  try refine DrawK.mk ?_
  try simp only[go_sem,ae,AA _ hk',hk',aS]
  by_cases hn:0≤n∧n.toNat<l[k].l.length
  ·rw[dif_pos hn] at hb
   obtain⟨m,rfl⟩:=aP hn.1
   have hm:m<l[k].l.length:=by have:=hn.2; simpa using this
   have e1:decide ((m:Int)≥0)=true:=by simp
   have e2:decide ((m:Int)<(l[k].l.length:Int))=true:=by simp; omega
   have hol2:out.length+1≤1099511627776:=by
    have h1:(J7 l (m:Int)).length≤l.length:=List.length_filterMap_le _ _
    have h2:=congrArg List.length hb
    simp at h2; omega
   simp only[go_sem,ae,AA _ hm,e1,e2,hol2,aS]
   try refine DrawK.mkE ?_
   simp only[go_sem,bK,Oo,wrap_i64 (n:=(k:Int)+1) (by omega) (by omega)]
   exact⟨(k+1,out ++ [l[k].l[m]]),Head.sel [(3,false)] ⟨rfl,rfl,by rw[← pX]; exact AO DVal.pure,trivial⟩ (by rw[← pX]; rfl),⟨hk',by rw[← hb,bJ]; rfl⟩,by simp only; omega⟩
  ·rw[dif_neg hn,bi] at hb
   have hfin:∀ P:Prop,P→P:=fun _ h=>h
   rcases h1:decide (n≥0) with _ | _
   ·simp only[go_sem,wrap_i64 (n:=(k:Int)+1) (by omega) (by omega)]
    exact⟨(k+1,out),Head.sel [(0,false)] ⟨rfl,rfl,AO DVal.pure,trivial⟩ rfl,⟨hk',hb⟩,by simp only; omega⟩
   ·have h2:decide (n<(l[k].l.length:Int))=false:=by simp at h1 ⊢; have:¬ n.toNat<l[k].l.length:=fun hh=>hn ⟨h1,hh⟩; omega
    simp only[go_sem,ae,h2,wrap_i64 (n:=(k:Int)+1) (by omega) (by omega)]
    exact⟨(k+1,out),Head.sel [(0,false)] ⟨rfl,rfl,AO DVal.pure,trivial⟩ rfl,⟨hk',hb⟩,by simp only; omega⟩
 ·have hk':k=l.length:=by simp at h; omega
  subst hk'
  rw[aO] at hb
  have:out=J7 l n:=by simpa [J7] using hb
  subst this
  simp only[go_sem,CX]
  try simp
def Eg (d:DDeed):Bool:=
 if(!(Ac d.op 1 4&&(Ac d.task 0 4&&Ac d.code 0 5)))=true then false else
 if(decide (d.stamp<0)||(decide (d.inv<0)||(decide (d.id < -1)||((d.lin != -1)&&decide (d.lin<d.inv)))))=true then false else
 (d.ret == -1)||((d.lin != -1)&&decide (d.ret≥d.lin))
theorem Tz (d:DDeed):Ctr prog 147 [.agg d.c] [.val (.c (.v (.bool (Eg d))))]:=by
 refine CM call147 func147 ntmps147 results147 fun hw=>?_
 simp only[go_sem]
 refine CallK.mk _ (AL d.op 1 4) fun _=>?_
 rcases h1:Ac d.op 1 4 with _ | _
 ·simp only[go_sem,Eg,h1,ag,aN]
 simp only[go_sem]
 refine CallK.mk _ (AL d.task 0 4) fun _=>?_
 rcases h2:Ac d.task 0 4 with _ | _
 ·simp only[go_sem,Eg,h1,h2,ag,aJ,aN]
 simp only[go_sem]
 refine CallK.mk _ (AL d.code 0 5) fun _=>?_
 rcases h3:Ac d.code 0 5 with _ | _
 ·simp only[go_sem,Eg,h1,h2,h3,aJ,aN]
 rcases h4:decide (d.stamp<0) with _ | _
 rotate_left
 ·simp only[go_sem,Eg,h1,h2,h3,h4,aU,aQ,Om]
 rcases h5:decide (d.inv<0) with _ | _
 rotate_left
 ·simp only[go_sem,Eg,h1,h2,h3,h4,h5,aU,aQ,Om,bT]
 rcases h6:decide (d.id < -1) with _ | _
 rotate_left
 ·simp only[go_sem,Eg,h1,h2,h3,h4,h5,h6,aU,aQ,Om,bT]
 rcases h7:d.lin == -1 with _ | _
 ·have h7':(d.lin != -1)=true:=by simp[bne,h7]
  rcases h8:decide (d.lin<d.inv) with _ | _
  rotate_left
  ·simp only[go_sem,Eg,h1,h2,h3,h4,h5,h6,h7',h8,aU,aQ,aN,bT]
  rcases h9:d.ret == -1 with _ | _
  all_goals simp only[go_sem,Eg,h1,h2,h3,h4,h5,h6,h7',h8,h9,aU,aJ,ai,aQ,aN,Om,bT,abw]
 ·have h7':(d.lin != -1)=false:=by simp[bne,h7]
  rcases h9:d.ret == -1 with _ | _
  all_goals simp only[go_sem,Eg,h1,h2,h3,h4,h5,h6,h7',h9,aU,ag,aQ,aN,abw]
theorem T_ (d:DDeed):Ctr prog 96 [.agg d.c] [.val (.c (.v (.bool (Eg d))))]:=by
 refine CM call96 func96 ntmps96 results96 fun hw=>?_
 simp only[go_sem]
 refine CallK.mk _ (AC d.op 1 4) fun _=>?_
 rcases h1:Ac d.op 1 4 with _ | _
 ·simp only[go_sem,Eg,h1,ag,aN]
 simp only[go_sem]
 refine CallK.mk _ (AC d.task 0 4) fun _=>?_
 rcases h2:Ac d.task 0 4 with _ | _
 ·simp only[go_sem,Eg,h1,h2,ag,aJ,aN]
 simp only[go_sem]
 refine CallK.mk _ (AC d.code 0 5) fun _=>?_
 rcases h3:Ac d.code 0 5 with _ | _
 ·simp only[go_sem,Eg,h1,h2,h3,aJ,aN]
 rcases h4:decide (d.stamp<0) with _ | _
 rotate_left
 ·simp only[go_sem,Eg,h1,h2,h3,h4,aU,aQ,Om]
 rcases h5:decide (d.inv<0) with _ | _
 rotate_left
 ·simp only[go_sem,Eg,h1,h2,h3,h4,h5,aU,aQ,Om,bT]
 rcases h6:decide (d.id < -1) with _ | _
 rotate_left
 ·simp only[go_sem,Eg,h1,h2,h3,h4,h5,h6,aU,aQ,Om,bT]
 rcases h7:d.lin == -1 with _ | _
 ·have h7':(d.lin != -1)=true:=by simp[bne,h7]
  rcases h8:decide (d.lin<d.inv) with _ | _
  rotate_left
  ·simp only[go_sem,Eg,h1,h2,h3,h4,h5,h6,h7',h8,aU,aQ,aN,bT]
  rcases h9:d.ret == -1 with _ | _
  all_goals simp only[go_sem,Eg,h1,h2,h3,h4,h5,h6,h7',h8,h9,aU,aJ,ai,aQ,aN,Om,bT,abw]
 ·have h7':(d.lin != -1)=false:=by simp[bne,h7]
  rcases h9:d.ret == -1 with _ | _
  all_goals simp only[go_sem,Eg,h1,h2,h3,h4,h5,h6,h7',h9,aU,ag,aQ,aN,abw]
attribute [go_sem] ae
theorem A_ {α:Type} {l:List α} {p:α→Bool} {k:Nat} (hk:k<l.length) (h:p l[k]=false):l.all p=false:=by
 rw[Bool.eq_false_iff]
 intro h2
 have:=aG.1 h2 _ (aj hk)
 rw[h] at this; cases this
theorem ADS {α:Type} {l:List α} {p:α→Bool} (h:∀ i (hi:i<l.length),i<l.length→p l[i]=true):l.all p=true:=aG.2 fun x hx=>by
 obtain⟨i,hi,rfl⟩:=aaW.1 hx
 exact h i hi hi
theorem AFG {α:Type} {l:List α} {p:α→Bool} {k:Nat} (hk:k<l.length) (hall:∀ i (h:i<l.length),i<k→p l[i]=true) (hc:p l[k]=true):k+1≤l.length∧∀ i (h:i<l.length),i<k+1→p l[i]=true:=⟨hk,fun i h2 h3=>by
 by_cases e:i=k
 ·subst e; exact hc
 ·exact hall i h2 (by omega)⟩
def Eh {α:Type} (l:List α) (p:α→Bool) (k:Nat):Prop:=k≤l.length∧∀ i (h:i<l.length),i<k→p l[i]=true
theorem DJ {α:Type} {l:List α} {p:α→Bool}:Eh l p 0:=⟨ak _,fun _ _ h=>by omega⟩
theorem BI {α:Type} {l:List α} {p:α→Bool} {k:Nat} (hk:k<l.length) (h:Eh l p k) (hc:p l[k]=true):Eh l p (k+1):=AFG hk h.2 hc
theorem Bo {α:Type} {l:List α} {p:α→Bool} (h:Eh l p l.length):l.all p=true:=ADS h.2
def LD (c:DConf):Bool:=EX c.cols&&(Ac c.slots 1 4&&Ac c.bufs 1 8)
theorem UA (c:DConf):Ctr prog 87 [.agg c.c] [.val (.c (.v (.bool (LD c))))]:=by
 refine CM call87 func87 ntmps87 results87 fun hw=>?_
 simp only[go_sem]
 refine CallK.mk _ (OD c.cols) fun _=>?_
 rcases h1:EX c.cols with _ | _
 ·simp only[go_sem,LD,h1,ag]
 simp only[go_sem]
 refine CallK.mk _ (AC c.slots 1 4) fun _=>?_
 rcases h2:Ac c.slots 1 4 with _ | _
 ·simp only[go_sem,LD,h1,h2,ag,ai]
 simp only[go_sem]
 refine CallK.mk _ (AC c.bufs 1 8) fun _=>?_
 simp only[go_sem,LD,h1,h2,ai]
theorem UB (c:DConf):Ctr prog 73 [.agg c.c] [.val (.c (.v (.bool (LD c))))]:=by
 refine CM call73 func73 ntmps73 results73 fun hw=>?_
 simp only[go_sem]
 refine CallK.mk _ (OC c.cols) fun _=>?_
 rcases h1:EX c.cols with _ | _
 ·simp only[go_sem,LD,h1,ag]
 simp only[go_sem]
 refine CallK.mk _ (AL c.slots 1 4) fun _=>?_
 rcases h2:Ac c.slots 1 4 with _ | _
 ·simp only[go_sem,LD,h1,h2,ag,ai]
 simp only[go_sem]
 refine CallK.mk _ (AL c.bufs 1 8) fun _=>?_
 simp only[go_sem,LD,h1,h2,ai]
def MM (n:Int):Bool:=decide (n ≥ -1)
theorem UC (n:Int):Ctr prog 165 [.c (.v (.int .i64 (n)))] [.val (.c (.v (.bool (MM n))))]:=by
 refine CM call165 func165 ntmps165 results165 fun hw=>?_
 simp only[go_sem,MM]
theorem OE (n:Int):Ctr prog 152 [.c (.v (.int .i64 (n)))] [.val (.c (.v (.bool (MM n))))]:=by
 refine CM call152 func152 ntmps152 results152 fun hw=>?_
 simp only[go_sem,MM]
def PV (e p:Int):Bool:=!((p != -1) && !Ac p 0 e)
def MN (l:List Int) (e:Int):Bool:=l.all (PV e)
theorem UD (l:List Int) (e:Int) (hl:l.length≤1048576):Ctr prog 94 [.c (.sl (l.map intC)),.c (.v (.int .i64 (e)))] [.val (.c (.v (.bool (MN l e))))]:=by
 refine CM call94 func94 ntmps94 results94 fun hw=>?_
 simp only[go_sem]
 refine LoopU.mk 0 (A:=Nat) (fun x=>[(9,.c (.v (.int .i64 (x))))]) (fun _=>[]) (Eh l (PV e)) (fun x=>l.length-x) 0 ⟨⟨rfl,rfl⟩,rfl,DJ⟩ ?_
 intro k hk
 simp only[go_sem]
 refine cndC.mk (fun h=>?_) (fun h=>?_)
 ·have hk':k<l.length:=by simpa using h
  rcases h1:l[k] != -1 with _ | _
  ·simp only[go_sem,AA _ hk',h1,wrap_i64 (n:=(k:Int)+1) (by omega) (by omega)]
   exact⟨k+1,⟨rfl,rfl⟩,rfl,BI hk' hk (by simp[PV,h1]),by omega⟩
  simp only[go_sem,AA _ hk',h1]
  refine CallK.mk _ (AC l[k] 0 e) fun _=>?_
  rcases h2:Ac l[k] 0 e with _ | _
  ·simp only[go_sem,MN,A_ (p:=PV e) hk' (by simp[PV,h1,h2])]
  ·simp only[go_sem,wrap_i64 (n:=(k:Int)+1) (by omega) (by omega)]
   exact⟨k+1,⟨rfl,rfl⟩,rfl,BI hk' hk (by simp[PV,h1,h2]),by omega⟩
 ·have hk':k=l.length:=by have:=hk.1; simp at h; omega
  subst hk'
  simp only[go_sem,MN,Bo hk]
theorem UE (l:List Int) (e:Int) (hl:l.length≤1048576):Ctr prog 76 [.c (.sl (l.map intC)),.c (.v (.int .i64 (e)))] [.val (.c (.v (.bool (MN l e))))]:=by
 refine CM call76 func76 ntmps76 results76 fun hw=>?_
 simp only[go_sem]
 refine LoopU.mk 0 (A:=Nat) (fun x=>[(5,.c (.v (.int .i64 (x))))]) (fun _=>[]) (Eh l (PV e)) (fun x=>l.length-x) 0 ⟨⟨rfl,rfl⟩,rfl,DJ⟩ ?_
 intro k hk
 simp only[go_sem]
 refine cndC.mk (fun h=>?_) (fun h=>?_)
 ·have hk':k<l.length:=by simpa using h
  rcases h1:l[k] != -1 with _ | _
  ·simp only[go_sem,AA _ hk',h1,wrap_i64 (n:=(k:Int)+1) (by omega) (by omega)]
   exact⟨k+1,⟨rfl,rfl⟩,rfl,BI hk' hk (by simp[PV,h1]),by omega⟩
  simp only[go_sem,AA _ hk',h1]
  refine CallK.mk _ (AL l[k] 0 e) fun _=>?_
  rcases h2:Ac l[k] 0 e with _ | _
  ·simp only[go_sem,MN,A_ (p:=PV e) hk' (by simp[PV,h1,h2])]
  ·simp only[go_sem,wrap_i64 (n:=(k:Int)+1) (by omega) (by omega)]
   exact⟨k+1,⟨rfl,rfl⟩,rfl,BI hk' hk (by simp[PV,h1,h2]),by omega⟩
 ·have hk':k=l.length:=by have:=hk.1; simp at h; omega
  subst hk'
  simp only[go_sem,MN,Bo hk]
def endOf (d:DDir):Int:=match d.l.getLast? with
 | none=>0
 | some r=>IntKind.i64.wrap (r.first+r.many)
theorem fA {d:DDir} (h:d.l = []):endOf d=0:=by simp[endOf,h]
theorem pY {d:DDir} {k:Nat} (h:d.l.length=k+1):∃ hk:k<d.l.length,endOf d=IntKind.i64.wrap (d.l[k].first+d.l[k].many):=by
 have hk:k<d.l.length:=by omega
 refine⟨hk, ?_⟩
 unfold endOf
 rw[List.getLast?_eq_getElem?,h,show k+1-1=k from rfl,aA hk]
theorem WC (d:DDir) (hl:d.l.length≤1048576):Ctr prog 166 [.agg d.c] [.val (.c (.v (.int .i64 (endOf d))))]:=by
 refine CM call166 func166 ntmps166 results166 fun hw=>?_
 rcases hn:d.l.length with _ | k
 ·have e0:((d.l.length:Int)==0)=true:=by rw[hn]; rfl
  simp only[go_sem,e0,fA (abx.1 hn)]
 obtain⟨hk,he⟩:=pY hn
 have e0:((d.l.length:Int)==0)=false:=by rw[hn]; simp; omega
 have e1:IntKind.i64.wrap ((d.l.length:Int)-1)=(k:Int):=by rw[wrap_i64 (by omega) (by omega)]; omega
 simp only[go_sem,e0,e1,AA _ hk,he]
theorem WE (d:DDir) (hl:d.l.length≤1048576):Ctr prog 153 [.agg d.c] [.val (.c (.v (.int .i64 (endOf d))))]:=by
 refine CM call153 func153 ntmps153 results153 fun hw=>?_
 rcases hn:d.l.length with _ | k
 ·have e0:((d.l.length:Int)==0)=true:=by rw[hn]; rfl
  simp only[go_sem,e0,fA (abx.1 hn)]
 obtain⟨hk,he⟩:=pY hn
 have e0:((d.l.length:Int)==0)=false:=by rw[hn]; simp; omega
 have e1:IntKind.i64.wrap ((d.l.length:Int)-1)=(k:Int):=by rw[wrap_i64 (by omega) (by omega)]; omega
 simp only[go_sem,e0,e1,AA _ hk,he]
def Dv (r:DRef):Bool:=decide (r.buf≥0)&&(decide (r.gen≥0)&&(Ac r.kind 1 2&&Ac r.many 1 1000000000))
theorem AFH (n:Int):((n==1)||(n==2))=Ac n 1 2:=by
 simp only[Ac]
 rcases h1:n==1 with _ | _
 ·rcases h2:n==2 with _ | _
  ·simp at h1 h2 ⊢
   omega
  ·simp at h2 ⊢
   omega
 ·simp at h1 ⊢
  omega
theorem PW (r:DRef):Ctr prog 162 [.agg r.c] [.val (.c (.v (.bool (Dv r))))]:=by
 refine CM call162 func162 ntmps162 results162 fun hw=>?_
 rcases h1:decide (r.buf≥0) with _ | _
 ·simp only[go_sem,h1,Dv,ag]
 rcases h2:decide (r.gen≥0) with _ | _
 ·simp only[go_sem,h1,h2,Dv,ag,ai]
 have e:=AFH r.kind
 rcases h3:r.kind==1 with _ | _
 ·rcases h4:r.kind==2 with _ | _
  ·rw[h3,h4] at e
   simp only[go_sem,h1,h2,h3,h4,Dv,← e,ag,ai,abw]
  ·rw[h3,h4] at e
   simp only[go_sem,h1,h2,h3,h4]
   refine CallK.mk _ (AC r.many 1 1000000000) fun _=>?_
   simp only[go_sem,Dv,h1,h2,← e,ai,Bool.or_true]
 ·rw[h3,Om] at e
  simp only[go_sem,h1,h2,h3]
  refine CallK.mk _ (AC r.many 1 1000000000) fun _=>?_
  simp only[go_sem,Dv,h1,h2,← e,ai]
theorem PX (r:DRef):Ctr prog 146 [.agg r.c] [.val (.c (.v (.bool (Dv r))))]:=by
 refine CM call146 func146 ntmps146 results146 fun hw=>?_
 rcases h1:decide (r.buf≥0) with _ | _
 ·simp only[go_sem,h1,Dv,ag]
 rcases h2:decide (r.gen≥0) with _ | _
 ·simp only[go_sem,h1,h2,Dv,ag,ai]
 simp only[go_sem,h1,h2]
 refine CallK.mk _ (AL r.kind 1 2) fun _=>?_
 rcases h3:Ac r.kind 1 2 with _ | _
 ·simp only[go_sem,h1,h2,h3,Dv,ag,ai]
 have e:Ac r.many 1 1000000000=(decide (r.many≥1)&&decide (r.many≤1000000000)):=rfl
 rcases h4:decide (r.many≥1) with _ | _
 ·simp only[go_sem,h1,h2,h3,h4,Dv,e,ag,ai]
 ·simp only[go_sem,h1,h2,h3,h4,Dv,e,ai]
def D9 (l:List DRef) (n:Int):Bool:=l.any fun r=>r.buf==n
theorem jm {α:Type} {l:List α} {p:α→Bool} {k:Nat} (hk:k<l.length) (h:p l[k]=true):l.any p=true:=List.any_eq_true.2 ⟨_,aj hk,h⟩
theorem uj {α:Type} {l:List α} {p:α→Bool} (h:Eh l (fun x=>!p x) l.length):l.any p=false:=by
 rw[Bool.eq_false_iff]
 intro h2
 obtain⟨x,hx,hp⟩:=List.any_eq_true.1 h2
 obtain⟨i,hi,rfl⟩:=aaW.1 hx
 have:=h.2 i hi hi
 simp[hp] at this
theorem jo (d:DDir) (n:Int) (hl:d.l.length≤1048576):Ctr prog 163 [.agg d.c,.c (.v (.int .i64 (n)))] [.val (.c (.v (.bool (D9 d.l n))))]:=by
 refine CM call163 func163 ntmps163 results163 fun hw=>?_
 simp only[go_sem]
 refine LoopU.mk 1 (A:=Nat) (fun x=>[(10,.c (.v (.int .i64 (x))))]) (fun _=>[⟨39,2,[d.c],true,true⟩]) (Eh d.l fun r=>!(r.buf==n)) (fun x=>d.l.length-x) 0 ⟨⟨rfl,rfl⟩,rfl,DJ⟩ ?_
 intro k hk
 simp only[go_sem]
 refine cndC.mk (fun h=>?_) (fun h=>?_)
 ·have hk':k<d.l.length:=by simpa using h
  rcases h1:d.l[k].buf==n with _ | _
  ·simp only[go_sem,AA _ hk',h1,wrap_i64 (n:=(k:Int)+1) (by omega) (by omega)]
   exact⟨k+1,⟨rfl,rfl⟩,rfl,BI hk' hk (by simp[h1]),by omega⟩
  ·simp only[go_sem,AA _ hk',h1,D9,jm (p:=fun r:DRef=>r.buf==n) hk' h1]
 ·have hk':k=d.l.length:=by have:=hk.1; simp at h; omega
  subst hk'
  simp only[go_sem,D9,uj hk]
theorem UF (d:DDir) (n:Int) (hl:d.l.length≤1048576):Ctr prog 149 [.agg d.c,.c (.v (.int .i64 (n)))] [.val (.c (.v (.bool (D9 d.l n))))]:=by
 refine CM call149 func149 ntmps149 results149 fun hw=>?_
 simp only[go_sem]
 refine LoopU.mk 1 (A:=Nat) (fun x=>[(5,.c (.v (.int .i64 (x))))]) (fun _=>[⟨39,2,[d.c],true,true⟩]) (Eh d.l fun r=>!(r.buf==n)) (fun x=>d.l.length-x) 0 ⟨⟨rfl,rfl⟩,rfl,DJ⟩ ?_
 intro k hk
 simp only[go_sem]
 refine cndC.mk (fun h=>?_) (fun h=>?_)
 ·have hk':k<d.l.length:=by simpa using h
  rcases h1:d.l[k].buf==n with _ | _
  ·simp only[go_sem,AA _ hk',h1,wrap_i64 (n:=(k:Int)+1) (by omega) (by omega)]
   exact⟨k+1,⟨rfl,rfl⟩,rfl,BI hk' hk (by simp[h1]),by omega⟩
  ·simp only[go_sem,AA _ hk',h1,D9,jm (p:=fun r:DRef=>r.buf==n) hk' h1]
 ·have hk':k=d.l.length:=by have:=hk.1; simp at h; omega
  subst hk'
  simp only[go_sem,D9,uj hk]
def isByte (c:Int):Prop:=0≤c∧c<256
def AQ (b:List Int):Prop:=∀ c∈b,isByte c
theorem Ro {b:List Int} (h:AQ b) {k:Nat} {c:Int} (hk:b[k]?=some c):isByte c:=h c (aZ hk)
def zig (n:Int):Int:=if n<0 then -2*n-1 else 2*n
def zag (x:Int):Int:=if x%2=1 then -((x+1)/2) else x/2
theorem ADT {x:Int} (h:0≤x):zig (zag x)=x:=by
 unfold zig zag
 split
 ·rw[aX (by omega)]; omega
 ·rw[aV (by omega)]; omega
theorem ADU {x:Int} (h:0≤x) (h2:x≤2000000000) : -1000000000≤zag x∧zag x≤1000000000:=by
 unfold zag
 split<;>constructor<;>omega
def Ya:Nat→Int→List Int
 | 0,x=>[x]
 | f+1,x=>if x≥128 then(x%128+128)::Ya f (x/128) else [x]
def EO (n:Int):List Int:=Ya 4 (zig n)
def I4 (b:List Int) (p:Nat):Nat→Int→Nat→Option (Int×Nat)
 | 0,_,_=>none
 | f+1,x,i=>match b[p+i]? with
  | none=>none
  | some c=>if c≥128 then I4 b p f (x+(c%128)*128 ^ i) (i+1) else
   if(0<i∧c=0)∨x+(c%128)*128 ^ i>2000000000 then none else some (zag (x+(c%128)*128 ^ i),p+i+1)
def BK (b:List Int) (p:Int):Option (Int×Nat):=if 0≤p then I4 b p.toNat 5 0 0 else none
theorem zt {b:List Int} (hb:AQ b) (p:Nat):∀ (f:Nat) (x:Int) (i:Nat) (n:Int) (q:Nat),0≤x→I4 b p (f+1) x i=some (n,q) →
  ∃ y:Int,0≤y∧(0<i→0<y)∧x+y*128 ^ i≤2000000000∧n=zag (x+y*128 ^ i)∧p+i<q∧q≤b.length∧(b.drop (p+i)).take (q-(p+i))=Ya f y:=by
 intro f
 induction f with
 | zero =>
  intro x i n q hx h
  simp only[I4] at h
  cases hc:b[p+i]? with
  | none=>simp[hc] at h
  | some c =>
   simp only[hc] at h
   obtain⟨c0,c1⟩:=Ro hb hc
   split at h
   ·cases h
   ·rename_i hlt
    split at h
    ·cases h
    ·rename_i hno
     simp only[ah,bQ] at h
     obtain⟨rfl,rfl⟩:=h
     have hm:c%128=c:=by omega
     rw[hm] at hno ⊢
     have hl:=(ay.1 hc).1
     refine⟨c,c0,fun hi=>?_,by omega,rfl,by omega,by omega, ?_⟩
     ·have:¬ (0<i∧c=0):=fun hh=>hno (.inl hh)
      omega
     ·rw[aC hl]
      have e1:p+i+1-(p+i)=1:=by omega
      have e2:b[p+i]=c:=(ay.1 hc).2
      rw[e1,e2]; simp[Ya]
 | succ f ih =>
  intro x i n q hx h
  rw[I4] at h
  cases hc:b[p+i]? with
  | none=>simp[hc] at h
  | some c =>
   simp only[hc] at h
   obtain⟨c0,c1⟩:=Ro hb hc
   have hl:=(ay.1 hc).1
   have e2:b[p+i]=c:=(ay.1 hc).2
   have hp:(0:Int)≤128 ^ i:=zJ (by omega)
   split at h
   ·rename_i hge
    have hm0:0≤c%128*128 ^ i:=aaZ (by omega) hp
    obtain⟨y,y0,y1,y2,y3,y4,y5,y6⟩:=ih _ (i+1) n q (by omega) h
    have y1:=y1 (by omega)
    have e3:x+c%128*128 ^ i+y*128 ^ (i+1)=x+(c%128+y*128)*128 ^ i:=by
     rw[ww,Int.add_mul,Int.mul_assoc y 128,Int.mul_comm 128 (128 ^ i)]; omega
    rw[e3] at y2 y3
    refine⟨c%128+y*128,by omega,fun _=>by omega,y2,y3,by omega,y5, ?_⟩
    rw[aC hl,e2]
    have e4:q-(p+i)=(q-(p+(i+1)))+1:=by omega
    rw[e4,abk]
    have e5:p+i+1=p+(i+1):=by omega
    rw[e5,y6,Ya,aX (by omega)]
    congr 1
    ·omega
    ·congr 1; omega
   ·rename_i hlt
    split at h
    ·cases h
    ·rename_i hno
     simp only[ah,bQ] at h
     obtain⟨rfl,rfl⟩:=h
     have hm:c%128=c:=by omega
     rw[hm] at hno ⊢
     refine⟨c,c0,fun hi=>?_,by omega,rfl,by omega,by omega, ?_⟩
     ·have:¬ (0<i∧c=0):=fun hh=>hno (.inl hh)
      omega
     ·rw[aC hl,e2]
      have e1:p+i+1-(p+i)=1:=by omega
      rw[e1]
      simp[Ya,show ¬ c≥128 by omega]
theorem Gq {b:List Int} (hb:AQ b) {p n:Int} {q:Nat} (h:BK b p=some (n,q)) :
  0≤p∧p<q∧q≤b.length∧ -1000000000≤n∧n≤1000000000∧(b.drop p.toNat).take (q-p.toNat)=EO n:=by
 unfold BK at h
 split at h
 ·rename_i hp
  obtain⟨y,y0,_,y2,y3,y4,y5,y6⟩:=zt hb p.toNat 4 0 0 n q (abD _) h
  simp only[Int.pow_zero,Int.mul_one,Int.zero_add] at y2 y3
  have:=ADU y0 y2
  refine⟨hp,by omega,y5,by omega,by omega, ?_⟩
  rw[EO,y3,ADT y0]
  simpa using y6
 ·cases h
theorem QP (b:List Int) {p q r:Nat} (h1:p≤q) (h2:q≤r):(b.drop p).take (r-p)=(b.drop p).take (q-p)++(b.drop q).take (r-q):=by
 have e1:r-p=(q-p)+(r-q):=by omega
 have e2:p+(q-p)=q:=by omega
 rw[e1,List.take_add,List.drop_drop,e2]
def pg (s:ByteArray):List Int:=s.data.toList.map fun x=>(x.toNat:Int)
theorem ABu (s:ByteArray):(pg s).length=s.size:=by simp only[pg,ae]; rfl
theorem jq {l:List Int} (h:AQ l):pg (strOfNums l)=l:=by
 unfold pg
 rw[strOfNums_data,List.map_map]
 conv=>rhs; rw[← List.map_id l]
 refine aaM fun c hc=>?_
 obtain⟨h1,h2⟩:=h c hc
 simp only[Function.comp,id_eq,UInt8.toNat_ofNat']
 omega
theorem QQ {b:List Int} (h:AQ b) (p n:Nat):AQ ((b.drop p).take n):=fun c hc=>h c (aaH (zD hc))
def UG (v:DVal):List Int:=if v.ty=1 then EO v.n else(v.s.size:Int)::pg v.s
noncomputable def Ei (b:List Int) (p ty:Int):Option (DVal×Nat):=
 if ty=1 then(BK b p).map fun x=>(⟨1,x.1,ByteArray.empty⟩,x.2) else
 if ty=2∧0≤p then match b[p.toNat]? with
  | none=>none
  | some k=>if p.toNat+1+k.toNat≤b.length then(if BF ⟨2,0,strOfNums ((b.drop (p.toNat+1)).take k.toNat)⟩=true then some (⟨2,0,strOfNums ((b.drop (p.toNat+1)).take k.toNat)⟩,p.toNat+1+k.toNat) else none) else none
 else none
theorem fB (n:Int) (h : -1000000000≤n∧n≤1000000000):BF ⟨1,n,ByteArray.empty⟩=true:=by
 simp only[BF,aW,Di,Ac]
 simp[h.1,h.2]
theorem zu {b:List Int} (hb:AQ b) {p ty:Int} {v:DVal} {q:Nat} (h:Ei b p ty=some (v,q)) :
  0≤p∧p<q∧q≤b.length∧v.ty=ty∧(ty=1∨ty=2)∧BF v=true∧(b.drop p.toNat).take (q-p.toNat)=UG v:=by
 unfold Ei at h
 split at h
 ·rename_i hty
  cases hn:BK b p with
  | none=>simp[hn] at h
  | some x =>
   obtain⟨n,q'⟩:=x
   simp only[hn,bU,ah,bQ] at h
   obtain⟨rfl,rfl⟩:=h
   obtain⟨h1,h2,h3,h4,h5,h6⟩:=Gq hb hn
   exact⟨h1,h2,h3,hty.symm,.inl hty,fB n ⟨h4,h5⟩,by simpa [UG] using h6⟩
 ·split at h
  ·rename_i hp
   cases hk:b[p.toNat]? with
   | none=>simp[hk] at h
   | some k =>
    simp only[hk] at h
    obtain⟨k0,k1⟩:=Ro hb hk
    split at h
    ·rename_i hlen
     split at h
     ·rename_i hv
      simp only[ah,bQ] at h
      obtain⟨rfl,rfl⟩:=h
      have hl:=(ay.1 hk).1
      have e2:b[p.toNat]=k:=(ay.1 hk).2
      refine⟨hp.2,by omega,hlen,hp.1.symm,.inr hp.1,hv, ?_⟩
      rw[aC hl,e2]
      have e1:p.toNat+1+k.toNat-p.toNat=k.toNat+1:=by omega
      rw[e1,abk]
      simp only[UG,show ¬ (2:Int)=1 by omega,aI,jq (QQ hb _ _),strOfNums_size]
      congr 1
      simp only[bn,zG]
      omega
     ·cases h
    ·cases h
  ·cases h
noncomputable def Ba (b:List Int) (ty:Int):Nat→Nat→Option (List DVal×Nat)
 | 0,p=>some ([],p)
 | k+1,p=>match Ei b p ty with
  | none=>none
  | some (v,q)=>(Ba b ty k q).map fun x=>(v::x.1,x.2)
def I5 (l:List DVal):List Int:=(l.map UG).flatten
theorem IZ {b:List Int} (hb:AQ b) {ty:Int}:∀ (k p:Nat) (l:List DVal) (q:Nat),p≤b.length→Ba b ty k p=some (l,q) →
  p≤q∧q≤b.length∧l.length=k∧(∀ v∈l,BF v=true∧v.ty=ty∧(ty=1∨ty=2))∧(b.drop p).take (q-p)=I5 l
 | 0,p,l,q,hp,h=>by
  simp only[Ba,ah,bQ] at h
  obtain⟨rfl,rfl⟩:=h
  exact⟨aK _,hp,rfl,by simp,by simp[I5]⟩
 | k+1,p,l,q,hp,h=>by
  rw[Ba] at h
  cases hv:Ei b p ty with
  | none=>simp[hv] at h
  | some x =>
   obtain⟨v,m⟩:=x
   simp only[hv] at h
   cases hr:Ba b ty k m with
   | none=>simp[hr] at h
   | some y =>
    obtain⟨l',q'⟩:=y
    simp only[hr,bU,ah,bQ] at h
    obtain⟨rfl,rfl⟩:=h
    obtain⟨a1,a2,a3,a4,a5,a6,a7⟩:=zu hb hv
    obtain⟨c1,c2,c3,c4,c5⟩:=IZ hb k m l' q' a3 hr
    refine⟨by omega,c2,by simp[c3],fun x hx=>?_, ?_⟩
    ·rcases bW.1 hx with rfl | hx
     ·exact⟨a6,a4,a5⟩
     ·exact c4 x hx
    ·rw[QP b (p:=p) (q:=m) (r:=q') (by omega) c1,c5]
     have:(b.drop p).take (m-p)=UG v:=by simpa using a7
     rw[this]; rfl
noncomputable def typeOf (l:List DVal):Int:=match l with
 | []=>0
 | v::r=>if l.length≤64∧∀ x∈l,BF x=true∧x.ty=v.ty then v.ty else 0
theorem QR {l:List DVal} {ty:Int} (h1:1≤l.length) (h2:l.length≤64) (h:∀ v∈l,BF v=true∧v.ty=ty):typeOf l=ty:=by
 cases l with
 | nil=>simp at h1
 | cons v r =>
  have hv:=(h v (by simp)).2
  show (if(v::r).length≤64∧∀ x∈(v::r),BF x=true∧x.ty=v.ty then v.ty else 0)=ty
  rw[aX ⟨h2,fun x hx=>⟨(h x hx).1,by rw[(h x hx).2,hv]⟩⟩,hv]
noncomputable def Dy (l:List DVal):List Int:=if typeOf l=0 then [] else I5 l
noncomputable def FD (b:List Int) (ty:Int) (k:Int):Option (List DVal):=
 if 1≤k∧k≤64 then match Ba b ty k.toNat 0 with
  | none=>none
  | some (l,q)=>if q=b.length then some l else none
 else none
noncomputable def again (b:List Int) (k:Int) (l:List DVal) (e:List Int):Option (List DVal):=if 1≤k∧k≤64∧(l.length:Int)=k∧b=e then some l else none
noncomputable def NJ (b:List Int) (ty:Int) (k:Int):Option (List DVal):=
 if 1≤k∧k≤64 then again b k (((Ba b ty k.toNat 0).map Prod.fst).getD []) (Dy (((Ba b ty k.toNat 0).map Prod.fst).getD [])) else none
theorem WF {b:List Int} (hb:AQ b) (ty k:Int):NJ b ty k=FD b ty k:=by
 unfold NJ FD
 by_cases hk:1≤k∧k≤64
 ·rw[aX hk,aX hk]
  cases hv:Ba b ty k.toNat 0 with
  | none =>
   simp only[dm,rV,again]
   rw[aV]
   simp only[oI]
   omega
  | some x =>
   obtain⟨l,q⟩:=x
   obtain⟨_,c2,c3,c4,c5⟩:=IZ hb k.toNat 0 l q (ak _) hv
   have h0:0<l.length:=by omega
   obtain⟨v0,hv0⟩:∃ v,v∈l:=⟨l[0],aj h0⟩
   have hty:=(c4 v0 hv0).2.2
   have ht:typeOf l=ty:=QR (by omega) (by omega) fun v hv=>⟨(c4 v hv).1,(c4 v hv).2.1⟩
   have he:Dy l=b.take q:=by
    unfold Dy
    rw[aV (by rw[ht]; omega),← c5]; simp
   simp only[bU,aS,again,he]
   by_cases hq:q=b.length
   ·rw[aX hq,aX ⟨hk.1,hk.2,by omega,by rw[hq,bP]⟩]
   ·rw[aV hq,aV]
    rintro⟨_,_,_,h4⟩
    have:=congrArg List.length h4
    simp only[bn] at this
    omega
 ·rw[aV hk,aV hk]
theorem pq {b:List Int} (hb:AQ b) {ty k:Int} {l:List DVal} (h:FD b ty k=some l):1≤k∧k≤64∧(l.length:Int)=k:=by
 unfold FD at h
 split at h
 ·rename_i hk
  cases hv:Ba b ty k.toNat 0 with
  | none=>simp[hv] at h
  | some x =>
   obtain⟨l',q⟩:=x
   simp only[hv] at h
   split at h
   ·simp only[ah] at h
    subst h
    have:=(IZ hb k.toNat 0 _ q (ak _) hv).2.2.1
    omega
   ·cases h
 ·cases h
end Go.Proofs.YtnchiiikacemmaaGreat
