/- A part. -/
import Derived.Test.YtnoldekcdlaahaaGreatPAc
import Derived.Test.YtnoldekcdlaahaaGreatPOa
import Derived.Test.YtnoldekcdlaahaaGreatPVn
set_option linter.unusedSimpArgs false
set_option linter.unusedVariables false
set_option maxHeartbeats 4000000
set_option maxRecDepth 100000
open Go.Proofs.Tryz
namespace Go.Proofs.YtnoldekcdlaahaaGreat
open Go.Vm
def AEJ {α:Type} (f:α→Prop) (l:List α):Prop:=l.length≤1099511627776∧∀ x∈l,f x
theorem fitS.big {α:Type} {f:α→Prop} {l:List α} (h:fitS f l):AEJ f l:=⟨Nat.le_trans h.1 AOU,h.2⟩
theorem OH {α:Type} {f:α→List Cl} {n:Nat} (h:∀ x,Go.Vm.rowOk n (f x)=true) (l:List α):Kz n (l.map f)=true:=aJ.2 fun r hr=>by
 grind
theorem G_ (l:List DVal):Kz 3 (l.map DVal.c)=true:=OH (fun _=>rfl) l
theorem FD (l:List DVal) (h:l.length≤1048576):Ctr prog 235 [.c (.sl (l.map DVal.c))] [.own 64 3 (l.map DVal.c) true]:=by
 refine CM call235 func235 ntmps235 results235 fun hw=>?_
 have hl:l.length≤2147483648:=AOQ
 simp only[go_sem,G_,ae,hl,aH,DD]
 try simp
theorem OZ (r:DRow) (h:r.l.length≤1048576):Ctr prog 315 [.agg r.c] [.agg r.o]:=by
 refine CM call315 func315 ntmps315 results315 fun hw=>?_
 simp only[go_sem]
 refine ABH ?_
 simp only[go_sem]
 refine ACI _ (FD r.l h) ?_
 simp only[go_sem,DD]
 try exact AII
theorem Ro (r:DRow) (h:r.l.length≤1048576):Ctr prog 290 [.agg r.c] [.agg r.o]:=by
 refine CM call290 func290 ntmps290 results290 fun hw=>?_
 have hl:r.l.length≤2147483648:=AOQ
 simp only[go_sem]
 refine ABH ?_
 simp only[go_sem,G_,ae,hl,aH,DD]
 try exact AII
def XT:List Cl:=[.v (.int .i64 0),.v (.slice none 0 0)]
def Rq:Option DRow→Res
 | none=>.val (.agg [.v (.int .i64 0),.sl []])
 | some r=>.agg r.o
def KC (l:List DRow) (n:Int):Option DRow:=l.find? fun r=>r.id==n
theorem AHx (l:List DRow) (n:Int) (ha:AEJ Hf l):Ctr prog 241 [.c (.sl (l.map DRow.c)),.c (.v (.int .i64 (n)))] [Rq (KC l n),.val (.c (.v (.bool ((KC l n).isSome))))]:=by
 refine CM call241 func241 ntmps241 results241 fun hw=>?_
 have hlen:=ha.1
 simp only[go_sem,ae]
 refine ABK 1 (A:=Nat) (fun k=>[(10,.c (.v (.int .i64 (k))))]) (fun _=>[⟨204,2,[XT],true,true⟩]) (fun k=>k≤l.length∧KC (l.drop k) n=KC l n) (fun k=>l.length-k) 0 ⟨⟨rfl,rfl⟩,rfl,aA _,rfl⟩ ?_
 rintro k ⟨hk,hf⟩
 simp only[go_sem,ae,XT]
 refine ABG (fun h=>?_) (fun h=>?_)
 ·have hk':k<l.length:=by simpa using h
  have hr:=ha.2 _ (ax hk')
  rw[JW] at hr
  rw[aG hk',KC,List.find?_cons] at hf
  simp only[go_sem,ae,AA _ hk',hk',aH]
  try refine AAm ?_
  try simp only[go_sem,ae,AA _ hk',hk',aH]
  rcases hv:l[k].id==n with _ | _
  ·simp only[go_sem,hv,wrap_i64 (n:=(k:Int)+1) AOQ AOQ]
   rw[hv] at hf
   exact AKw
  ·simp only[go_sem,hv,AA _ hk',hk',aH]
   rw[hv] at hf
   rw[← hf]
   first | refine CW (OZ l[k] hr.1) fun _=>?_ | (refine ABH ?_; simp only[go_sem,ae,AA _ hk',hk',aH]; refine CZ (OZ l[k] hr.1) ?_)
   simp only[go_sem,Rq,DD]
   try exact AII
 ·exact AMA
theorem zC (l:List DRow) (n:Int) (ha:AEJ Hf l):Ctr prog 206 [.c (.sl (l.map DRow.c)),.c (.v (.int .i64 (n)))] [Rq (KC l n),.val (.c (.v (.bool ((KC l n).isSome))))]:=by
 refine CM call206 func206 ntmps206 results206 fun hw=>?_
 have hlen:=ha.1
 simp only[go_sem,ae]
 refine ABK 1 (A:=Nat) (fun k=>[(6,.c (.v (.int .i64 (k))))]) (fun _=>[⟨204,2,[XT],true,true⟩]) (fun k=>k≤l.length∧KC (l.drop k) n=KC l n) (fun k=>l.length-k) 0 ⟨⟨rfl,rfl⟩,rfl,aA _,rfl⟩ ?_
 rintro k ⟨hk,hf⟩
 simp only[go_sem,ae,XT]
 refine ABG (fun h=>?_) (fun h=>?_)
 ·have hk':k<l.length:=by simpa using h
  have hr:=ha.2 _ (ax hk')
  rw[JW] at hr
  rw[aG hk',KC,List.find?_cons] at hf
  simp only[go_sem,ae,AA _ hk',hk',aH]
  try refine AAm ?_
  try simp only[go_sem,ae,AA _ hk',hk',aH]
  rcases hv:l[k].id==n with _ | _
  ·simp only[go_sem,hv,wrap_i64 (n:=(k:Int)+1) AOQ AOQ]
   rw[hv] at hf
   exact AKw
  ·simp only[go_sem,hv,AA _ hk',hk',aH]
   rw[hv] at hf
   rw[← hf]
   first | refine CW (Ro l[k] hr.1) fun _=>?_ | (refine ABH ?_; simp only[go_sem,ae,AA _ hk',hk',aH]; refine CZ (Ro l[k] hr.1) ?_)
   simp only[go_sem,Rq,DD]
   try exact AII
 ·exact AMA
theorem wC (out:List DVal) (v:DVal):(out ++ [v]).map DVal.c=out.map DVal.c ++ [[.v (.int .i64 v.ty),.v (.int .i64 v.n),.v (.string v.s)]]:=by simp[DVal.c_eq]
def L9 (l:List DRow) (k:Int):List DVal:=l.filterMap fun r=>if 0≤k then r.l[k.toNat]? else none
theorem ACH {l:List DRow} {n:Int} {k:Nat} (h:k<l.length):L9 (l.drop k) n=(if h2:0≤n∧n.toNat<l[k].l.length then [l[k].l[n.toNat]'h2.2] else [])++L9 (l.drop (k+1)) n:=by
 unfold L9
 grind [aG]
theorem pV (l:List DRow) (n:Int) (ha:AEJ Hf l):Ctr prog 334 [.c (.sl (l.map DRow.c)),.c (.v (.int .i64 (n)))] [.own 64 3 ((L9 l n).map DVal.c) true]:=by
 refine CM call334 func334 ntmps334 results334 fun hw=>?_
 have hlen:=ha.1
 simp only[go_sem,ae]
 refine ABZ [8] (A:=Nat×List DVal) (fun x=>[(11,.c (.v (.int .i64 (x.1)))),(5,.c (.ref 0))]) (fun x=>[⟨64,3,x.2.map DVal.c,true,true⟩]) (fun x=>x.1≤l.length∧x.2++L9 (l.drop x.1) n=L9 l n) (fun x=>l.length-x.1) (0,[]) (ABJ [(0,false)] ⟨rfl,rfl,rfl,trivial⟩ rfl) ⟨aA _,rfl⟩ ?_
 rintro⟨k,out⟩ ⟨hk,hb⟩
 dsimp only at hk hb
 have hol:out.length≤l.length:=by
  have h1:(L9 l n).length≤l.length:=List.length_filterMap_le _ _
  rw[← hb] at h1
  simp at h1; omega
 refine AOK (fun h=>?_) fun h=>?_
 ·have hk':k<l.length:=by simpa using h
  have hr:=ha.2 _ (ax hk')
  rw[JW] at hr
  have hrl:=hr.1
  rw[ACH hk'] at hb
  simp only[go_sem,ae,AA _ hk',hk',aH]
  try refine AAm ?_
  try simp only[go_sem,ae,AA _ hk',hk',aH]
  by_cases hn:0≤n∧n.toNat<l[k].l.length
  ·rw[dif_pos hn] at hb
   obtain⟨m,rfl⟩:=aQ hn.1
   have hm:m<l[k].l.length:=by have:=hn.2; simpa using this
   have e1:decide ((m:Int)≥0)=true:=AOR
   have e2:decide ((m:Int)<(l[k].l.length:Int))=true:=AOS
   have hol2:out.length+1≤1099511627776:=by
    have h1:(L9 l (m:Int)).length≤l.length:=List.length_filterMap_le _ _
    have h2:=congrArg List.length hb
    simp at h2; omega
   simp only[go_sem,ae,AA _ hk',AA _ hm,hk',hm,e1,e2,hol2,aH]
   try refine ABH ?_
   simp only[go_sem,bi,bJ,ae,AA _ hk',AA _ hm,hk',hm,e1,e2,hol2,aH,wrap_i64 (n:=(k:Int)+1) AOQ AOQ]
   exact⟨(k+1,out ++ [l[k].l[m]]),ABJ [(3,false)] ⟨rfl,rfl,by grind [wC,AY,DVal.pure],trivial⟩ (by rw[← wC]; rfl),⟨hk',by rw[← hb,bT]; rfl⟩,AOV⟩
  ·rw[dif_neg hn,aO] at hb
   have hfin:∀ P:Prop,P→P:=fun _ h=>h
   rcases h1:decide (n≥0) with _ | _
   ·simp only[go_sem,ae,AA _ hk',hk',h1,wrap_i64 (n:=(k:Int)+1) AOQ AOQ]
    exact ANh
   ·have h2:decide (n<(l[k].l.length:Int))=false:=by simp at h1 ⊢; have:¬ n.toNat<l[k].l.length:=fun hh=>hn ⟨h1,hh⟩; omega
    simp only[go_sem,ae,AA _ hk',hk',h1,h2,wrap_i64 (n:=(k:Int)+1) AOQ AOQ]
    exact ANh
 ·have hk':k=l.length:=by simp at h; omega
  subst hk'
  rw[aY] at hb
  have:out=L9 l n:=by simpa [L9] using hb
  subst this
  simp only[go_sem,DD]
  try simp
theorem allA {N:Nat} {a:Ob} (ha:Aw N a=true) : [a].all (Aw N)=true:=by simp[ha]
theorem Rt (l:List DRow) (hl:fitS Hf l):Ctr prog 237 [.c (.sl (l.map DRow.c))] [.own 204 2 (l.map DRow.o) true]:=by
 refine CM call237 func237 ntmps237 results237 fun hw=>?_
 have hlen:=hl.1
 simp only[go_sem,ae]
 refine ABZ [6] (A:=Nat×List DRow) (fun x=>[(9,.c (.v (.int .i64 (x.1)))),(3,.c (.ref 0))]) (fun x=>[⟨204,2,x.2.map DRow.o,true,true⟩]) (fun x=>x.1≤l.length∧x.2.length≤x.1∧x.2++l.drop x.1=l) (fun x=>l.length-x.1) (0,[]) (ABJ [(0,false)] ⟨rfl,rfl,rfl,trivial⟩ rfl) ⟨aA _,aT _,rfl⟩ ?_
 rintro⟨k,out⟩ ⟨hk,hol,hb⟩
 dsimp only at hk hol hb
 refine AOK (fun h=>?_) fun h=>?_
 ·have hk':k<l.length:=by simpa using h
  rw[aG hk'] at hb
  have hr:=hl.2 _ (ax hk')
  rw[JW] at hr
  have hrl:=hr.1
  have hol2:out.length+1≤2147483648:=AOQ
  simp only[go_sem,ae,AA _ hk',hk',aH]
  refine CW (OZ l[k] hrl) fun _=>?_
  simp only[go_sem,bi,bJ,ae,AA _ hk',hk',hol2,N_,aB,aH,wrap_i64 (n:=(k:Int)+1) AOQ AOQ]
  refine⟨(k+1,out ++ [l[k]]),ACJ [(4,true),(2,false)] 1 0 ⟨rfl,rfl,Jq DRow.o_nr _ out rfl,AY DVal.pure,trivial⟩ ⟨out.length,out.map DRow.o ++ [DRow.o l[k]],_,DRow.o l[k],_,⟨pX 0,rfl,Jp DRow.o_nr _ out _ _,AOR,rfl⟩,
   ⟨rfl,rfl,rfl,rfl,rfl,rfl,DD _,AOk,fun l hl=>AOg⟩,⟨rfl, ?tr⟩, ?eq⟩,⟨hk',AOS,(bT _ _ _).trans hb⟩,AOV⟩
  case tr=>unfold BV; rw[CV]; exact allA (AU (BF _))
  case eq=>unfold BV; rw[CV,WU]; rfl
 ·exact AMO
theorem iC (l:List DRow) (hl:fitS Hf l):Ctr prog 188 [.c (.sl (l.map DRow.c))] [.own 204 2 (l.map DRow.o) true]:=by
 refine CM call188 func188 ntmps188 results188 fun hw=>?_
 have hlen:=hl.1
 simp only[go_sem,ae]
 refine ABZ [6] (A:=Nat×List DRow) (fun x=>[(4,.c (.v (.int .i64 (x.1)))),(3,.c (.ref 0))]) (fun x=>[⟨204,2,x.2.map DRow.o,true,true⟩]) (fun x=>x.1≤l.length∧x.2.length≤x.1∧x.2++l.drop x.1=l) (fun x=>l.length-x.1) (0,[]) (ABJ [(0,false)] ⟨rfl,rfl,rfl,trivial⟩ rfl) ⟨aA _,aT _,rfl⟩ ?_
 rintro⟨k,out⟩ ⟨hk,hol,hb⟩
 dsimp only at hk hol hb
 refine AOK (fun h=>?_) fun h=>?_
 ·have hk':k<l.length:=by simpa using h
  rw[aG hk'] at hb
  have hr:=hl.2 _ (ax hk')
  rw[JW] at hr
  have hrl:=hr.1
  have hol2:out.length+1≤2147483648:=AOQ
  simp only[go_sem,ae,AA _ hk',hk',aH]
  refine CW (Ro l[k] hrl) fun _=>?_
  simp only[go_sem,bi,bJ,ae,AA _ hk',hk',hol2,N_,aB,aH,wrap_i64 (n:=(k:Int)+1) AOQ AOQ]
  refine⟨(k+1,out ++ [l[k]]),ACJ [(4,true),(1,false)] 1 0 ⟨rfl,rfl,Jq DRow.o_nr _ out rfl,AY DVal.pure,trivial⟩ ⟨out.length,out.map DRow.o ++ [DRow.o l[k]],_,DRow.o l[k],_,⟨pX 0,rfl,Jp DRow.o_nr _ out _ _,AOR,rfl⟩,
   ⟨rfl,rfl,rfl,rfl,rfl,rfl,DD _,AOk,fun l hl=>AOg⟩,⟨rfl, ?tr⟩, ?eq⟩,⟨hk',AOS,(bT _ _ _).trans hb⟩,AOV⟩
  case tr=>unfold BV; rw[CV]; exact allA (AU (BF _))
  case eq=>unfold BV; rw[CV,WU]; rfl
 ·exact AMO
open Go.RowKit
theorem kX (l:List DDead):Kz 3 (l.map DDead.c)=true:=OH (fun _=>rfl) l
end Go.Proofs.YtnoldekcdlaahaaGreat
