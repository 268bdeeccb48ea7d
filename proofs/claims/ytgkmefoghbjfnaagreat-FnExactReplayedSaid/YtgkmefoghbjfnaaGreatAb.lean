/- A part. -/
import Derived.Test.YtgkmefoghbjfnaaGreatIa
import Derived.Test.YtgkmefoghbjfnaaGreatSq
import Derived.Test.YtgkmefoghbjfnaaGreatOa
set_option linter.unusedSimpArgs false
set_option linter.unusedVariables false
set_option maxHeartbeats 2000000
set_option maxRecDepth 10000
open Go.Proofs.Tryz
namespace Go.Proofs.YtgkmefoghbjfnaaGreat
open Go.Vm
def Gz (a b:DVal):Bool:=if(a.ty != b.ty)=true then decide (a.ty<b.ty) else if(a.n != b.n)=true then decide (a.n<b.n) else Op.bytesLess a.s.toList b.s.toList
def X0 (a b:DVal):Bool:=(a.ty==b.ty)&&((a.n==b.n)&&(a.s.toList==b.s.toList))
theorem EG (a b:DVal):Ctr prog 182 [.agg a.c,.agg b.c] [.val (.c (.v (.bool (Gz a b))))]:=by
 refine CM call182 func182 ntmps182 results182 fun hw=>?_
 rcases h1:a.ty != b.ty with _ | _<;>rcases h2:a.n != b.n with _ | _<;>simp only[go_sem,h1,h2,Gz]
theorem EH (a b:DVal):Ctr prog 174 [.agg a.c,.agg b.c] [.val (.c (.v (.bool (Gz a b))))]:=by
 refine CM call174 func174 ntmps174 results174 fun hw=>?_
 rcases h1:a.ty != b.ty with _ | _<;>rcases h2:a.n != b.n with _ | _<;>simp only[go_sem,h1,h2,Gz]
def holds1 (op:Int) (a b:DVal):Bool:=
 if(op==1)=true then Gz a b else if(op==2)=true then !Gz b a else if(op==3)=true then X0 a b else if(op==4)=true then !X0 a b else if(op==5)=true then !Gz a b else if(op==6)=true then Gz b a else false
theorem UD (op:Int) (a b:DVal):Ctr prog 187 [.c (.v (.int .i64 (op))),.agg a.c,.agg b.c] [.val (.c (.v (.bool (holds1 op a b))))]:=by
 refine CM call187 func187 ntmps187 results187 fun hw=>?_
 rcases h1:op==1 with _ | _
 rotate_left
 ·simp only[go_sem,h1]
  refine CW (EG a b) fun _=>?_
  simp only[go_sem,holds1,h1]
 rcases h2:op==2 with _ | _
 rotate_left
 ·simp only[go_sem,h1,h2]
  refine CW (EG b a) fun _=>?_
  simp only[go_sem,holds1,h1,h2]
 rcases h3:op==3 with _ | _
 rotate_left
 ·simp only[go_sem,h1,h2,h3]
  simp only[go_sem,holds1,h1,h2,h3,X0,DJ,FC]
 rcases h4:op==4 with _ | _
 rotate_left
 ·simp only[go_sem,h1,h2,h3,h4]
  simp only[go_sem,holds1,h1,h2,h3,h4,X0,DJ,FC]
 rcases h5:op==5 with _ | _
 rotate_left
 ·simp only[go_sem,h1,h2,h3,h4,h5]
  refine CW (EG a b) fun _=>?_
  simp only[go_sem,holds1,h1,h2,h3,h4,h5]
 rcases h6:op==6 with _ | _
 rotate_left
 ·simp only[go_sem,h1,h2,h3,h4,h5,h6]
  refine CW (EG b a) fun _=>?_
  simp only[go_sem,holds1,h1,h2,h3,h4,h5,h6]
 simp only[go_sem,holds1,h1,h2,h3,h4,h5,h6]
theorem UE (op:Int) (a b:DVal):Ctr prog 185 [.c (.v (.int .i64 (op))),.agg a.c,.agg b.c] [.val (.c (.v (.bool (holds1 op a b))))]:=by
 refine CM call185 func185 ntmps185 results185 fun hw=>?_
 rcases h1:op==1 with _ | _
 rotate_left
 ·simp only[go_sem,h1]
  refine CW (EH a b) fun _=>?_
  simp only[go_sem,holds1,h1]
 rcases h2:op==2 with _ | _
 rotate_left
 ·simp only[go_sem,h1,h2]
  refine CW (EH b a) fun _=>?_
  simp only[go_sem,holds1,h1,h2]
 rcases h3:op==3 with _ | _
 rotate_left
 ·simp only[go_sem,h1,h2,h3]
  simp only[go_sem,holds1,h1,h2,h3,X0,DJ,FC]
 rcases h4:op==4 with _ | _
 rotate_left
 ·simp only[go_sem,h1,h2,h3,h4]
  simp only[go_sem,holds1,h1,h2,h3,h4,X0,DJ,FC]
 rcases h5:op==5 with _ | _
 rotate_left
 ·simp only[go_sem,h1,h2,h3,h4,h5]
  refine CW (EH a b) fun _=>?_
  simp only[go_sem,holds1,h1,h2,h3,h4,h5]
 rcases h6:op==6 with _ | _
 rotate_left
 ·simp only[go_sem,h1,h2,h3,h4,h5,h6]
  refine CW (EH b a) fun _=>?_
  simp only[go_sem,holds1,h1,h2,h3,h4,h5,h6]
 simp only[go_sem,holds1,h1,h2,h3,h4,h5,h6]
def Iq:List DVal→List DVal→Bool
 | [],[]=>true
 | a::l,b::m=>X0 a b&&Iq l m
 | _,_=>false
theorem OY:∀ (a b:List DVal),a.length≠b.length→Iq a b=false
 | [],[],h=>by simp at h
 | [],_::_,_=>rfl
 | _::_,[],_=>rfl
 | a::l,b::m,h=>by simp only[Iq]; rw[OY l m (by simpa using h)]; simp
theorem QV (a b:List DVal) {k:Nat} (h1:k<a.length) (h2:k<b.length):Iq (a.drop k) (b.drop k)=(X0 a[k] b[k]&&Iq (a.drop (k+1)) (b.drop (k+1))):=by
 rw[aF h1,aF h2]; rfl
theorem QW (a b:List DVal) (ha:a.length≤1048576) (hb:b.length≤1048576):Ctr prog 186 [.c (.sl (a.map DVal.c)),.c (.sl (b.map DVal.c))] [.val (.c (.v (.bool (Iq a b))))]:=by
 refine CM call186 func186 ntmps186 results186 fun hw=>?_
 simp only[go_sem,ae]
 refine cndC.mk (fun h=>?_) (fun h=>?_)
 ·simp only[go_sem]
  rw[OY a b (by simp at h; omega)]
 ·have he:a.length=b.length:=by simp at h; omega
  simp only[go_sem,ae]
  refine LoopU.mk 0 (A:=Nat) (fun k=>[(5,.c (.v (.int .i64 (k))))]) (fun _=>[]) (fun k=>k≤a.length∧Iq (a.drop k) (b.drop k)=Iq a b) (fun k=>a.length-k) 0 ⟨⟨rfl,rfl⟩,rfl,aJ _,rfl⟩ ?_
  rintro k ⟨hk,hf⟩
  simp only[go_sem,ae]
  refine cndC.mk (fun h=>?_) (fun h=>?_)
  ·have hk':k<a.length:=by simpa using h
   have hk2:k<b.length:=by omega
   rw[QV a b hk' hk2] at hf
   simp only[go_sem,ae,AA _ hk',AA _ hk2,hk',hk2]
   try refine DrawK.mk ?_
   try simp only[go_sem,ae,AA _ hk',AA _ hk2,hk',hk2]
   have e1:(a[k].ty==b[k].ty&&(a[k].n==b[k].n&&a[k].s.toList==b[k].s.toList))=X0 a[k] b[k]:=rfl
   try simp only[DJ,FC,e1,aH]
   rcases hv:X0 a[k] b[k] with _ | _
   ·simp only[go_sem,hv,e1,bD,aH]
    rw[hv,aC] at hf
    rw[hf]
   ·simp only[go_sem,hv,e1,bJ,wrap_i64 (n:=(k:Int)+1) (by omega) (by omega)]
    rw[hv,aU] at hf
    exact⟨k+1,⟨rfl,rfl⟩,rfl,⟨by omega,hf⟩,by omega⟩
  ·have hk':k=a.length:=by simp at h; omega
   subst hk'
   simp only[go_sem]
   rw[← hf,aP,he,aP]; rfl
theorem Vh (a b:List DVal) (ha:a.length≤1048576) (hb:b.length≤1048576):Ctr prog 188 [.c (.sl (a.map DVal.c)),.c (.sl (b.map DVal.c))] [.val (.c (.v (.bool (Iq a b))))]:=by
 refine CM call188 func188 ntmps188 results188 fun hw=>?_
 simp only[go_sem,ae]
 refine cndC.mk (fun h=>?_) (fun h=>?_)
 ·simp only[go_sem]
  rw[OY a b (by simp at h; omega)]
 ·have he:a.length=b.length:=by simp at h; omega
  simp only[go_sem,ae]
  refine LoopU.mk 0 (A:=Nat) (fun k=>[(13,.c (.v (.int .i64 (k))))]) (fun _=>[]) (fun k=>k≤a.length∧Iq (a.drop k) (b.drop k)=Iq a b) (fun k=>a.length-k) 0 ⟨⟨rfl,rfl⟩,rfl,aJ _,rfl⟩ ?_
  rintro k ⟨hk,hf⟩
  simp only[go_sem,ae]
  refine cndC.mk (fun h=>?_) (fun h=>?_)
  ·have hk':k<a.length:=by simpa using h
   have hk2:k<b.length:=by omega
   rw[QV a b hk' hk2] at hf
   simp only[go_sem,ae,AA _ hk',AA _ hk2,hk',hk2]
   try refine DrawK.mk ?_
   try simp only[go_sem,ae,AA _ hk',AA _ hk2,hk',hk2]
   have e1:(a[k].ty==b[k].ty&&(a[k].n==b[k].n&&a[k].s.toList==b[k].s.toList))=X0 a[k] b[k]:=rfl
   try simp only[DJ,FC,e1,aH]
   rcases hv:X0 a[k] b[k] with _ | _
   ·simp only[go_sem,hv,e1,bD,aH]
    rw[hv,aC] at hf
    rw[hf]
   ·simp only[go_sem,hv,e1,bJ,wrap_i64 (n:=(k:Int)+1) (by omega) (by omega)]
    rw[hv,aU] at hf
    exact⟨k+1,⟨rfl,rfl⟩,rfl,⟨by omega,hf⟩,by omega⟩
  ·have hk':k=a.length:=by simp at h; omega
   subst hk'
   simp only[go_sem]
   rw[← hf,aP,he,aP]; rfl
theorem QX (a b:List DVal) (ha:a.length≤1048576) (hb:b.length≤1048576):Ctr prog 184 [.c (.sl (a.map DVal.c)),.c (.sl (b.map DVal.c))] [.val (.c (.v (.bool (Iq a b))))]:=by
 refine CM call184 func184 ntmps184 results184 fun hw=>?_
 simp only[go_sem,ae]
 refine CallK.mk _ (Vh a b ha hb) fun _=>?_
 simp only[go_sem]
def sameRow (a b:DRow):Bool:=(a.id==b.id)&&Iq a.l b.l
theorem LQ (a b:DRow) (ha:a.l.length≤1048576) (hb:b.l.length≤1048576):Ctr prog 180 [.agg a.c,.agg b.c] [.val (.c (.v (.bool (sameRow a b))))]:=by
 refine CM call180 func180 ntmps180 results180 fun hw=>?_
 rcases h1:a.id==b.id with _ | _
 ·simp only[go_sem,h1]
  simp only[sameRow,h1,aC]
 ·simp only[go_sem,h1]
  refine CallK.mk _ (QW a.l b.l ha hb) fun _=>?_
  simp only[go_sem,h1]
  simp only[sameRow,h1,aU]
theorem LU (a b:DRow) (ha:a.l.length≤1048576) (hb:b.l.length≤1048576):Ctr prog 172 [.agg a.c,.agg b.c] [.val (.c (.v (.bool (sameRow a b))))]:=by
 refine CM call172 func172 ntmps172 results172 fun hw=>?_
 rcases h1:a.id==b.id with _ | _
 ·simp only[go_sem,h1]
  simp only[sameRow,h1,aC]
 ·simp only[go_sem,h1]
  refine CallK.mk _ (QX a.l b.l ha hb) fun _=>?_
  simp only[go_sem,h1]
  simp only[sameRow,h1,aU]
def DV:List DRow→List DRow→Bool
 | [],[]=>true
 | a::l,b::m=>sameRow a b&&DV l m
 | _,_=>false
theorem JC:∀ (a b:List DRow),a.length≠b.length→DV a b=false
 | [],[],h=>by simp at h
 | [],_::_,_=>rfl
 | _::_,[],_=>rfl
 | a::l,b::m,h=>by simp only[DV]; rw[JC l m (by simpa using h)]; simp
theorem LV (a b:List DRow) {k:Nat} (h1:k<a.length) (h2:k<b.length):DV (a.drop k) (b.drop k)=(sameRow a[k] b[k]&&DV (a.drop (k+1)) (b.drop (k+1))):=by
 rw[aF h1,aF h2]; rfl
def zeroV:DVal:=⟨0,0,ByteArray.empty⟩
def Ir (z:DVal×DVal) (v:DVal):DVal×DVal:=(if Gz v z.1=true then v else z.1,if Gz z.2 v=true then v else z.2)
def Lr:List DVal→DVal×DVal
 | []=>(zeroV,zeroV)
 | v::vs=>vs.foldl Ir (v,v)
def PO (z:DVal×DVal):List Cl:=z.1.c++z.2.c
@[go_sem] theorem uK (z:DVal×DVal):PO z=z.1.c++z.2.c:=rfl
theorem Zu (v:DVal):Gz v v=false:=by
 have hb:∀ l:List UInt8,Op.bytesLess l l=false:=by
  intro l
  induction l with
  | nil=>rfl
  | cons x l ih=>simp[Op.bytesLess,ih]
 simp[Gz,hb]
theorem Ls (v:DVal):Ir (v,v) v=(v,v):=by simp[Ir,Zu]
theorem Vj {l:List DVal} (h:0<l.length):l.foldl Ir (l[0],l[0])=Lr l:=by
 cases l with
 | nil=>simp at h
 | cons v vs=>simp[Lr,Ls]
theorem Lt {l:List DVal} {k:Nat} (h:k<l.length) (z:DVal×DVal):(l.drop k).foldl Ir z=(l.drop (k+1)).foldl Ir (Ir z l[k]):=by
 rw[aF h,List.foldl_cons]
theorem QY (l:List DVal) (ha:l.length≤1099511627776):Ctr prog 165 [.c (.sl (l.map DVal.c))] [.val (.agg (PO (Lr l)))]:=by
 refine CM call165 func165 ntmps165 results165 fun hw=>?_
 simp only[go_sem,ae]
 refine LoopU.mk 2 (A:=Nat×(DVal×DVal)) (fun x=>[(4,.c (.v (.int .i64 (x.1))))]) (fun x=>[⟨221,6,[PO (zeroV,zeroV)],true,true⟩,⟨221,6,[PO x.2],true,true⟩]) (fun x=>x.1≤l.length∧if x.1=0 then x.2=(zeroV,zeroV) else(l.drop x.1).foldl Ir x.2=Lr l) (fun x=>l.length-x.1) (0,(zeroV,zeroV)) ⟨⟨rfl,rfl⟩,rfl,aJ _,rfl⟩ ?_
 rintro⟨k,z⟩ ⟨hk,hf⟩
 dsimp only at hk hf
 simp only[go_sem,ae]
 refine cndC.mk (fun h=>?_) (fun h=>?_)
 ·have hk':k<l.length:=by simpa using h
  rcases hz:((k:Int)==0) with _ | _
  ·have hk0:k≠0:=by simp at hz; omega
   rw[Eh hk0,Lt hk'] at hf
   simp only[go_sem,ae,AA _ hk',hk',hz]
   refine DrawK.mk ?_
   simp only[go_sem,ae,AA _ hk',hk',hz]
   refine CY (EG l[k] z.1) ?_
   rcases h1:Gz l[k] z.1 with _ | _
   all_goals
    simp only[go_sem,ae,AA _ hk',hk',hz,h1]
    refine DrawK.mk ?_
    simp only[go_sem,ae,AA _ hk',hk',hz,h1]
    refine CY (EG z.2 l[k]) ?_
    rcases h2:Gz z.2 l[k] with _ | _
    all_goals
     simp only[go_sem,ae,AA _ hk',hk',hz,h1,h2,wrap_i64 (n:=(k:Int)+1) (by omega) (by omega)]
     refine⟨(k+1,Ir z l[k]),⟨rfl,rfl⟩, ?_,⟨by omega,by rw[Eh (by omega)]; exact hf⟩,by simp only; omega⟩
     simp only[Ir,h1,h2,go_sem,reduceIte,aN]
     rfl
  ·have hk0:k=0:=by simp at hz; omega
   subst hk0
   simp only[go_sem,ae,AA _ hk',hk',hz]
   try refine DrawK.mk ?_
   try simp only[go_sem,ae,AA _ hk',hk',hz]
   try refine DrawK.mk ?_
   try simp only[go_sem,ae,AA _ hk',hk',hz]
   exact⟨(1,(l[0],l[0])),⟨rfl,rfl⟩,rfl,⟨by omega,by rw[Eh (by omega)]; rw[← Vj hk',← Ls l[0],← Lt hk',Ls]; rfl⟩,by simp only; omega⟩
 ·have hk':k=l.length:=by simp at h; omega
  have hz:z=Lr l:=by
   split at hf
   ·have:l = []:=by apply bz; omega
    subst this; exact hf
   ·subst hk'
    simpa using hf
  subst hz
  simp only[go_sem]
theorem QZ (l:List DVal) (ha:l.length≤1099511627776):Ctr prog 152 [.c (.sl (l.map DVal.c))] [.val (.agg (PO (Lr l)))]:=by
 refine CM call152 func152 ntmps152 results152 fun hw=>?_
 simp only[go_sem,ae]
 refine cndC.mk (fun h=>?_) (fun h=>?_)
 ·have hk':l = []:=by simpa using h
  subst hk'
  simp only[go_sem,ae]
  try simp[Lr,PO,DVal.c_eq,zeroV]
 ·have h0:0<l.length:=by simp at h; exact oh.2 h
  simp only[go_sem,ae,AA _ h0,h0]
  refine DrawK.mkE ?_
  have h00:((0:Int)==0)=true:=rfl
  simp only[go_sem,ae,AA _ h0,h0]
  refine LoopU.mk 2 (A:=Nat×(DVal×DVal)) (fun x=>[(19,.c (.v (.int .i64 (x.1))))]) (fun x=>[⟨221,6,[PO (zeroV,zeroV)],true,true⟩,⟨221,6,[PO x.2],true,true⟩]) (fun x=>x.1≤l.length∧(l.drop x.1).foldl Ir x.2=Lr l) (fun x=>l.length-x.1) (0,(l[0],l[0])) ⟨⟨rfl,rfl⟩,rfl,aJ _,Vj h0⟩ ?_
  rintro⟨k,z⟩ ⟨hk,hf⟩
  dsimp only at hk hf
  simp (maxSteps:=1000000) only[go_sem,ae]
  refine cndC.mk (fun h=>?_) (fun h=>?_)
  ·have hk':k<l.length:=by simpa using h
   rw[Lt hk'] at hf
   simp (maxSteps:=1000000) only[go_sem,ae,AA _ hk',hk']
   refine CW (EH l[k] z.1) fun _=>?_
   rcases h1:Gz l[k] z.1 with _ | _
   all_goals
    simp (maxSteps:=1000000) only[go_sem,ae,AA _ hk',hk',h1]
    refine CW (EH z.2 l[k]) fun _=>?_
    rcases h2:Gz z.2 l[k] with _ | _
    all_goals
     simp (maxSteps:=1000000) only[go_sem,ae,AA _ hk',hk',h1,h2,wrap_i64 (n:=(k:Int)+1) (by omega) (by omega)]
     refine⟨(k+1,Ir z l[k]),⟨rfl,rfl⟩, ?_,⟨by omega,hf⟩,by simp only; omega⟩
     simp only[Ir,h1,h2,go_sem,reduceIte,aN]
     rfl
  ·have hk':k=l.length:=by simp at h; omega
   have hz:z=Lr l:=by
    subst hk'
    simpa using hf
   subst hz
   simp (maxSteps:=1000000) only[go_sem]
def Lu {α:Type} (f:α→Prop) (l:List α):Prop:=l.length≤1099511627776∧∀ x∈l,f x
theorem fitS.big {α:Type} {f:α→Prop} {l:List α} (h:fitS f l):Lu f l:=⟨ZW h.1 (by decide),h.2⟩
theorem Qa (a b:List DRow) (ha:Lu Ah a) (hb:Lu Ah b):Ctr prog 161 [.c (.sl (a.map DRow.c)),.c (.sl (b.map DRow.c))] [.val (.c (.v (.bool (DV a b))))]:=by
 refine CM call161 func161 ntmps161 results161 fun hw=>?_
 have ha1:=ha.1
 have hb1:=hb.1
 simp only[go_sem,ae]
 refine cndC.mk (fun h=>?_) (fun h=>?_)
 ·simp only[go_sem]
  rw[JC a b (by simp at h; omega)]
 ·have he:a.length=b.length:=by simp at h; omega
  simp only[go_sem,ae]
  refine LoopU.mk 0 (A:=Nat) (fun k=>[(5,.c (.v (.int .i64 (k))))]) (fun _=>[]) (fun k=>k≤a.length∧DV (a.drop k) (b.drop k)=DV a b) (fun k=>a.length-k) 0 ⟨⟨rfl,rfl⟩,rfl,aJ _,rfl⟩ ?_
  rintro k ⟨hk,hf⟩
  simp only[go_sem,ae]
  refine cndC.mk (fun h=>?_) (fun h=>?_)
  ·have hk':k<a.length:=by simpa using h
   have hk2:k<b.length:=by omega
   rw[LV a b hk' hk2] at hf
   have hra:=ha.2 _ (au hk')
   have hrb:=hb.2 _ (au hk2)
   rw[Bc] at hra hrb
   simp only[go_sem,ae,AA _ hk',AA _ hk2,hk',hk2]
   try refine DrawK.mk ?_
   try simp only[go_sem,ae,AA _ hk',AA _ hk2,hk',hk2]
   first | refine CY (LQ a[k] b[k] hra.1 hrb.1) ?_ | refine CW (LQ a[k] b[k] hra.1 hrb.1) fun _=>?_
   rcases hv:sameRow a[k] b[k] with _ | _
   ·simp only[go_sem,hv,bD,aH]
    rw[hv,aC] at hf
    rw[hf]
   ·simp only[go_sem,hv,bJ,wrap_i64 (n:=(k:Int)+1) (by omega) (by omega)]
    rw[hv,aU] at hf
    exact⟨k+1,⟨rfl,rfl⟩,rfl,⟨by omega,hf⟩,by omega⟩
  ·have hk':k=a.length:=by simp at h; omega
   subst hk'
   simp only[go_sem]
   rw[← hf,aP,he,aP]; rfl
theorem Qb (a b:List DRow) (ha:Lu Ah a) (hb:Lu Ah b):Ctr prog 149 [.c (.sl (a.map DRow.c)),.c (.sl (b.map DRow.c))] [.val (.c (.v (.bool (DV a b))))]:=by
 refine CM call149 func149 ntmps149 results149 fun hw=>?_
 have ha1:=ha.1
 have hb1:=hb.1
 simp only[go_sem,ae]
 refine cndC.mk (fun h=>?_) (fun h=>?_)
 ·simp only[go_sem]
  rw[JC a b (by simp at h; omega)]
 ·have he:a.length=b.length:=by simp at h; omega
  simp only[go_sem,ae]
  refine LoopU.mk 0 (A:=Nat) (fun k=>[(13,.c (.v (.int .i64 (k))))]) (fun _=>[]) (fun k=>k≤a.length∧DV (a.drop k) (b.drop k)=DV a b) (fun k=>a.length-k) 0 ⟨⟨rfl,rfl⟩,rfl,aJ _,rfl⟩ ?_
  rintro k ⟨hk,hf⟩
  simp only[go_sem,ae]
  refine cndC.mk (fun h=>?_) (fun h=>?_)
  ·have hk':k<a.length:=by simpa using h
   have hk2:k<b.length:=by omega
   rw[LV a b hk' hk2] at hf
   have hra:=ha.2 _ (au hk')
   have hrb:=hb.2 _ (au hk2)
   rw[Bc] at hra hrb
   simp only[go_sem,ae,AA _ hk',AA _ hk2,hk',hk2]
   try refine DrawK.mk ?_
   try simp only[go_sem,ae,AA _ hk',AA _ hk2,hk',hk2]
   first | refine CY (LU a[k] b[k] hra.1 hrb.1) ?_ | refine CW (LU a[k] b[k] hra.1 hrb.1) fun _=>?_
   rcases hv:sameRow a[k] b[k] with _ | _
   ·simp only[go_sem,hv,bD,aH]
    rw[hv,aC] at hf
    rw[hf]
   ·simp only[go_sem,hv,bJ,wrap_i64 (n:=(k:Int)+1) (by omega) (by omega)]
    rw[hv,aU] at hf
    exact⟨k+1,⟨rfl,rfl⟩,rfl,⟨by omega,hf⟩,by omega⟩
  ·have hk':k=a.length:=by simp at h; omega
   subst hk'
   simp only[go_sem]
   rw[← hf,aP,he,aP]; rfl
def DR (a b:DResult):Bool:=DV a.rows b.rows&&((a.n==b.n)&&((a.has==b.has)&&X0 a.v b.v))
theorem SQ (a b:DResult) (ha:fitS Ah a.rows) (hb:fitS Ah b.rows):Ctr prog 133 [.agg a.c,.agg b.c] [.val (.c (.v (.bool (DR a b))))]:=by
 refine CM call133 func133 ntmps133 results133 fun hw=>?_
 simp only[go_sem]
 refine CallK.mk _ (Qa _ _ ha.big hb.big) fun _=>?_
 rcases h1:DV a.rows b.rows with _ | _
 ·simp only[go_sem,DR,h1,aC]
 rcases h2:a.n==b.n with _ | _
 ·simp only[go_sem,DR,h1,h2,aC,bF]
 rcases h3:a.has==b.has with _ | _
 ·simp only[go_sem,DR,h1,h2,h3,aC,bF]
 ·simp only[go_sem,DR,h1,h2,h3,DJ,FC,X0]
theorem LW (a b:DResult) (ha:fitS Ah a.rows) (hb:fitS Ah b.rows):Ctr prog 112 [.agg a.c,.agg b.c] [.val (.c (.v (.bool (DR a b))))]:=by
 refine CM call112 func112 ntmps112 results112 fun hw=>?_
 simp only[go_sem]
 refine CallK.mk _ (Qb _ _ ha.big hb.big) fun _=>?_
 rcases h1:DV a.rows b.rows with _ | _
 ·simp only[go_sem,DR,h1,aC]
 rcases h2:a.n==b.n with _ | _
 ·simp only[go_sem,DR,h1,h2,aC,bF]
 rcases h3:a.has==b.has with _ | _
 ·simp only[go_sem,DR,h1,h2,h3,aC,bF]
 ·simp only[go_sem,DR,h1,h2,h3,DJ,FC,X0]
def II:List Int→Int→Bool
 | [],_=>false
 | a::l,n=>(a==n)||II l n
theorem Zv (l:List Int) (n:Int) (ha:l.length≤1048576):Ctr prog 147 [.c (.sl (l.map intC)),.c (.v (.int .i64 (n)))] [.val (.c (.v (.bool (II l n))))]:=by
 refine CM call147 func147 ntmps147 results147 fun hw=>?_
 simp only[go_sem,ae]
 refine LoopU.mk 0 (A:=Nat) (fun k=>[(9,.c (.v (.int .i64 (k))))]) (fun _=>[]) (fun k=>k≤l.length∧II (l.drop k) n=II l n) (fun k=>l.length-k) 0 ⟨⟨rfl,rfl⟩,rfl,aJ _,rfl⟩ ?_
 rintro k ⟨hk,hf⟩
 simp only[go_sem,ae]
 refine cndC.mk (fun h=>?_) (fun h=>?_)
 ·have hk':k<l.length:=by simpa using h
  rw[aF hk',II] at hf
  simp only[go_sem,ae,AA _ hk',hk']
  try refine DrawK.mk ?_
  try simp only[go_sem,ae,AA _ hk',hk']
  rcases hv:l[k]==n with _ | _
  ·simp only[go_sem,hv,wrap_i64 (n:=(k:Int)+1) (by omega) (by omega)]
   rw[hv,XQ] at hf
   exact⟨k+1,⟨rfl,rfl⟩,rfl,⟨by omega,hf⟩,by omega⟩
  ·simp only[go_sem,hv]
   rw[hv,TZ] at hf
   rw[← hf]
 ·have hk':k=l.length:=by simp at h; omega
  subst hk'
  simp only[go_sem]
  rw[← hf,aP]; rfl
theorem Zw (l:List Int) (n:Int) (ha:l.length≤1048576):Ctr prog 159 [.c (.sl (l.map intC)),.c (.v (.int .i64 (n)))] [.val (.c (.v (.bool (II l n))))]:=by
 refine CM call159 func159 ntmps159 results159 fun hw=>?_
 simp only[go_sem,ae]
 refine LoopU.mk 0 (A:=Nat) (fun k=>[(5,.c (.v (.int .i64 (k))))]) (fun _=>[]) (fun k=>k≤l.length∧II (l.drop k) n=II l n) (fun k=>l.length-k) 0 ⟨⟨rfl,rfl⟩,rfl,aJ _,rfl⟩ ?_
 rintro k ⟨hk,hf⟩
 simp only[go_sem,ae]
 refine cndC.mk (fun h=>?_) (fun h=>?_)
 ·have hk':k<l.length:=by simpa using h
  rw[aF hk',II] at hf
  simp only[go_sem,ae,AA _ hk',hk']
  try refine DrawK.mk ?_
  try simp only[go_sem,ae,AA _ hk',hk']
  rcases hv:l[k]==n with _ | _
  ·simp only[go_sem,hv,wrap_i64 (n:=(k:Int)+1) (by omega) (by omega)]
   rw[hv,XQ] at hf
   exact⟨k+1,⟨rfl,rfl⟩,rfl,⟨by omega,hf⟩,by omega⟩
  ·simp only[go_sem,hv]
   rw[hv,TZ] at hf
   rw[← hf]
 ·have hk':k=l.length:=by simp at h; omega
  subst hk'
  simp only[go_sem]
  rw[← hf,aP]; rfl
theorem Jj {α:Type} {f:α→List Cl} {n:Nat} (h:∀ x,Go.Vm.rowOk n (f x)=true) (l:List α):HY n (l.map f)=true:=aA.2 fun r hr=>by
 obtain⟨x,_,rfl⟩:=cO.1 hr
 exact h x
theorem Qc (l:List DVal):HY 3 (l.map DVal.c)=true:=Jj (fun _=>rfl) l
theorem Qd (l:List DVal) (h:l.length≤1048576):Ctr prog 169 [.c (.sl (l.map DVal.c))] [.own 75 3 (l.map DVal.c) true]:=by
 refine CM call169 func169 ntmps169 results169 fun hw=>?_
 have hl:l.length≤2147483648:=by omega
 simp only[go_sem,Qc,ae,hl,ay,BP]
 try simp
theorem Dh (r:DRow) (h:r.l.length≤1048576):Ctr prog 142 [.agg r.c] [.agg r.o]:=by
 refine CM call142 func142 ntmps142 results142 fun hw=>?_
 simp only[go_sem]
 refine DrawK.mkE ?_
 simp only[go_sem]
 refine CallE.mk _ (Qd r.l h) ?_
 simp only[go_sem,BP]
 try simp[Ac,AO]
theorem EQ (r:DRow) (h:r.l.length≤1048576):Ctr prog 124 [.agg r.c] [.agg r.o]:=by
 refine CM call124 func124 ntmps124 results124 fun hw=>?_
 have hl:r.l.length≤2147483648:=by omega
 simp only[go_sem]
 refine DrawK.mkE ?_
 simp only[go_sem,Qc,ae,hl,ay,BP]
 try simp[Ac,AO]
def Jk:List Cl:=[.v (.int .i64 0),.v (.slice none 0 0)]
def Jl:Option DRow→Res
 | none=>.val (.agg [.v (.int .i64 0),.sl []])
 | some r=>.agg r.o
def DF (l:List DRow) (n:Int):Option DRow:=l.find? fun r=>r.id==n
theorem X3 (l:List DRow) (n:Int) (ha:Lu Ah l):Ctr prog 107 [.c (.sl (l.map DRow.c)),.c (.v (.int .i64 (n)))] [Jl (DF l n),.val (.c (.v (.bool ((DF l n).isSome))))]:=by
 refine CM call107 func107 ntmps107 results107 fun hw=>?_
 have hlen:=ha.1
 simp only[go_sem,ae]
 refine LoopU.mk 1 (A:=Nat) (fun k=>[(10,.c (.v (.int .i64 (k))))]) (fun _=>[⟨147,2,[Jk],true,true⟩]) (fun k=>k≤l.length∧DF (l.drop k) n=DF l n) (fun k=>l.length-k) 0 ⟨⟨rfl,rfl⟩,rfl,aJ _,rfl⟩ ?_
 rintro k ⟨hk,hf⟩
 simp only[go_sem,ae,Jk]
 refine cndC.mk (fun h=>?_) (fun h=>?_)
 ·have hk':k<l.length:=by simpa using h
  have hr:=ha.2 _ (au hk')
  rw[Bc] at hr
  rw[aF hk',DF,List.find?_cons] at hf
  simp only[go_sem,ae,AA _ hk',hk',ay]
  try refine DrawK.mk ?_
  try simp only[go_sem,ae,AA _ hk',hk',ay]
  rcases hv:l[k].id==n with _ | _
  ·simp only[go_sem,hv,wrap_i64 (n:=(k:Int)+1) (by omega) (by omega)]
   rw[hv] at hf
   exact⟨k+1,⟨rfl,rfl⟩,rfl,⟨by omega,hf⟩,by omega⟩
  ·simp only[go_sem,hv,AA _ hk',hk',ay]
   rw[hv] at hf
   rw[← hf]
   first | refine CW (Dh l[k] hr.1) fun _=>?_ | (refine DrawK.mkE ?_; simp only[go_sem,ae,AA _ hk',hk',ay]; refine CZ (Dh l[k] hr.1) ?_)
   simp only[go_sem,Jl,BP]
   try simp[Ac,AO]
 ·have hk':k=l.length:=by simp at h; omega
  subst hk'
  rw[aP] at hf
  have hn:DF l n=none:=by rw[← hf]; rfl
  simp only[go_sem,hn,Jl,Jk,aj]
  trace_state
theorem X4 (l:List DRow) (n:Int) (ha:Lu Ah l):Ctr prog 129 [.c (.sl (l.map DRow.c)),.c (.v (.int .i64 (n)))] [Jl (DF l n),.val (.c (.v (.bool ((DF l n).isSome))))]:=by
 refine CM call129 func129 ntmps129 results129 fun hw=>?_
 have hlen:=ha.1
 simp only[go_sem,ae]
 refine LoopU.mk 1 (A:=Nat) (fun k=>[(6,.c (.v (.int .i64 (k))))]) (fun _=>[⟨147,2,[Jk],true,true⟩]) (fun k=>k≤l.length∧DF (l.drop k) n=DF l n) (fun k=>l.length-k) 0 ⟨⟨rfl,rfl⟩,rfl,aJ _,rfl⟩ ?_
 rintro k ⟨hk,hf⟩
 simp only[go_sem,ae,Jk]
 refine cndC.mk (fun h=>?_) (fun h=>?_)
 ·have hk':k<l.length:=by simpa using h
  have hr:=ha.2 _ (au hk')
  rw[Bc] at hr
  rw[aF hk',DF,List.find?_cons] at hf
  simp only[go_sem,ae,AA _ hk',hk',ay]
  try refine DrawK.mk ?_
  try simp only[go_sem,ae,AA _ hk',hk',ay]
  rcases hv:l[k].id==n with _ | _
  ·simp only[go_sem,hv,wrap_i64 (n:=(k:Int)+1) (by omega) (by omega)]
   rw[hv] at hf
   exact⟨k+1,⟨rfl,rfl⟩,rfl,⟨by omega,hf⟩,by omega⟩
  ·simp only[go_sem,hv,AA _ hk',hk',ay]
   rw[hv] at hf
   rw[← hf]
   first | refine CW (EQ l[k] hr.1) fun _=>?_ | (refine DrawK.mkE ?_; simp only[go_sem,ae,AA _ hk',hk',ay]; refine CZ (EQ l[k] hr.1) ?_)
   simp only[go_sem,Jl,BP]
   try simp[Ac,AO]
 ·have hk':k=l.length:=by simp at h; omega
  subst hk'
  rw[aP] at hf
  have hn:DF l n=none:=by rw[← hf]; rfl
  simp only[go_sem,hn,Jl,Jk,aj]
  trace_state
theorem GN (out:List DVal) (v:DVal):(out ++ [v]).map DVal.c=out.map DVal.c ++ [[.v (.int .i64 v.ty),.v (.int .i64 v.n),.v (.string v.s)]]:=by simp[DVal.c_eq]
def Cb (l:List DRow) (k:Int):List DVal:=l.filterMap fun r=>if 0≤k then r.l[k.toNat]? else none
theorem TB {l:List DRow} {n:Int} {k:Nat} (h:k<l.length):Cb (l.drop k) n=(if h2:0≤n∧n.toNat<l[k].l.length then [l[k].l[n.toNat]'h2.2] else [])++Cb (l.drop (k+1)) n:=by
 unfold Cb
 rw[aF h,List.filterMap_cons]
 by_cases h1:0≤n
 ·by_cases h2:n.toNat<l[k].l.length
  ·simp[h1,h2]
  ·simp[h1,h2]
 ·simp[h1]
theorem UF (l:List DRow) (n:Int) (ha:Lu Ah l):Ctr prog 151 [.c (.sl (l.map DRow.c)),.c (.v (.int .i64 (n)))] [.own 75 3 ((Cb l n).map DVal.c) true]:=by
 refine CM call151 func151 ntmps151 results151 fun hw=>?_
 have hlen:=ha.1
 simp only[go_sem,ae]
 refine LoopH.mk [8] (A:=Nat×List DVal) (fun x=>[(11,.c (.v (.int .i64 (x.1)))),(5,.c (.ref 0))]) (fun x=>[⟨75,3,x.2.map DVal.c,true,true⟩]) (fun x=>x.1≤l.length∧x.2++Cb (l.drop x.1) n=Cb l n) (fun x=>l.length-x.1) (0,[]) (Head.sel [(0,false)] ⟨rfl,rfl,rfl,trivial⟩ rfl) ⟨aJ _,rfl⟩ ?_
 rintro⟨k,out⟩ ⟨hk,hb⟩
 dsimp only at hk hb
 have hol:out.length≤l.length:=by
  have h1:(Cb l n).length≤l.length:=mQ _ _
  rw[← hb] at h1
  simp at h1; omega
 simp only[go_sem,ae]
 refine cndC.mk (fun h=>?_) (fun h=>?_)
 ·have hk':k<l.length:=by simpa using h
  have hr:=ha.2 _ (au hk')
  rw[Bc] at hr
  have hrl:=hr.1
  rw[TB hk'] at hb
  simp only[go_sem,ae,AA _ hk',hk',ay]
  try refine DrawK.mk ?_
  try simp only[go_sem,ae,AA _ hk',hk',ay]
  by_cases hn:0≤n∧n.toNat<l[k].l.length
  ·rw[dif_pos hn] at hb
   obtain⟨m,rfl⟩:=sQ hn.1
   have hm:m<l[k].l.length:=by have:=hn.2; simpa using this
   have e1:decide ((m:Int)≥0)=true:=by simp
   have e2:decide ((m:Int)<(l[k].l.length:Int))=true:=by simp; omega
   have hol2:out.length+1≤1099511627776:=by
    have h1:(Cb l (m:Int)).length≤l.length:=mQ _ _
    have h2:=congrArg List.length hb
    simp at h2; omega
   simp only[go_sem,ae,AA _ hk',AA _ hm,hk',hm,e1,e2,hol2,ay]
   try refine DrawK.mkE ?_
   simp only[go_sem,aS,aZ,ae,AA _ hk',AA _ hm,hk',hm,e1,e2,hol2,ay,wrap_i64 (n:=(k:Int)+1) (by omega) (by omega)]
   exact⟨(k+1,out ++ [l[k].l[m]]),Head.sel [(3,false)] ⟨rfl,rfl,by rw[← GN]; exact AP DVal.pure,trivial⟩ (by rw[← GN]; rfl),⟨hk',by rw[← hb,aY]; rfl⟩,by simp only; omega⟩
  ·rw[dif_neg hn,bP] at hb
   have hfin:∀ P:Prop,P→P:=fun _ h=>h
   rcases h1:decide (n≥0) with _ | _
   ·simp only[go_sem,ae,AA _ hk',hk',h1,wrap_i64 (n:=(k:Int)+1) (by omega) (by omega)]
    exact⟨(k+1,out),Head.sel [(0,false)] ⟨rfl,rfl,AP DVal.pure,trivial⟩ rfl,⟨hk',hb⟩,by simp only; omega⟩
   ·have h2:decide (n<(l[k].l.length:Int))=false:=by simp at h1 ⊢; have:¬ n.toNat<l[k].l.length:=fun hh=>hn ⟨h1,hh⟩; omega
    simp only[go_sem,ae,AA _ hk',hk',h1,h2,wrap_i64 (n:=(k:Int)+1) (by omega) (by omega)]
    exact⟨(k+1,out),Head.sel [(0,false)] ⟨rfl,rfl,AP DVal.pure,trivial⟩ rfl,⟨hk',hb⟩,by simp only; omega⟩
 ·have hk':k=l.length:=by simp at h; omega
  subst hk'
  rw[aP] at hb
  have:out=Cb l n:=by simpa [Cb] using hb
  subst this
  simp only[go_sem,BP]
  try simp
theorem UG (l:List DRow) (n:Int) (ha:Lu Ah l):Ctr prog 163 [.c (.sl (l.map DRow.c)),.c (.v (.int .i64 (n)))] [.own 75 3 ((Cb l n).map DVal.c) true]:=by
 refine CM call163 func163 ntmps163 results163 fun hw=>?_
 have hlen:=ha.1
 simp only[go_sem,ae]
 refine LoopH.mk [7] (A:=Nat×List DVal) (fun x=>[(6,.c (.v (.int .i64 (x.1)))),(5,.c (.ref 0))]) (fun x=>[⟨75,3,x.2.map DVal.c,true,true⟩]) (fun x=>x.1≤l.length∧x.2++Cb (l.drop x.1) n=Cb l n) (fun x=>l.length-x.1) (0,[]) (Head.sel [(0,false)] ⟨rfl,rfl,rfl,trivial⟩ rfl) ⟨aJ _,rfl⟩ ?_
 rintro⟨k,out⟩ ⟨hk,hb⟩
 dsimp only at hk hb
 have hol:out.length≤l.length:=by
  have h1:(Cb l n).length≤l.length:=mQ _ _
  rw[← hb] at h1
  simp at h1; omega
 simp only[go_sem,ae]
 refine cndC.mk (fun h=>?_) (fun h=>?_)
 ·have hk':k<l.length:=by simpa using h
  have hr:=ha.2 _ (au hk')
  rw[Bc] at hr
  have hrl:=hr.1
  rw[TB hk'] at hb
  simp only[go_sem,ae,AA _ hk',hk',ay]
  try refine DrawK.mk ?_
  try simp only[go_sem,ae,AA _ hk',hk',ay]
  refine CallK.mk _ (BB n 0 _) fun _=>?_
  rw[wrap_i64 (n:=(l[k].l.length:Int)-1) (by omega) (by omega)]
  by_cases hn:0≤n∧n.toNat<l[k].l.length
  ·rw[dif_pos hn] at hb
   obtain⟨m,rfl⟩:=sQ hn.1
   have hm:m<l[k].l.length:=by have:=hn.2; simpa using this
   have e1:Ce (m:Int) 0 ((l[k].l.length:Int)-1)=true:=by simp[Ce]; omega
   have hol2:out.length+1≤1099511627776:=by
    have h1:(Cb l (m:Int)).length≤l.length:=mQ _ _
    have h2:=congrArg List.length hb
    simp at h2; omega
   simp only[go_sem,ae,AA _ hk',AA _ hm,hk',hm,e1,hol2,ay]
   try refine DrawK.mkE ?_
   simp only[go_sem,aS,aZ,ae,AA _ hk',AA _ hm,hk',hm,e1,hol2,ay,wrap_i64 (n:=(k:Int)+1) (by omega) (by omega)]
   exact⟨(k+1,out ++ [l[k].l[m]]),Head.sel [(2,false)] ⟨rfl,rfl,by rw[← GN]; exact AP DVal.pure,trivial⟩ (by rw[← GN]; rfl),⟨hk',by rw[← hb,aY]; rfl⟩,by simp only; omega⟩
  ·rw[dif_neg hn,bP] at hb
   have e1:Ce n 0 ((l[k].l.length:Int)-1)=false:=by simp[Ce]; intro h1; have:¬ n.toNat<l[k].l.length:=fun hh=>hn ⟨h1,hh⟩; omega
   simp only[go_sem,ae,AA _ hk',hk',e1,wrap_i64 (n:=(k:Int)+1) (by omega) (by omega)]
   exact⟨(k+1,out),Head.sel [(0,false)] ⟨rfl,rfl,AP DVal.pure,trivial⟩ rfl,⟨hk',hb⟩,by simp only; omega⟩
 ·have hk':k=l.length:=by simp at h; omega
  subst hk'
  rw[aP] at hb
  have:out=Cb l n:=by simpa [Cb] using hb
  subst this
  simp only[go_sem,BP]
  try simp
end Go.Proofs.YtgkmefoghbjfnaaGreat
