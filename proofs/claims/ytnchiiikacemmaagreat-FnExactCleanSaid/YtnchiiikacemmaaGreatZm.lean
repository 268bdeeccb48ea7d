/- A part. -/
import Derived.Test.YtnchiiikacemmaaGreatWb
import Derived.Test.YtnchiiikacemmaaGreatZi
set_option linter.unusedSimpArgs false
set_option linter.unusedVariables false
set_option maxHeartbeats 4000000
set_option maxRecDepth 10000
open Go.Proofs.Tryz
namespace Go.Proofs.YtnchiiikacemmaaGreat
open Go.Vm
def LV:List Int→List Int→Bool
 | [],[]=>true
 | a::l,b::m=>(a==b)&&LV l m
 | _,_=>false
theorem VT:∀ (a b:List Int),a.length≠b.length→LV a b=false
 | [],[],h=>by simp at h
 | [],_::_,_=>rfl
 | _::_,[],_=>rfl
 | a::l,b::m,h=>by simp only[LV]; rw[VT l m (by simpa using h)]; simp
theorem ZR (a b:List Int) {k:Nat} (h1:k<a.length) (h2:k<b.length):LV (a.drop k) (b.drop k)=((a[k]==b[k])&&LV (a.drop (k+1)) (b.drop (k+1))):=by
 rw[aC h1,aC h2]; rfl
theorem ZT (a b:List Int) (ha:a.length≤1048576) (hb:b.length≤1048576):Ctr prog 248 [.c (.sl (a.map intC)),.c (.sl (b.map intC))] [.val (.c (.v (.bool (LV a b))))]:=by
 refine CM call248 func248 ntmps248 results248 fun hw=>?_
 simp only[go_sem]
 refine cndC.mk (fun h=>?_) (fun h=>?_)
 ·simp only[go_sem]
  rw[VT a b (by simp at h; omega)]
 ·have he:a.length=b.length:=by simp at h; omega
  simp only[go_sem]
  refine LoopU.mk 0 (A:=Nat) (fun k=>[(13,.c (.v (.int .i64 (k))))]) (fun _=>[]) (fun k=>k≤a.length∧LV (a.drop k) (b.drop k)=LV a b) (fun k=>a.length-k) 0 ⟨⟨rfl,rfl⟩,rfl,ak _,rfl⟩ ?_
  rintro k ⟨hk,hf⟩
  simp only[go_sem]
  refine cndC.mk (fun h=>?_) (fun h=>?_)
  ·have hk':k<a.length:=by simpa using h
   have hk2:k<b.length:=by omega
   rw[ZR a b hk' hk2] at hf
   rcases hv:a[k]==b[k] with _ | _
   ·have hv2:(a[k] != b[k])=true:=by simp[bne,hv]
    simp only[go_sem]
    refine DrawK.mk ?_
    simp only[go_sem,AA _ hk',AA _ hk2,hv2]
    rw[hv,ag] at hf
    rw[hf]
   ·have hv2:(a[k] != b[k])=false:=by simp[bne,hv]
    simp only[go_sem]
    refine DrawK.mk ?_
    simp only[go_sem,AA _ hk',AA _ hk2,hv2,wrap_i64 (n:=(k:Int)+1) (by omega) (by omega)]
    rw[hv,ai] at hf
    exact⟨k+1,⟨rfl,rfl⟩,rfl,⟨by omega,hf⟩,by omega⟩
  ·have hk':k=a.length:=by simp at h; omega
   subst hk'
   simp only[go_sem]
   rw[← hf,aO,he,aO]; rfl
theorem ZU (a b:List Int) (ha:a.length≤1048576) (hb:b.length≤1048576):Ctr prog 236 [.c (.sl (a.map intC)),.c (.sl (b.map intC))] [.val (.c (.v (.bool (LV a b))))]:=by
 refine CM call236 func236 ntmps236 results236 fun hw=>?_
 simp only[go_sem]
 refine cndC.mk (fun h=>?_) (fun h=>?_)
 ·simp only[go_sem]
  rw[VT a b (by simp at h; omega)]
 ·have he:a.length=b.length:=by simp at h; omega
  simp only[go_sem]
  refine LoopU.mk 0 (A:=Nat) (fun k=>[(5,.c (.v (.int .i64 (k))))]) (fun _=>[]) (fun k=>k≤a.length∧LV (a.drop k) (b.drop k)=LV a b) (fun k=>a.length-k) 0 ⟨⟨rfl,rfl⟩,rfl,ak _,rfl⟩ ?_
  rintro k ⟨hk,hf⟩
  simp only[go_sem]
  refine cndC.mk (fun h=>?_) (fun h=>?_)
  ·have hk':k<a.length:=by simpa using h
   have hk2:k<b.length:=by omega
   rw[ZR a b hk' hk2] at hf
   rcases hv:a[k]==b[k] with _ | _
   ·have hv2:(a[k] != b[k])=true:=by simp[bne,hv]
    simp only[go_sem]
    refine DrawK.mk ?_
    simp only[go_sem,AA _ hk',AA _ hk2,hv2]
    rw[hv,ag] at hf
    rw[hf]
   ·have hv2:(a[k] != b[k])=false:=by simp[bne,hv]
    simp only[go_sem]
    refine DrawK.mk ?_
    simp only[go_sem,AA _ hk',AA _ hk2,hv2,wrap_i64 (n:=(k:Int)+1) (by omega) (by omega)]
    rw[hv,ai] at hf
    exact⟨k+1,⟨rfl,rfl⟩,rfl,⟨by omega,hf⟩,by omega⟩
  ·have hk':k=a.length:=by simp at h; omega
   subst hk'
   simp only[go_sem]
   rw[← hf,aO,he,aO]; rfl
mutual
def MH:DPred→DPred→Bool
 | .mk k c o v l,q=>(k==q.kind)&&((c==q.col)&&((o==q.op)&&(KX v q.v&&Gg l q.l)))
def Gg:List DPred→List DPred→Bool
 | [],[]=>true
 | a::l,b::m=>MH a b&&Gg l m
 | _,_=>false
end
theorem ZV (p q:DPred):MH p q=((p.kind==q.kind)&&((p.col==q.col)&&((p.op==q.op)&&(KX p.v q.v&&Gg p.l q.l)))):=by
 cases p
 rw[MH]
 rfl
theorem SG:∀ (a b:List DPred),a.length≠b.length→Gg a b=false
 | [],[],h=>by simp at h
 | [],_::_,_=>by rw[Gg]<;>simp
 | _::_,[],_=>by rw[Gg]<;>simp
 | a::l,b::m,h=>by rw[Gg,SG l m (by simpa using h)]; simp
theorem WX (a b:List DPred) {k:Nat} (h1:k<a.length) (h2:k<b.length):Gg (a.drop k) (b.drop k)=(MH a[k] b[k]&&Gg (a.drop (k+1)) (b.drop (k+1))):=by
 rw[aC h1,aC h2,Gg]
def ZW (p:DPred):List Cl:=[.v (.int .i64 p.kind),.v (.int .i64 p.col),.v (.int .i64 p.op),.v (.int .i64 p.v.ty),.v (.int .i64 p.v.n),.v (.string p.v.s),.sl (p.l.map DPred.c)]
@[go_sem] theorem AHM (p:DPred):ZW p = [.v (.int .i64 p.kind),.v (.int .i64 p.col),.v (.int .i64 p.op),.v (.int .i64 p.v.ty),.v (.int .i64 p.v.n),.v (.string p.v.s),.sl (p.l.map DPred.c)]:=rfl
theorem AAO (p q:DPred) (hp:Ak p) (hq:Ak q) (hx:∀ x∈p.l,∀ y∈q.l,Ctr prog 247 [.agg x.c,.agg y.c] [.val (.c (.v (.bool (MH x y))))]):Ctr prog 247 [.agg p.c,.agg q.c] [.val (.c (.v (.bool (MH p q))))]:=by
 refine CM call247 func247 ntmps247 results247 fun hw=>?_
 have hpl:p.l.length≤1048576:=by rw[BG] at hp; exact hp.2.1
 have hql:q.l.length≤1048576:=by rw[BG] at hq; exact hq.2.1
 rw[ZV p q]
 have e1:(p.v.ty==q.v.ty&&(p.v.n==q.v.n&&p.v.s.toList==q.v.s.toList))=KX p.v q.v:=rfl
 rcases h1:p.kind==q.kind with _ | _
 ·have g1:(p.kind != q.kind)=true:=by simp[bne,h1]
  simp only[go_sem,g1,ag]
 have g1:(p.kind != q.kind)=false:=by simp[bne,h1]
 rcases h2:p.col==q.col with _ | _
 ·have g2:(p.col != q.col)=true:=by simp[bne,h2]
  simp only[go_sem,g1,g2,ag,ai]
 have g2:(p.col != q.col)=false:=by simp[bne,h2]
 rcases h3:p.op==q.op with _ | _
 ·have g3:(p.op != q.op)=true:=by simp[bne,h3]
  simp only[go_sem,g1,g2,g3,ag,ai]
 have g3:(p.op != q.op)=false:=by simp[bne,h3]
 rcases h4:KX p.v q.v with _ | _
 ·simp only[go_sem,g1,g2,g3,e1,h4,FB,Iu,aU,aN,ag,ai]
 simp only[go_sem,g1,g2,g3,e1,h4,FB,Iu,aU,aQ,ai]
 refine cndC.mk (fun h=>?_) (fun h=>?_)
 ·simp only[go_sem]
  rw[SG p.l q.l (by simp at h; omega)]
 have he:p.l.length=q.l.length:=by simp at h; omega
 simp only[go_sem]
 refine LoopU.mk 2 (A:=Nat) (fun k=>[(44,.c (.v (.int .i64 (k))))]) (fun _=>[⟨122,7,[ZW p],true,true⟩,⟨122,7,[ZW q],true,true⟩]) (fun k=>k≤p.l.length∧Gg (p.l.drop k) (q.l.drop k)=Gg p.l q.l) (fun k=>p.l.length-k) 0 ⟨⟨rfl,rfl⟩,rfl,ak _,rfl⟩ ?_
 rintro k ⟨hk,hb⟩
 simp only[go_sem]
 refine cndC.mk (fun h=>?_) (fun h=>?_)
 ·have hk':k<p.l.length:=by simpa using h
  have hk2:k<q.l.length:=by omega
  rw[WX p.l q.l hk' hk2] at hb
  simp only[go_sem]
  try refine DrawK.mk ?_
  try simp only[go_sem,AA _ hk',AA _ hk2]
  first | refine CY (hx p.l[k] (aj hk') q.l[k] (aj hk2)) ?_ | refine CW (hx p.l[k] (aj hk') q.l[k] (aj hk2)) fun _=>?_
  rcases hv:MH p.l[k] q.l[k] with _ | _
  ·simp only[go_sem]
   rw[hv,ag] at hb
   rw[← hb]
  ·simp only[go_sem,wrap_i64 (n:=(k:Int)+1) (by omega) (by omega)]
   rw[hv,ai] at hb
   exact⟨k+1,⟨rfl,rfl⟩,rfl,⟨by omega,hb⟩,by omega⟩
 ·have hk':k=p.l.length:=by simp at h; omega
  subst hk'
  simp only[go_sem]
  rw[← hb,aO,he,aO,Gg]
theorem AAP (p q:DPred) (hp:Ak p) (hq:Ak q) (hx:∀ x∈p.l,∀ y∈q.l,Ctr prog 237 [.agg x.c,.agg y.c] [.val (.c (.v (.bool (MH x y))))]):Ctr prog 237 [.agg p.c,.agg q.c] [.val (.c (.v (.bool (MH p q))))]:=by
 refine CM call237 func237 ntmps237 results237 fun hw=>?_
 have hpl:p.l.length≤1048576:=by rw[BG] at hp; exact hp.2.1
 have hql:q.l.length≤1048576:=by rw[BG] at hq; exact hq.2.1
 rw[ZV p q]
 have e1:(p.v.ty==q.v.ty&&(p.v.n==q.v.n&&p.v.s.toList==q.v.s.toList))=KX p.v q.v:=rfl
 rcases h1:p.kind==q.kind with _ | _
 ·have g1:(p.kind != q.kind)=true:=by simp[bne,h1]
  simp only[go_sem,g1,ag]
 have g1:(p.kind != q.kind)=false:=by simp[bne,h1]
 rcases h2:p.col==q.col with _ | _
 ·have g2:(p.col != q.col)=true:=by simp[bne,h2]
  simp only[go_sem,g1,g2,ag,ai]
 have g2:(p.col != q.col)=false:=by simp[bne,h2]
 rcases h3:p.op==q.op with _ | _
 ·have g3:(p.op != q.op)=true:=by simp[bne,h3]
  simp only[go_sem,g1,g2,g3,ag,ai]
 have g3:(p.op != q.op)=false:=by simp[bne,h3]
 rcases h4:KX p.v q.v with _ | _
 ·simp only[go_sem,g1,g2,g3,e1,h4,FB,Iu,aU,aN,ag,ai]
 simp only[go_sem,g1,g2,g3,e1,h4,FB,Iu,aU,aQ,ai]
 refine cndC.mk (fun h=>?_) (fun h=>?_)
 ·simp only[go_sem]
  rw[SG p.l q.l (by simp at h; omega)]
 have he:p.l.length=q.l.length:=by simp at h; omega
 simp only[go_sem]
 refine LoopU.mk 2 (A:=Nat) (fun k=>[(5,.c (.v (.int .i64 (k))))]) (fun _=>[⟨122,7,[ZW p],true,true⟩,⟨122,7,[ZW q],true,true⟩]) (fun k=>k≤p.l.length∧Gg (p.l.drop k) (q.l.drop k)=Gg p.l q.l) (fun k=>p.l.length-k) 0 ⟨⟨rfl,rfl⟩,rfl,ak _,rfl⟩ ?_
 rintro k ⟨hk,hb⟩
 simp only[go_sem]
 refine cndC.mk (fun h=>?_) (fun h=>?_)
 ·have hk':k<p.l.length:=by simpa using h
  have hk2:k<q.l.length:=by omega
  rw[WX p.l q.l hk' hk2] at hb
  simp only[go_sem]
  try refine DrawK.mk ?_
  try simp only[go_sem,AA _ hk',AA _ hk2]
  first | refine CY (hx p.l[k] (aj hk') q.l[k] (aj hk2)) ?_ | refine CW (hx p.l[k] (aj hk') q.l[k] (aj hk2)) fun _=>?_
  rcases hv:MH p.l[k] q.l[k] with _ | _
  ·simp only[go_sem]
   rw[hv,ag] at hb
   rw[← hb]
  ·simp only[go_sem,wrap_i64 (n:=(k:Int)+1) (by omega) (by omega)]
   rw[hv,ai] at hb
   exact⟨k+1,⟨rfl,rfl⟩,rfl,⟨by omega,hb⟩,by omega⟩
 ·have hk':k=p.l.length:=by simp at h; omega
  subst hk'
  simp only[go_sem]
  rw[← hb,aO,he,aO,Gg]
theorem rJ {C:DPred→DPred→Prop} (h:∀ p q,Ak p→Ak q→(∀ x∈p.l,∀ y∈q.l,C x y)→C p q):∀ (n:Nat) (p q:DPred),SizeOf.sizeOf p≤n→Ak p→Ak q→C p q:=by
 intro n
 induction n with
 | zero=>intro p q h; cases p; simp at h
 | succ n ih =>
  intro p q hs hp hq
  refine h p q hp hq fun x hx y hy=>ih x y ?_ ?_ ?_
  ·have h1:SizeOf.sizeOf x<SizeOf.sizeOf p.l:=uC hx
   have h2:SizeOf.sizeOf p.l<SizeOf.sizeOf p:=by cases p; simp[DPred.l]; omega
   omega
  ·rw[BG] at hp; exact hp.2.2 x hx
  ·rw[BG] at hq; exact hq.2.2 y hy
theorem rM (p q:DPred) (hp:Ak p) (hq:Ak q):Ctr prog 247 [.agg p.c,.agg q.c] [.val (.c (.v (.bool (MH p q))))]:=rJ AAO _ p q (aK _) hp hq
theorem rO (p q:DPred) (hp:Ak p) (hq:Ak q):Ctr prog 237 [.agg p.c,.agg q.c] [.val (.c (.v (.bool (MH p q))))]:=rJ AAP _ p q (aK _) hp hq
def Ue (a b:DQuery):Bool:=(a.kind==b.kind)&&(MH a.p b.p&&((a.col==b.col)&&LV a.out b.out))
theorem P8 (a b:DQuery) (ha:Dl a) (hb:Dl b):Ctr prog 219 [.agg a.c,.agg b.c] [.val (.c (.v (.bool (Ue a b))))]:=by
 refine CM call219 func219 ntmps219 results219 fun hw=>?_
 rw[Ea] at ha hb
 unfold Ue
 rcases h1:a.kind==b.kind with _ | _
 ·simp only[go_sem,h1,ag]
 simp only[go_sem,h1]
 refine CW (rM a.p b.p ha.1 hb.1) fun _=>?_
 rcases h2:MH a.p b.p with _ | _
 ·simp only[go_sem,ag]
 rcases h3:a.col==b.col with _ | _
 ·simp only[go_sem,h3,ag,ai]
 simp only[go_sem,h3]
 refine CallK.mk _ (ZT a.out b.out ha.2 hb.2) fun _=>?_
 simp only[go_sem]
theorem WY (a b:DQuery) (ha:Dl a) (hb:Dl b):Ctr prog 209 [.agg a.c,.agg b.c] [.val (.c (.v (.bool (Ue a b))))]:=by
 refine CM call209 func209 ntmps209 results209 fun hw=>?_
 rw[Ea] at ha hb
 unfold Ue
 rcases h1:a.kind==b.kind with _ | _
 ·simp only[go_sem,h1,ag]
 rcases h3:a.col==b.col with _ | _
 ·simp only[go_sem,h1,h3,ag,aJ]
 simp only[go_sem,h1,h3]
 refine CallK.mk _ (ZU a.out b.out ha.2 hb.2) fun _=>?_
 rcases h2:LV a.out b.out with _ | _
 ·simp only[go_sem,aJ]
 simp only[go_sem]
 refine CW (rO a.p b.p ha.1 hb.1) fun _=>?_
 simp only[go_sem]
theorem lH (b:DBuf) (hb:F6 b):Ctr prog 141 [.agg b.c] [.agg b.o]:=by
 rw[Gp] at hb
 refine CM call141 func141 ntmps141 results141 fun hw=>?_
 have hl:b.g.length≤2147483648:=by have:=hb.2; omega
 simp only[go_sem]
 refine DrawK.split 6 7 [0,1,2,3,4,5,6,7,8,9,10,11,12] [0,1,2,3,4,5,7,6,8,9,10,11,12] rfl (by kernel_rfl) (by kernel_rfl) ?_ ?_
 all_goals
  refine DrawK.mkE ?_
  simp only[go_sem]
  refine CZ (lG b.c0 hb.1) ?_
  simp only[go_sem,Fg,ae,hl,aS,B_,GG]
  try simp[AY]
theorem WZ (l:List DBuf) (hl:fitS F6 l):Ctr prog 70 [.c (.sl (l.map DBuf.c))] [.own 112 5 (l.map DBuf.o) true]:=by
 refine CM call70 func70 ntmps70 results70 fun hw=>?_
 have hlen:=hl.1
 simp only[go_sem]
 refine LoopH.mk [6] (A:=Nat×List DBuf) (fun x=>[(4,.c (.v (.int .i64 (x.1)))),(3,.c (.ref 0))]) (fun x=>[⟨112,5,x.2.map DBuf.o,true,true⟩]) (fun x=>x.1≤l.length∧x.2.length≤x.1∧x.2++l.drop x.1=l) (fun x=>l.length-x.1) (0,[]) (Head.sel [(0,false)] ⟨rfl,rfl,rfl,trivial⟩ rfl) ⟨ak _,aK _,rfl⟩ ?_
 rintro⟨k,out⟩ ⟨hk,hol,hb⟩
 dsimp only at hk hol hb
 simp only[go_sem,ae]
 refine cndC.mk (fun h=>?_) (fun h=>?_)
 ·have hk':k<l.length:=by simpa using h
  rw[aC hk'] at hb
  have hr:=hl.2 _ (aj hk')
  have hol2:out.length+1≤2147483648:=by omega
  have hnr:∀ (a b c:Int) (m n:Nat),FT [[Cl.v (.int .i64 a),Cl.v (.int .i64 b),Cl.v (.int .i64 c),.ref m,.ref n]]=false:=fun _ _ _ _ _=>rfl
  simp only[go_sem,AA _ hk']
  refine CW (lH l[k] hr) fun _=>?_
  simp only[go_sem,bK,Oo,hol2,hnr,az,aS,wrap_i64 (n:=(k:Int)+1) (by omega) (by omega)]
  refine⟨(k+1,out ++ [l[k]]),Head.selAbs [(5,true),(1,true),(2,false)] 1 0 ⟨rfl,rfl,Iy DBuf.o_nr _ out rfl,Du (GG _),AO byteC.pure,trivial⟩ ⟨out.length,out.map DBuf.o ++ [DBuf.o l[k]],_,DBuf.o l[k],_,⟨lU 0,rfl,Iw DBuf.o_nr _ out _ _,by simp,rfl⟩,
   ⟨rfl,rfl,rfl,rfl,rfl,rfl,rfl,rfl, ?xs,rfl, ?nr,by simp[En],rfl,rfl,rfl,rfl,B_ _,by simp[En],fun l hl=>by simp[En] at hl; omega⟩,⟨rfl, ?tr⟩, ?eq⟩,⟨hk',by simp; omega,(bJ _ _ _).trans hb⟩,by simp only; omega⟩
  case xs=>exact DR (GG _)
  case nr=>exact GG _
  case tr=>unfold Az; rw[Bc]; exact allA (AP (CE _))
  case eq=>unfold Az; rw[Bc,Uz]; rfl
 ·have hk':k=l.length:=by simp at h; omega
  subst hk'
  rw[aO] at hb
  have:out=l:=by simpa using hb
  subst this
  simp only[go_sem,CE]
  try simp
theorem VU (r:DResult) (hr:Ig r):Ctr prog 183 [.agg r.c] [.agg r.o]:=by
 rw[Ir] at hr
 refine CM call183 func183 ntmps183 results183 fun hw=>?_
 simp only[go_sem]
 refine DrawK.mkE ?_
 simp only[go_sem]
 refine CZ (Pm r.rows hr.1) ?_
 simp only[go_sem,A8]
 try simp[AY]
theorem ZX (r:DResult) (hr:Ig r):Ctr prog 200 [.agg r.c] [.agg r.o]:=by
 rw[Ir] at hr
 refine CM call200 func200 ntmps200 results200 fun hw=>?_
 simp only[go_sem]
 refine CW (ZC r.rows hr.1) fun _=>?_
 simp only[go_sem,A8]
 try simp[AY]
def vX:List Cl:=[.v (.int .i64 0),.v (.int .i64 0),.v (.int .i64 0),.v (.int .i64 0),.v (.int .i64 0),.v (.string ByteArray.empty),.v (.slice none 0 0)]
def vY (p:DPred):List Cl:=[.v (.int .i64 p.kind),.v (.int .i64 p.col),.v (.int .i64 p.op),.v (.int .i64 p.v.ty),.v (.int .i64 p.v.n),.v (.string p.v.s),.v (.slice none 0 0)]
def vZ (p:DPred) (l:Nat):List Cl:=[.v (.int .i64 p.kind),.v (.int .i64 p.col),.v (.int .i64 p.op),.v (.int .i64 p.v.ty),.v (.int .i64 p.v.n),.v (.string p.v.s),.ref l]
@[go_sem] theorem AF7:vX = [.v (.int .i64 0),.v (.int .i64 0),.v (.int .i64 0),.v (.int .i64 0),.v (.int .i64 0),.v (.string ByteArray.empty),.v (.slice none 0 0)]:=rfl
@[go_sem] theorem AF8 (p:DPred):vY p = [.v (.int .i64 p.kind),.v (.int .i64 p.col),.v (.int .i64 p.op),.v (.int .i64 p.v.ty),.v (.int .i64 p.v.n),.v (.string p.v.s),.v (.slice none 0 0)]:=rfl
@[go_sem] theorem AF9 (p:DPred) (l:Nat):vZ p l = [.v (.int .i64 p.kind),.v (.int .i64 p.col),.v (.int .i64 p.op),.v (.int .i64 p.v.ty),.v (.int .i64 p.v.n),.v (.string p.v.s),.ref l]:=rfl
theorem lI (p:DPred) (hp:Ak p) (hx:∀ x∈p.l,Ctr prog 221 [.agg x.c] [.agg x.o]):Ctr prog 221 [.agg p.c] [.agg p.o]:=by
 refine CM call221 func221 ntmps221 results221 fun hw=>?_
 have hpl:p.l.length≤1048576:=by rw[BG] at hp; exact hp.2.1
 simp only[go_sem]
 refine LoopH.mk [] (A:=Nat×List DPred) (fun x=>[(18,.c (.v (.int .i64 (x.1))))]) (fun x=>[⟨122,7,[ZW p],true,true⟩,⟨122,7,[vX],true,true⟩,⟨122,7,[vZ p 3],true,true⟩,⟨122,7,x.2.map DPred.o,true,true⟩]) (fun x=>x.1≤p.l.length∧x.2.length=x.1∧x.2++p.l.drop x.1=p.l) (fun x=>p.l.length-x.1) (0,[]) (Head.trans (Head.nilR 2 6 122 7 ⟨122,7,[vY p],true,true⟩ (vY p) rfl rfl rfl) (Head.sel [(0,false),(1,true),(2,true),(3,false)] ⟨rfl,rfl,rfl,rfl,rfl,rfl,trivial⟩ rfl)) ⟨ak _,rfl,rfl⟩ ?_
 rintro⟨k,out⟩ ⟨hk,hol,hb⟩
 dsimp only at hk hol hb
 simp only[go_sem]
 refine cndC.mk (fun h=>?_) (fun h=>?_)
 ·have hk':k<p.l.length:=by simpa using h
  rw[aC hk'] at hb
  have hol2:out.length+1≤2147483648:=by omega
  have hnr:∀ (a b c d e:Int) (t:ByteArray) (l:Nat),FT [[Cl.v (.int .i64 a),Cl.v (.int .i64 b),Cl.v (.int .i64 c),Cl.v (.int .i64 d),Cl.v (.int .i64 e),Cl.v (.string t),.ref l]]=false:=fun _ _ _ _ _ _ _=>rfl
  simp only[go_sem,AA _ hk']
  refine DrawK.mkE ?_
  simp only[go_sem]
  refine CZ (hx p.l[k] (aj hk')) ?_
  simp only[go_sem,bK,Oo,hol2,hnr,az,aS,wrap_i64 (n:=(k:Int)+1) (by omega) (by omega)]
  refine⟨(k+1,out ++ [p.l[k]]),Head.selAbs [(0,false),(1,true),(2,true),(7,true),(5,true)] 4 3 ⟨rfl,rfl,rfl,rfl,rfl,Iy DPred.o_nr _ out rfl,Du (BL _),trivial⟩ ⟨out.length,out.map DPred.o ++ [DPred.o p.l[k]],_,DPred.o p.l[k],_,⟨lU 3,rfl,Iw DPred.o_nr _ out _ _,by simp,rfl⟩,
   (by rw[DPred.o_eq]; exact⟨rfl,rfl,rfl,rfl,rfl,rfl,rfl,rfl,rfl,rfl,rfl,rfl,rfl,rfl,DR (BL _),rfl,BL _,by simp[En],fun l hl=>by simp[En] at hl; omega⟩),⟨rfl, ?tr⟩, ?eq⟩,⟨hk',by simp; omega,(bJ _ _ _).trans hb⟩,by simp only; omega⟩
  case tr=>unfold Az; rw[Bc]; exact ADh rfl rfl rfl (AP (BL _))
  case eq=>unfold Az; rw[Bc,Uz]; rfl
 ·have hk':k=p.l.length:=by simp at h; omega
  subst hk'
  rw[aO] at hb
  have:out=p.l:=by simpa using hb
  rw[← this]
  simp only[go_sem,BL]
  try simp[AY]
theorem ve (p:DPred) (hp:Ak p) (hx:∀ x∈p.l,Ctr prog 198 [.agg x.c] [.agg x.o]):Ctr prog 198 [.agg p.c] [.agg p.o]:=by
 refine CM call198 func198 ntmps198 results198 fun hw=>?_
 have hpl:p.l.length≤1048576:=by rw[BG] at hp; exact hp.2.1
 simp only[go_sem]
 refine LoopH.mk [8,7] (A:=Nat×List DPred) (fun x=>[(4,.c (.v (.int .i64 (x.1))))]) (fun x=>[⟨122,7,[ZW p],true,true⟩,⟨122,7,[vX],true,true⟩,⟨122,7,[vZ p 3],true,true⟩,⟨122,7,x.2.map DPred.o,true,true⟩]) (fun x=>x.1≤p.l.length∧x.2.length=x.1∧x.2++p.l.drop x.1=p.l) (fun x=>p.l.length-x.1) (0,[]) (Head.sel [(0,false),(1,true),(2,true),(3,false)] ⟨rfl,rfl,rfl,rfl,rfl,rfl,trivial⟩ rfl) ⟨ak _,rfl,rfl⟩ ?_
 rintro⟨k,out⟩ ⟨hk,hol,hb⟩
 dsimp only at hk hol hb
 simp only[go_sem]
 refine cndC.mk (fun h=>?_) (fun h=>?_)
 ·have hk':k<p.l.length:=by simpa using h
  rw[aC hk'] at hb
  have hol2:out.length+1≤2147483648:=by omega
  have hnr:∀ (a b c d e:Int) (t:ByteArray) (l:Nat),FT [[Cl.v (.int .i64 a),Cl.v (.int .i64 b),Cl.v (.int .i64 c),Cl.v (.int .i64 d),Cl.v (.int .i64 e),Cl.v (.string t),.ref l]]=false:=fun _ _ _ _ _ _ _=>rfl
  simp only[go_sem,AA _ hk']
  refine CW (hx p.l[k] (aj hk')) fun _=>?_
  simp only[go_sem,bK,Oo,hol2,hnr,az,aS,wrap_i64 (n:=(k:Int)+1) (by omega) (by omega)]
  refine⟨(k+1,out ++ [p.l[k]]),Head.selAbs [(0,false),(1,true),(2,true),(7,true),(4,true)] 4 3 ⟨rfl,rfl,rfl,rfl,rfl,Iy DPred.o_nr _ out rfl,Du (BL _),trivial⟩ ⟨out.length,out.map DPred.o ++ [DPred.o p.l[k]],_,DPred.o p.l[k],_,⟨lU 3,rfl,Iw DPred.o_nr _ out _ _,by simp,rfl⟩,
   (by rw[DPred.o_eq]; exact⟨rfl,rfl,rfl,rfl,rfl,rfl,rfl,rfl,rfl,rfl,rfl,rfl,rfl,rfl,DR (BL _),rfl,BL _,by simp[En],fun l hl=>by simp[En] at hl; omega⟩),⟨rfl, ?tr⟩, ?eq⟩,⟨hk',by simp; omega,(bJ _ _ _).trans hb⟩,by simp only; omega⟩
  case tr=>unfold Az; rw[Bc]; exact ADh rfl rfl rfl (AP (BL _))
  case eq=>unfold Az; rw[Bc,Uz]; rfl
 ·have hk':k=p.l.length:=by simp at h; omega
  subst hk'
  rw[aO] at hb
  have:out=p.l:=by simpa using hb
  rw[← this]
  simp only[go_sem,BL]
  try simp[AY]
theorem gK {C:DPred→Prop} (h:∀ p,Ak p→(∀ x∈p.l,C x)→C p):∀ (n:Nat) (p:DPred),SizeOf.sizeOf p≤n→Ak p→C p:=by
 intro n
 induction n with
 | zero=>intro p h; cases p; simp at h
 | succ n ih =>
  intro p hs hp
  refine h p hp fun x hx=>ih x ?_ ?_
  ·have h1:SizeOf.sizeOf x<SizeOf.sizeOf p.l:=uC hx
   have h2:SizeOf.sizeOf p.l<SizeOf.sizeOf p:=by cases p; simp[DPred.l]; omega
   omega
  ·rw[BG] at hp; exact hp.2.2 x hx
theorem ZY (p:DPred) (hp:Ak p):Ctr prog 221 [.agg p.c] [.agg p.o]:=gK lI _ p (aK _) hp
theorem lJ (p:DPred) (hp:Ak p):Ctr prog 198 [.agg p.c] [.agg p.o]:=gK ve _ p (aK _) hp
theorem Qh (l:List Int):Jc 1 (l.map intC)=true:=L_ (fun _=>rfl) l
theorem JF (l:List Int) (h:l.length≤1048576):Ctr prog 98 [.c (.sl (l.map intC))] [.own 3 1 (l.map intC) true]:=by
 refine CM call98 func98 ntmps98 results98 fun hw=>?_
 have hl:l.length≤2147483648:=by omega
 simp only[go_sem,Qh,ae,hl,aS,Aq]
 try simp
theorem Oj (q:DQuery) (hq:Dl q):Ctr prog 181 [.agg q.c] [.agg q.o]:=by
 rw[Ea] at hq
 refine CM call181 func181 ntmps181 results181 fun hw=>?_
 simp only[go_sem]
 refine DrawK.mkE ?_
 simp only[go_sem]
 refine CZ (ZY q.p hq.1) ?_
 simp only[go_sem]
 refine CallE.mk _ (JF q.out hq.2) ?_
 simp only[go_sem,Aq,BL]
 try simp[AY]
theorem Uf (q:DQuery) (hq:Dl q):Ctr prog 142 [.agg q.c] [.agg q.o]:=by
 rw[Ea] at hq
 refine CM call142 func142 ntmps142 results142 fun hw=>?_
 have hl:q.out.length≤2147483648:=by have:=hq.2; omega
 simp only[go_sem]
 refine CW (lJ q.p hq.1) fun _=>?_
 simp only[go_sem,Qh,ae,hl,aS,Aq,BL]
 try simp[AY]
theorem ZZ (t:DTask) (ht:FW t):Ctr prog 101 [.agg t.c] [.agg t.o]:=by
 rw[D6] at ht
 refine CM call101 func101 ntmps101 results101 fun hw=>?_
 simp only[go_sem]
 refine DrawK.mkE ?_
 simp only[go_sem]
 refine CallE.mk _ (Ff t.r ht.1.1) ?_
 simp only[go_sem]
 refine CZ (Oj t.q ht.2.1) ?_
 simp only[go_sem]
 refine CallE.mk _ (P6 t.l ht.2.2.1) ?_
 simp only[go_sem]
 refine CZ (Pm t.got ht.2.2.2) ?_
 simp only[go_sem,Aq,BL,CX,Et,A8]
 try simp[AY]
theorem lK (t:DTask) (ht:FW t):Ctr prog 71 [.agg t.c] [.agg t.o]:=by
 rw[D6] at ht
 refine CM call71 func71 ntmps71 results71 fun hw=>?_
 have h1:t.r.length≤2147483648:=by have:=ht.1.1; omega
 have h2:t.l.length≤2147483648:=by have:=ht.2.2.1; omega
 simp only[go_sem,Hq,ae,h1,aS]
 refine CW (Uf t.q ht.2.1) fun _=>?_
 simp only[go_sem,ZQ,ae,h2,aS]
 refine CW (ZC t.got ht.2.2.2) fun _=>?_
 simp only[go_sem,Aq,BL,CX,Et,A8]
 try simp[AY]
theorem Za (d:DDeed) (hd:E8 d):Ctr prog 102 [.agg d.c] [.agg d.o]:=by
 rw[F7] at hd
 refine CM call102 func102 ntmps102 results102 fun hw=>?_
 simp only[go_sem]
 refine DrawK.mkE ?_
 simp only[go_sem]
 refine CallE.mk _ (Ff d.r hd.1.1) ?_
 simp only[go_sem]
 refine CZ (Oj d.q hd.2.1) ?_
 simp only[go_sem]
 refine CZ (VU d.res hd.2.2) ?_
 simp only[go_sem,Aq,BL,CX,A8]
 try simp[AY]
theorem lL (d:DDeed) (hd:E8 d):Ctr prog 144 [.agg d.c] [.agg d.o]:=by
 rw[F7] at hd
 refine CM call144 func144 ntmps144 results144 fun hw=>?_
 have h1:d.r.length≤2147483648:=by have:=hd.1.1; omega
 simp only[go_sem,Hq,ae,h1,aS]
 refine CW (Uf d.q hd.2.1) fun _=>?_
 simp only[go_sem]
 refine CW (ZX d.res hd.2.2) fun _=>?_
 simp only[go_sem,Aq,BL,CX,A8]
 try simp[AY]
end Go.Proofs.YtnchiiikacemmaaGreat
