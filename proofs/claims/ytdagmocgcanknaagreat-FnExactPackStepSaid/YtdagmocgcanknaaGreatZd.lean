/- A part. -/
import Derived.Test.YtdagmocgcanknaaGreatZa
import Derived.Test.YtdagmocgcanknaaGreatJd
import Derived.Test.YtdagmocgcanknaaGreatAg
set_option linter.unusedSimpArgs false
set_option linter.unusedVariables false
set_option maxHeartbeats 4000000
set_option maxRecDepth 10000
open Go.Proofs.Tryz
namespace Go.Proofs.YtdagmocgcanknaaGreat
open Go.Vm
def Jr:Int->List DRef->List DRef->Bool
 | _,_,[]=>true
 | e,seen,r::l=>Eh r&&((r.first==e)&&(!FC seen r.buf&&Jr (IntKind.i64.wrap (e+r.many)) (seen ++ [r]) l))
def J4 (d:DDir):Bool:=!decide (d.ver<0)&&(!decide ((d.l.length:Int)>8)&&Jr 0 [] d.l)
def Pv (l:List DRef) (k:Nat):Int:=(l.take k).foldl (fun e r=>IntKind.i64.wrap (e+r.many)) 0
theorem Yz (l:List DRef) (e:Int) {k:Nat} (h:k<l.length):Jr e (l.take k) (l.drop k)=(Eh l[k]&&((l[k].first==e)&&(!FC (l.take k) l[k].buf&&Jr (IntKind.i64.wrap (e+l[k].many)) (l.take (k+1)) (l.drop (k+1))))):=by rw[aB h,Jr,abE,am h];rfl
theorem Qj (l:List DRef) {k:Nat} (h:k<l.length):Pv l (k+1)=IntKind.i64.wrap (Pv l k+l[k].many):=by unfold Pv;rw[abE,am h,abu];rfl
theorem AK4 (l:List DRef):((l.map DRef.c).all fun r=>r.length==5)=true:=aC.2 fun r hr=>by obtain⟨x,_,rfl⟩:=jB.1 hr;rfl
theorem SS (d:DDir) (hl:d.l.length<=1048576):Ctr prog 88 [.agg d.c] [.val (.c (.v (.bool (J4 d))))]:=by
 refine CM call88 func88 ntmps88 results88 fun hw=>?_;unfold J4;rcases h1:decide (d.ver<0) with _ | _;rotate_left
 .simp only[go_sem,h1,aD,ac]
 rcases h2:decide ((d.l.length:Int)>8) with _ | _;rotate_left
 .simp only[go_sem,h1,h2,aD,aH,ah,ac]
 simp only[go_sem,h1,h2,aH,ah];refine AAe 1 (A:=Nat) (fun x=>[(18,.c (.v (.int .i64 (x)))),(3,.c (.v (.int .i64 (Pv d.l x))))]) (fun _=>[⟨38,2,[d.c],true,true⟩]) (fun x=>x<=d.l.length/\Jr (Pv d.l x) (d.l.take x) (d.l.drop x)=Jr 0 [] d.l) (fun x=>d.l.length-x) 0 ⟨⟨rfl,rfl⟩,rfl,aq _,rfl⟩ ?_;rintro k ⟨hk,hb⟩;refine AOd (fun h=>?_) fun h=>?_
 .have hk':k<d.l.length:=by simpa using h
  rw[Yz _ _ hk',<- Qj _ hk'] at hb;simp only[go_sem,AA _ hk',hk'];refine AAP ?_;simp only[go_sem,AA _ hk',hk'];refine CY (SN d.l[k]) ?_;rcases h3:Eh d.l[k] with _ | _
  .rw[h3,ac] at hb;simp only[go_sem,h3,<- hb]
  rcases h4:d.l[k].first==Pv d.l k with _ | _
  .have g4:(d.l[k].first != Pv d.l k)=true:=by simp[bne,h4]
   rw[h3,h4,ac,ay] at hb;simp only[go_sem,h3,g4,<- hb]
  have g4:(d.l[k].first != Pv d.l k)=false:=by simp[bne,h4]
  have hmt:List.take k (d.l.map DRef.c)=(d.l.take k).map DRef.c:=(bf ..).symm;simp only[go_sem,AA _ hk',hk',h3,g4,hmt,hk,AK4,aq,yG,and_self,aO];refine CY (qG ⟨0,d.l.take k⟩ d.l[k].buf AOn) ?_;rcases h5:FC (d.l.take k) d.l[k].buf with _ | _
  .rw[h3,h4,h5,ah,ah,aH,ah] at hb;simp only[go_sem,AA _ hk',hk',h3,g4,h5,<- Qj _ hk',wrap_i64 (n:=(k:Int)+1) AOl AOl];exact AMP
  .rw[h5,aD,ac,ay,ay] at hb;simp only[go_sem,AA _ hk',hk',h3,g4,h5,<- hb]
 .have hk':k=d.l.length:=by simp at h; omega
  subst hk';rw[aK] at hb;simp only[go_sem,<- hb,Jr]
theorem SV (d:DDir) (hl:d.l.length<=1048576):Ctr prog 63 [.agg d.c] [.val (.c (.v (.bool (J4 d))))]:=by
 refine CM call63 func63 ntmps63 results63 fun hw=>?_;unfold J4;rcases h2:decide ((d.l.length:Int)>8) with _ | _;rotate_left
 .simp only[go_sem,h2,aD,ac,ay]
 simp only[go_sem,h2,aH,ah];refine AAe 1 (A:=Nat) (fun x=>[(4,.c (.v (.int .i64 (x)))),(3,.c (.v (.int .i64 (Pv d.l x))))]) (fun _=>[⟨38,2,[d.c],true,true⟩]) (fun x=>x<=d.l.length/\Jr (Pv d.l x) (d.l.take x) (d.l.drop x)=Jr 0 [] d.l) (fun x=>d.l.length-x) 0 ⟨⟨rfl,rfl⟩,rfl,aq _,rfl⟩ ?_;rintro k ⟨hk,hb⟩;refine AOd (fun h=>?_) fun h=>?_
 .have hk':k<d.l.length:=by simpa using h
  rw[Yz _ _ hk',<- Qj _ hk'] at hb;simp only[go_sem,AA _ hk',hk'];refine CW (SQ d.l[k]) fun _=>?_;rcases h3:Eh d.l[k] with _ | _
  .rw[h3,ac] at hb;simp only[go_sem,h3,<- hb,ay]
  rcases h4:d.l[k].first==Pv d.l k with _ | _
  .have g4:(d.l[k].first != Pv d.l k)=true:=by simp[bne,h4]
   rw[h3,h4,ac,ay] at hb;simp only[go_sem,AA _ hk',hk',h3,g4,<- hb,ay]
  have g4:(d.l[k].first != Pv d.l k)=false:=by simp[bne,h4]
  have htl:(d.l.take k).length=k:=AOn;have hti:∀ j (h:j<(d.l.take k).length),(d.l.take k)[j]=d.l[j]' AOl:=fun j h=>AOm;simp only[go_sem,AA _ hk',hk',h3,g4,<- Qj _ hk'];refine AAe 1 (A:=Nat) (fun x=>[(5,.c (.v (.int .i64 (x))))]) (fun _=>[⟨38,2,[d.c],true,true⟩]) (FW (d.l.take k) fun r=>!(r.buf==d.l[k].buf)) (fun x=>k-x) 0 ⟨⟨rfl,rfl⟩,rfl,D9⟩ ?_;intro j hj;refine AOd (fun h=>?_) fun h=>?_
  .have hjk:j<k:=by simpa using h
   have hj':j<d.l.length:=AOl;have hj2:j<(d.l.take k).length:=AOl;rcases h1:d.l[j].buf==d.l[k].buf with _ | _
   .simp only[go_sem,AA _ hk',hk',AA _ hj',hj',h1];refine AAP ?_;simp only[go_sem,AA _ hk',hk',AA _ hj',hj',h1,wrap_i64 (n:=(j:Int)+1) AOl AOl];exact⟨j+1,⟨rfl,rfl⟩,rfl,CB hj2 hj (by rw[hti]; simp[h1]),AOl⟩
   .have h5:FC (d.l.take k) d.l[k].buf=true:=qF (p:=fun r:DRef=>r.buf==d.l[k].buf) hj2 (by rw[hti]; exact h1);rw[h5,aD,ac,ay,ay] at hb;simp only[go_sem,AA _ hk',hk',AA _ hj',hj',h1];refine AAP ?_;simp only[go_sem,AA _ hk',hk',AA _ hj',hj',h1,<- hb,ay]
  .have hjk:j=k:=by have:=hj.1; rw[htl] at this; simp at h; omega
   subst hjk;have h5:FC (d.l.take j) d.l[j].buf=false:=zO (by rw[htl]; exact hj);rw[h3,h4,h5,ah,ah,aH,ah] at hb;simp only[go_sem,wrap_i64 (n:=(j:Int)+1) AOl AOl];exact⟨j+1,⟨rfl,rfl⟩,rfl,⟨hk',hb⟩,AOl⟩
 .have hk':k=d.l.length:=by simp at h; omega
  subst hk';rw[aK] at hb;simp only[go_sem,<- hb,Jr,aw];rcases h1:decide (d.ver<0) with _ | _<;>simp at h1<;>simp[h1]<;>omega
def KR (cs:List Int) (next i:Int) (s:DSlot):Bool:=PG s.ins&&(!(decide (i>=next)&&(s.ins != 0))&&(!((s.ins==0)&&decide ((s.l.length:Int)>0)) && !((s.ins != 0) && !fits cs s.l)))
def KT (cs:List Int) (next:Int):Nat->List DSlot->Bool
 | _,[]=>true
 | i,s::l=>KR cs next i s&&KT cs next (i+1) l
theorem We (cs:List Int) (next:Int) (l:List DSlot) {k:Nat} (h:k<l.length):KT cs next k (l.drop k)=(KR cs next k l[k]&&KT cs next (k+1) (l.drop (k+1))):=by rw[aB h,KT]
def Qk (cs:List Int) (c:DChunk):Bool:=Ae c.l.length 1 4&&(Ae c.next 0 c.l.length&&KT cs c.next 0 c.l)
theorem jO (cs:List Int) (c:DChunk) (hc:FD c):Ctr prog 249 [.c (.sl (cs.map intC)),.agg c.c] [.val (.c (.v (.bool (Qk cs c))))]:=by
 rw[CO] at hc;have hl:=hc.1;refine CM call249 func249 ntmps249 results249 fun hw=>?_;unfold Qk;simp only[go_sem];refine AAO _ (AL c.l.length 1 4) fun _=>?_;rcases h1:Ae c.l.length 1 4 with _ | _
 .exact AL1
 simp only[go_sem,h1];refine AAO _ (AL c.next 0 c.l.length) fun _=>?_;rcases h2:Ae c.next 0 c.l.length with _ | _
 .simp only[go_sem,h1,h2,ac,ah]
 simp only[go_sem,h1,h2,ah];refine AAe 1 (A:=Nat) (fun x=>[(24,.c (.v (.int .i64 (x))))]) (fun _=>[⟨143,2,[c.c],true,true⟩]) (fun x=>x<=c.l.length/\KT cs c.next x (c.l.drop x)=KT cs c.next 0 c.l) (fun x=>c.l.length-x) 0 ⟨⟨rfl,rfl⟩,rfl,aq _,rfl⟩ ?_;rintro k ⟨hk,hb⟩;refine AOd (fun h=>?_) fun h=>?_
 .have hk':k<c.l.length:=by simpa using h
  rw[We _ _ _ hk'] at hb;simp only[go_sem,AA _ hk',hk'];refine AAO _ (WW c.l[k].ins) fun _=>?_;rcases h3:PG c.l[k].ins with _ | _
  .rw[KR,h3,ac,ac] at hb;simp only[go_sem,h3,<- hb]
  rcases h4:c.l[k].ins==0 with _ | _
  .have g4:(c.l[k].ins != 0)=true:=by simp[bne,h4]
   rcases h5:decide ((k:Int)>=c.next) with _ | _;rotate_left
   .rw[KR,h3,g4,h5] at hb;simp only[aw,aD,ac,ay] at hb;simp only[go_sem,AA _ hk',hk',h3,g4,h5,<- hb]
   simp only[go_sem,AA _ hk',hk',h3,h4,g4,h5];refine AAO _ (QH cs c.l[k].l) fun _=>?_;rcases h6:fits cs c.l[k].l with _ | _
   .rw[KR,h3,h4,g4,h5,h6] at hb;simp only[aw,ah,aD,aH,ac,ay] at hb;simp only[go_sem,h6,<- hb]
   .exact ALu
  .have g4:(c.l[k].ins != 0)=false:=by simp[bne,h4]
   rcases h6:decide ((c.l[k].l.length:Int)>0) with _ | _
   .rw[KR,h3,h4,g4,h6] at hb;simp only[aw,ah,aD,aH,ac,ay] at hb
    rcases h5:decide ((k:Int)>=c.next) with _ | _<;>simp only[go_sem,AA _ hk',hk',h3,h4,g4,h5,h6,wrap_i64 (n:=(k:Int)+1) AOl AOl] <;>
     exact AMP
   .rw[KR,h3,h4,g4,h6] at hb;simp only[aw,ah,aD,aH,ac,ay] at hb;rcases h5:decide ((k:Int)>=c.next) with _ | _<;>simp only[go_sem,AA _ hk',hk',h3,h4,g4,h5,h6,<- hb]
 .have hk':k=c.l.length:=by simp at h; omega
  subst hk';rw[aK] at hb;simp only[go_sem,<- hb,KT]
theorem jP (cs:List Int) (c:DChunk) (hc:FD c):Ctr prog 227 [.c (.sl (cs.map intC)),.agg c.c] [.val (.c (.v (.bool (Qk cs c))))]:=by
 rw[CO] at hc;have hl:=hc.1;refine CM call227 func227 ntmps227 results227 fun hw=>?_;unfold Qk;simp only[go_sem];refine AAe 1 (A:=Nat) (fun x=>[(5,.c (.v (.int .i64 (x))))]) (fun _=>[⟨143,2,[c.c],true,true⟩]) (fun x=>x<=c.l.length/\KT cs c.next x (c.l.drop x)=KT cs c.next 0 c.l) (fun x=>c.l.length-x) 0 ⟨⟨rfl,rfl⟩,rfl,aq _,rfl⟩ ?_;rintro k ⟨hk,hb⟩;refine AOd (fun h=>?_) fun h=>?_
 .have hk':k<c.l.length:=by simpa using h
  rw[We _ _ _ hk'] at hb;simp only[go_sem,AA _ hk',hk'];refine AAO _ (Qi c.l[k].ins) fun _=>?_;rcases h3:PG c.l[k].ins with _ | _
  .rw[KR,h3,ac,ac] at hb;simp only[go_sem,h3,<- hb,ay]
  rcases h4:c.l[k].ins==0 with _ | _
  .have g4:(c.l[k].ins != 0)=true:=by simp[bne,h4]
   rcases h5:decide ((k:Int)>=c.next) with _ | _;rotate_left
   .rw[KR,h3,g4,h5] at hb;simp only[aw,aD,ac,ay] at hb;simp only[go_sem,AA _ hk',hk',h3,h4,g4,h5,<- hb,ay]
   simp only[go_sem,AA _ hk',hk',h3,h4,g4,h5];refine AAO _ (QG cs c.l[k].l) fun _=>?_;rcases h6:fits cs c.l[k].l with _ | _
   .rw[KR,h3,h4,g4,h5,h6] at hb;simp only[aw,ah,aD,aH,ac,ay] at hb;simp only[go_sem,h6,<- hb,ay]
   .exact ALu
  .have g4:(c.l[k].ins != 0)=false:=by simp[bne,h4]
   rcases h6:decide ((c.l[k].l.length:Int)>0) with _ | _
   .rw[KR,h3,h4,g4,h6] at hb;simp only[aw,ah,aD,aH,ac,ay] at hb;simp only[go_sem,AA _ hk',hk',h3,h4,g4,h6,wrap_i64 (n:=(k:Int)+1) AOl AOl];exact AMP
   .rw[KR,h3,h4,g4,h6] at hb;simp only[aw,ah,aD,aH,ac,ay] at hb;simp only[go_sem,AA _ hk',hk',h3,h4,g4,h6,<- hb,ay]
 .have hk':k=c.l.length:=by simp at h; omega
  subst hk';rw[aK] at hb;simp only[go_sem,<- hb,KT,aw];refine AAO _ (AP c.l.length 1 4) fun _=>?_;rcases h1:Ae c.l.length 1 4 with _ | _
  .exact AL1
  simp only[go_sem,h1];refine AAO _ (AP c.next 0 c.l.length) fun _=>?_;simp only[go_sem,ah]
def Px (c:DChunk):Bool:=(c.next==0)&&((c.l.length:Int)==0)
noncomputable def gV (cs:List Int) (b:DBuf):Bool:=
 if(b.kind==0)=true then decide (b.gen>=0)&&(Px b.c0&&((b.g.length:Int)==0)) else
 if(b.kind==1)=true then decide (b.gen>=0)&&(Qk cs b.c0&&((b.g.length:Int)==0)) else
 (b.kind==2)&&(decide (b.gen>=0)&&(Px b.c0&&(C_ cs b.g).isSome))
theorem zQ (c:DChunk) (hc:FD c):Ctr prog 248 [.agg c.c,.agg Gp.c] [.val (.c (.v (.bool (Px c))))]:=by
 rw[CO] at hc;have hl:=hc.1;refine CM call248 func248 ntmps248 results248 fun hw=>?_;rcases h1:c.next==0 with _ | _
 .have g1:(c.next != 0)=true:=by simp[bne,h1]
  simp only[go_sem,g1,h1,Gp,Px,ac]
 have g1:(c.next != 0)=false:=AQf;rcases h2:((c.l.length:Int)==0) with _ | _
 .have g2:((c.l.length:Int) != 0)=true:=by simp only[bne,h2,aH]
  simp only[go_sem,g1,h1,g2,h2,Gp,Px,ap,aj,abH,ay]
 have g2:((c.l.length:Int) != 0)=false:=by simp only[bne,h2,aD]
 have hn:c.l = []:=APc;simp only[go_sem,g1,h1,g2,h2,Gp,Px,ap,aj,abH,aw,hn,as_];refine AAe 2 (A:=Unit) (fun _=>[]) (fun _=>[⟨143,2,[[.v (.int .i64 c.next),.sl []]],true,true⟩,⟨143,2,[[.v (.int .i64 0),.sl []]],true,true⟩]) (fun _=>True) (fun _=>0) () ⟨⟨rfl,rfl⟩,rfl,trivial⟩ ?_;intro _ _;simp only[go_sem,Int.lt_irrefl,abJ,av]
theorem gW (c:DChunk) (hc:FD c):Ctr prog 226 [.agg c.c] [.val (.c (.v (.bool (Px c))))]:=by
 refine CM call226 func226 ntmps226 results226 fun hw=>?_;rcases h1:c.next==0 with _ | _
 .simp only[go_sem,h1,Px,ac]
 .simp only[go_sem,h1,Px,ah]
theorem wJ (cs:List Int) (b:DBuf) (hf:Ef b) (hg:Ai b.g):Ctr prog 180 [.c (.sl (cs.map intC)),.agg b.c] [.val (.c (.v (.bool (gV cs b))))]:=by
 rw[GR] at hf;refine CM call180 func180 ntmps180 results180 fun hw=>?_;unfold gV;simp only[go_sem];refine AAO _ (by have:=zQ b.c0 hf.1; simpa only[go_sem,Gp,ap] using this) fun _=>?_;rcases k0:b.kind==0 with _ | _;rotate_left
 .simp only[aO];rcases h1:decide (b.gen>=0) with _ | _
  .simp only[go_sem,k0,h1,ac]
  rcases h2:Px b.c0 with _ | _
  .simp only[go_sem,k0,h1,h2,ac,ah]
  simp only[go_sem,k0,h1,h2,ah]
 simp only[ax,aL];rcases k1:b.kind==1 with _ | _;rotate_left
 .simp only[aO];rcases h1:decide (b.gen>=0) with _ | _
  .simp only[go_sem,k0,k1,h1,ac]
  simp only[go_sem,k0,k1,h1];refine CW (jO cs b.c0 hf.1) fun _=>?_;exact ANy
 simp only[ax,aL];rcases k2:b.kind==2 with _ | _
 .simp only[go_sem,k0,k1,k2,ac]
 simp only[go_sem,k0,k1,k2];refine AAO _ (Ui cs b.g hg hf.2) fun _=>?_;rcases h1:decide (b.gen>=0) with _ | _
 .simp only[go_sem,h1,ac,ay]
 rcases h2:Px b.c0 with _ | _
 .simp only[go_sem,h1,h2,ac,ah,ay]
 simp only[go_sem,h1,h2,ah]
theorem Y0 (cs:List Int) (b:DBuf) (hf:Ef b) (hg:Ai b.g):Ctr prog 148 [.c (.sl (cs.map intC)),.agg b.c] [.val (.c (.v (.bool (gV cs b))))]:=by
 rw[GR] at hf;refine CM call148 func148 ntmps148 results148 fun hw=>?_;unfold gV;rcases k0:b.kind==0 with _ | _;rotate_left
 .simp only[aO];rcases h1:decide (b.gen>=0) with _ | _
  .simp only[go_sem,k0,h1,ac]
  simp only[go_sem,k0,h1];refine CW (gW b.c0 hf.1) fun _=>?_;rcases h2:Px b.c0 with _ | _
  .simp only[go_sem,h2,ac,ah]
  simp only[go_sem,h2,ah]
 simp only[ax,aL];rcases k1:b.kind==1 with _ | _;rotate_left
 .simp only[aO];rcases h1:decide (b.gen>=0) with _ | _
  .simp only[go_sem,k0,k1,h1,ac]
  simp only[go_sem,k0,k1,h1];refine CW (jP cs b.c0 hf.1) fun _=>?_;exact ANy
 simp only[ax,aL];simp only[go_sem,k0,k1];refine AAO _ (bz cs b.g hg hf.2) fun _=>?_;rcases k2:b.kind==2 with _ | _
 .simp only[go_sem,k2,ac]
 rcases h1:decide (b.gen>=0) with _ | _
 .simp only[go_sem,k2,h1,ac,ay]
 simp only[go_sem,k2,h1];refine CW (gW b.c0 hf.1) fun _=>?_;rcases h2:Px b.c0 with _ | _
 .simp only[go_sem,h2,ac,ah,ay]
 simp only[go_sem,h2,ah]
