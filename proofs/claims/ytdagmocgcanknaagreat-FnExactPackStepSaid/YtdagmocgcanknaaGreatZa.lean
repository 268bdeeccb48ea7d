/- A part. -/
import Derived.Test.YtdagmocgcanknaaGreatZx
import Derived.Test.YtdagmocgcanknaaGreatDk
set_option linter.unusedSimpArgs false
set_option linter.unusedVariables false
set_option maxHeartbeats 2000000
set_option maxRecDepth 10000
open Go.Proofs.Tryz
namespace Go.Proofs.YtdagmocgcanknaaGreat
open Go.Vm
attribute [go_sem] aa
theorem Ba {α:Type} {l:List α} {p:α->Bool} {k:Nat} (hk:k<l.length) (h:p l[k]=false):l.all p=false:=by rw[abk];intro h2;have:=aC.1 h2 _ (an hk);rw[h] at this; cases this
theorem AF2 {α:Type} {l:List α} {p:α->Bool} (h:∀ i (hi:i<l.length),i<l.length->p l[i]=true):l.all p=true:=aC.2 fun x hx=>by obtain⟨i,hi,rfl⟩:=abt.1 hx;exact h i hi hi
theorem AHp {α:Type} {l:List α} {p:α->Bool} {k:Nat} (hk:k<l.length) (hall:∀ i (h:i<l.length),i<k->p l[i]=true) (hc:p l[k]=true):k+1<=l.length/\∀ i (h:i<l.length),i<k+1->p l[i]=true:=⟨hk,fun i h2 h3=>by
 by_cases e:i=k
 .subst e; exact hc
 .exact hall i h2 AOl⟩
def FW {α:Type} (l:List α) (p:α->Bool) (k:Nat):Prop:=k<=l.length/\∀ i (h:i<l.length),i<k->p l[i]=true
theorem D9 {α:Type} {l:List α} {p:α->Bool}:FW l p 0:=⟨aq _,fun _ _ h=>AOl⟩
theorem CB {α:Type} {l:List α} {p:α->Bool} {k:Nat} (hk:k<l.length) (h:FW l p k) (hc:p l[k]=true):FW l p (k+1):=AHp hk h.2 hc
theorem DX {α:Type} {l:List α} {p:α->Bool} (h:FW l p l.length):l.all p=true:=AF2 h.2
def OG (c:DConf):Bool:=FX c.cols&&(Ae c.slots 1 4&&Ae c.bufs 1 8)
theorem WU (c:DConf):Ctr prog 86 [.agg c.c] [.val (.c (.v (.bool (OG c))))]:=by
 refine CM call86 func86 ntmps86 results86 fun hw=>?_;simp only[go_sem];refine AAO _ (QJ c.cols) fun _=>?_;rcases h1:FX c.cols with _ | _
 .simp only[go_sem,OG,h1,ac]
 simp only[go_sem,h1];refine AAO _ (AL c.slots 1 4) fun _=>?_;rcases h2:Ae c.slots 1 4 with _ | _
 .simp only[go_sem,OG,h1,h2,ac,ah]
 simp only[go_sem,h1,h2];refine AAO _ (AL c.bufs 1 8) fun _=>?_;simp only[go_sem,OG,h1,h2,ah]
theorem WV (c:DConf):Ctr prog 62 [.agg c.c] [.val (.c (.v (.bool (OG c))))]:=by
 refine CM call62 func62 ntmps62 results62 fun hw=>?_;simp only[go_sem];refine AAO _ (QI c.cols) fun _=>?_;rcases h1:FX c.cols with _ | _
 .simp only[go_sem,OG,h1,ac]
 simp only[go_sem,h1];refine AAO _ (AP c.slots 1 4) fun _=>?_;rcases h2:Ae c.slots 1 4 with _ | _
 .simp only[go_sem,OG,h1,h2,ac,ah]
 simp only[go_sem,h1,h2];refine AAO _ (AP c.bufs 1 8) fun _=>?_;simp only[go_sem,OG,h1,h2,ah]
def PG (n:Int):Bool:=decide (n >= -1)
theorem WW (n:Int):Ctr prog 181 [.c (.v (.int .i64 (n)))] [.val (.c (.v (.bool (PG n))))]:=by refine CM call181 func181 ntmps181 results181 fun hw=>?_;simp only[go_sem,PG]
theorem Qi (n:Int):Ctr prog 152 [.c (.v (.int .i64 (n)))] [.val (.c (.v (.bool (PG n))))]:=by refine CM call152 func152 ntmps152 results152 fun hw=>?_;simp only[go_sem,PG]
def SL (e p:Int):Bool:=!((p != -1) && !Ae p 0 e)
def PH (l:List Int) (e:Int):Bool:=l.all (SL e)
theorem WX (l:List Int) (e:Int) (hl:l.length<=1048576):Ctr prog 93 [.c (.sl (l.map intC)),.c (.v (.int .i64 (e)))] [.val (.c (.v (.bool (PH l e))))]:=by
 refine CM call93 func93 ntmps93 results93 fun hw=>?_;simp only[go_sem];refine AAe 0 (A:=Nat) (fun x=>[(9,.c (.v (.int .i64 (x))))]) (fun _=>[]) (FW l (SL e)) (fun x=>l.length-x) 0 ⟨⟨rfl,rfl⟩,rfl,D9⟩ ?_;intro k hk;refine AOd (fun h=>?_) fun h=>?_
 .have hk':k<l.length:=by simpa using h
  rcases h1:l[k] != -1 with _ | _
  .exact AMQ
  simp only[go_sem,AA _ hk',hk',h1];refine AAO _ (AL l[k] 0 e) fun _=>?_;exact ALQ
 .exact ANi
theorem WY (l:List Int) (e:Int) (hl:l.length<=1048576):Ctr prog 64 [.c (.sl (l.map intC)),.c (.v (.int .i64 (e)))] [.val (.c (.v (.bool (PH l e))))]:=by
 refine CM call64 func64 ntmps64 results64 fun hw=>?_;simp only[go_sem];refine AAe 0 (A:=Nat) (fun x=>[(5,.c (.v (.int .i64 (x))))]) (fun _=>[]) (FW l (SL e)) (fun x=>l.length-x) 0 ⟨⟨rfl,rfl⟩,rfl,D9⟩ ?_;intro k hk;refine AOd (fun h=>?_) fun h=>?_
 .have hk':k<l.length:=by simpa using h
  rcases h1:l[k] != -1 with _ | _
  .exact AMQ
  simp only[go_sem,AA _ hk',hk',h1];refine AAO _ (AP l[k] 0 e) fun _=>?_;exact ALQ
 .exact ANi
def endOf (d:DDir):Int:=match d.l.getLast? with
 | none=>0
 | some r=>IntKind.i64.wrap (r.first+r.many)
theorem lL {d:DDir} (h:d.l = []):endOf d=0:=by simp[endOf,h]
theorem wI {d:DDir} {k:Nat} (h:d.l.length=k+1):∃ hk:k<d.l.length,endOf d=IntKind.i64.wrap (d.l[k].first+d.l[k].many):=by have hk:k<d.l.length:=AOl;refine⟨hk, ?_⟩;unfold endOf;rw[List.getLast?_eq_getElem?,h,show k+1-1=k from rfl,am hk]
theorem Ov (d:DDir) (hl:d.l.length<=1048576):Ctr prog 182 [.agg d.c] [.val (.c (.v (.int .i64 (endOf d))))]:=by refine CM call182 func182 ntmps182 results182 fun hw=>?_;exact AKi
theorem Ox (d:DDir) (hl:d.l.length<=1048576):Ctr prog 153 [.agg d.c] [.val (.c (.v (.int .i64 (endOf d))))]:=by refine CM call153 func153 ntmps153 results153 fun hw=>?_;exact AKi
def Eh (r:DRef):Bool:=decide (r.buf>=0)&&(decide (r.gen>=0)&&(Ae r.kind 1 2&&Ae r.many 1 1000000000))
theorem AHq (n:Int):((n==1)||(n==2))=Ae n 1 2:=by
 simp only[Ae];rcases h1:n==1 with _ | _
 .rcases h2:n==2 with _ | _
  .simp at h1 h2 ⊢;omega
  .simp at h2 ⊢;omega
 .simp at h1 ⊢;omega
theorem SN (r:DRef):Ctr prog 178 [.agg r.c] [.val (.c (.v (.bool (Eh r))))]:=by
 refine CM call178 func178 ntmps178 results178 fun hw=>?_;rcases h1:decide (r.buf>=0) with _ | _
 .simp only[go_sem,h1,Eh,ac]
 rcases h2:decide (r.gen>=0) with _ | _
 .simp only[go_sem,h1,h2,Eh,ac,ah]
 have e:=AHq r.kind;rcases h3:r.kind==1 with _ | _
 .rcases h4:r.kind==2 with _ | _
  .rw[h3,h4] at e;simp only[go_sem,h1,h2,h3,h4,Eh,<- e,ac,ah,abD]
  .rw[h3,h4] at e;simp only[go_sem,h1,h2,h3,h4];refine AAO _ (AL r.many 1 1000000000) fun _=>?_;simp only[go_sem,Eh,h1,h2,<- e,ah,Bool.or_true]
 .rw[h3,P7] at e;simp only[go_sem,h1,h2,h3];refine AAO _ (AL r.many 1 1000000000) fun _=>?_;simp only[go_sem,Eh,h1,h2,<- e,ah]
theorem SQ (r:DRef):Ctr prog 146 [.agg r.c] [.val (.c (.v (.bool (Eh r))))]:=by
 refine CM call146 func146 ntmps146 results146 fun hw=>?_;rcases h1:decide (r.buf>=0) with _ | _
 .simp only[go_sem,h1,Eh,ac]
 rcases h2:decide (r.gen>=0) with _ | _
 .simp only[go_sem,h1,h2,Eh,ac,ah]
 simp only[go_sem,h1,h2];refine AAO _ (AP r.kind 1 2) fun _=>?_;rcases h3:Ae r.kind 1 2 with _ | _
 .simp only[go_sem,h1,h2,h3,Eh,ac,ah]
 have e:Ae r.many 1 1000000000=(decide (r.many>=1)&&decide (r.many<=1000000000)):=rfl;rcases h4:decide (r.many>=1) with _ | _
 .simp only[go_sem,h1,h2,h3,h4,Eh,e,ac,ah]
 .simp only[go_sem,h1,h2,h3,h4,Eh,e,ah]
def FC (l:List DRef) (n:Int):Bool:=l.any fun r=>r.buf==n
theorem qF {α:Type} {l:List α} {p:α->Bool} {k:Nat} (hk:k<l.length) (h:p l[k]=true):l.any p=true:=List.any_eq_true.2 ⟨_,an hk,h⟩
theorem zO {α:Type} {l:List α} {p:α->Bool} (h:FW l (fun x=>!p x) l.length):l.any p=false:=by rw[abk];intro h2;obtain⟨x,hx,hp⟩:=List.any_eq_true.1 h2;obtain⟨i,hi,rfl⟩:=abt.1 hx;have:=h.2 i hi hi;simp[hp] at this
theorem qG (d:DDir) (n:Int) (hl:d.l.length<=1048576):Ctr prog 179 [.agg d.c,.c (.v (.int .i64 (n)))] [.val (.c (.v (.bool (FC d.l n))))]:=by refine CM call179 func179 ntmps179 results179 fun hw=>?_;simp only[go_sem];refine AAe 1 (A:=Nat) (fun x=>[(10,.c (.v (.int .i64 (x))))]) (fun _=>[⟨38,2,[d.c],true,true⟩]) (FW d.l fun r=>!(r.buf==n)) (fun x=>d.l.length-x) 0 ⟨⟨rfl,rfl⟩,rfl,D9⟩ ?_;exact AJ_
theorem WZ (d:DDir) (n:Int) (hl:d.l.length<=1048576):Ctr prog 149 [.agg d.c,.c (.v (.int .i64 (n)))] [.val (.c (.v (.bool (FC d.l n))))]:=by refine CM call149 func149 ntmps149 results149 fun hw=>?_;simp only[go_sem];refine AAe 1 (A:=Nat) (fun x=>[(5,.c (.v (.int .i64 (x))))]) (fun _=>[⟨38,2,[d.c],true,true⟩]) (FW d.l fun r=>!(r.buf==n)) (fun x=>d.l.length-x) 0 ⟨⟨rfl,rfl⟩,rfl,D9⟩ ?_;exact AJ_
