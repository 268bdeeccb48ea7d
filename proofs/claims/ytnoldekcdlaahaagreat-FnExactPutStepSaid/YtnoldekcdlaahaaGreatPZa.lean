/- A part. -/
import Derived.Test.YtnoldekcdlaahaaGreatPZx
import Derived.Test.YtnoldekcdlaahaaGreatPDk
set_option linter.unusedSimpArgs false
set_option linter.unusedVariables false
set_option maxHeartbeats 2000000
set_option maxRecDepth 10000
open Go.Proofs.Tryz
namespace Go.Proofs.YtnoldekcdlaahaaGreat
open Go.Vm
attribute [go_sem] ae
theorem BU {α:Type} {l:List α} {p:α→Bool} {k:Nat} (hk:k<l.length) (h:p l[k]=false):l.all p=false:=by
 rw[Bool.eq_false_iff]
 intro h2
 have:=aJ.1 h2 _ (ax hk)
 rw[h] at this; cases this
theorem AFz {α:Type} {l:List α} {p:α→Bool} (h:∀ i (hi:i<l.length),i<l.length→p l[i]=true):l.all p=true:=aJ.2 fun x hx=>by
 obtain⟨i,hi,rfl⟩:=List.mem_iff_getElem.1 hx
 exact h i hi hi
theorem AHq {α:Type} {l:List α} {p:α→Bool} {k:Nat} (hk:k<l.length) (hall:∀ i (h:i<l.length),i<k→p l[i]=true) (hc:p l[k]=true):k+1≤l.length∧∀ i (h:i<l.length),i<k+1→p l[i]=true:=⟨hk,fun i h2 h3=>by
 by_cases e:i=k
 ·subst e; exact hc
 ·exact hall i h2 AOQ⟩
def FC {α:Type} (l:List α) (p:α→Bool) (k:Nat):Prop:=k≤l.length∧∀ i (h:i<l.length),i<k→p l[i]=true
theorem DZ {α:Type} {l:List α} {p:α→Bool}:FC l p 0:=⟨aA _,fun _ _ h=>AOQ⟩
theorem BH {α:Type} {l:List α} {p:α→Bool} {k:Nat} (hk:k<l.length) (h:FC l p k) (hc:p l[k]=true):FC l p (k+1):=AHq hk h.2 hc
theorem DN {α:Type} {l:List α} {p:α→Bool} (h:FC l p l.length):l.all p=true:=AFz h.2
def L8 (c:DConf):Bool:=FT c.cols&&(Ad c.slots 1 4&&Ad c.bufs 1 8)
theorem Vt (c:DConf):Ctr prog 102 [.agg c.c] [.val (.c (.v (.bool (L8 c))))]:=by
 refine CM call102 func102 ntmps102 results102 fun hw=>?_
 simp only[go_sem]
 refine AAM _ (PK c.cols) fun _=>?_
 rcases h1:FT c.cols with _ | _
 ·simp only[go_sem,L8,h1,ag]
 simp only[go_sem,h1]
 refine AAM _ (AL c.slots 1 4) fun _=>?_
 rcases h2:Ad c.slots 1 4 with _ | _
 ·simp only[go_sem,L8,h1,h2,ag,aj]
 simp only[go_sem,h1,h2]
 refine AAM _ (AL c.bufs 1 8) fun _=>?_
 simp only[go_sem,L8,h1,h2,aj]
theorem Vu (c:DConf):Ctr prog 82 [.agg c.c] [.val (.c (.v (.bool (L8 c))))]:=by
 refine CM call82 func82 ntmps82 results82 fun hw=>?_
 simp only[go_sem]
 refine AAM _ (PI c.cols) fun _=>?_
 rcases h1:FT c.cols with _ | _
 ·simp only[go_sem,L8,h1,ag]
 simp only[go_sem,h1]
 refine AAM _ (AO c.slots 1 4) fun _=>?_
 rcases h2:Ad c.slots 1 4 with _ | _
 ·simp only[go_sem,L8,h1,h2,ag,aj]
 simp only[go_sem,h1,h2]
 refine AAM _ (AO c.bufs 1 8) fun _=>?_
 simp only[go_sem,L8,h1,h2,aj]
def OX (n:Int):Bool:=decide (n ≥ -1)
theorem Vw (n:Int):Ctr prog 222 [.c (.v (.int .i64 (n)))] [.val (.c (.v (.bool (OX n))))]:=by
 refine CM call222 func222 ntmps222 results222 fun hw=>?_
 simp only[go_sem,OX]
theorem P8 (n:Int):Ctr prog 197 [.c (.v (.int .i64 (n)))] [.val (.c (.v (.bool (OX n))))]:=by
 refine CM call197 func197 ntmps197 results197 fun hw=>?_
 simp only[go_sem,OX]
def RI (e p:Int):Bool:=!((p != -1) && !Ad p 0 e)
def OY (l:List Int) (e:Int):Bool:=l.all (RI e)
theorem Vx (l:List Int) (e:Int) (hl:l.length≤1048576):Ctr prog 108 [.c (.sl (l.map intC)),.c (.v (.int .i64 (e)))] [.val (.c (.v (.bool (OY l e))))]:=by
 refine CM call108 func108 ntmps108 results108 fun hw=>?_
 simp only[go_sem]
 refine ABK 0 (A:=Nat) (fun x=>[(9,.c (.v (.int .i64 (x))))]) (fun _=>[]) (FC l (RI e)) (fun x=>l.length-x) 0 ⟨⟨rfl,rfl⟩,rfl,DZ⟩ ?_
 intro k hk
 refine AOJ (fun h=>?_) fun h=>?_
 ·have hk':k<l.length:=by simpa using h
  rcases h1:l[k] != -1 with _ | _
  ·exact AMH
  simp only[go_sem,AA _ hk',hk',h1]
  refine AAM _ (AL l[k] 0 e) fun _=>?_
  exact ALK
 ·exact ANU
theorem Vy (l:List Int) (e:Int) (hl:l.length≤1048576):Ctr prog 84 [.c (.sl (l.map intC)),.c (.v (.int .i64 (e)))] [.val (.c (.v (.bool (OY l e))))]:=by
 refine CM call84 func84 ntmps84 results84 fun hw=>?_
 simp only[go_sem]
 refine ABK 0 (A:=Nat) (fun x=>[(5,.c (.v (.int .i64 (x))))]) (fun _=>[]) (FC l (RI e)) (fun x=>l.length-x) 0 ⟨⟨rfl,rfl⟩,rfl,DZ⟩ ?_
 intro k hk
 refine AOJ (fun h=>?_) fun h=>?_
 ·have hk':k<l.length:=by simpa using h
  rcases h1:l[k] != -1 with _ | _
  ·exact AMH
  simp only[go_sem,AA _ hk',hk',h1]
  refine AAM _ (AO l[k] 0 e) fun _=>?_
  exact ALK
 ·exact ANU
def endOf (d:DDir):Int:=match d.l.getLast? with
 | none=>0
 | some r=>IntKind.i64.wrap (r.first+r.many)
theorem kQ {d:DDir} (h:d.l = []):endOf d=0:=by simp[endOf,h]
theorem vS {d:DDir} {k:Nat} (h:d.l.length=k+1):∃ hk:k<d.l.length,endOf d=IntKind.i64.wrap (d.l[k].first+d.l[k].many):=by
 have hk:k<d.l.length:=AOQ
 refine⟨hk, ?_⟩
 unfold endOf
 rw[List.getLast?_eq_getElem?,h,show k+1-1=k from rfl,au hk]
theorem RJ (d:DDir) (hl:d.l.length≤1048576):Ctr prog 223 [.agg d.c] [.val (.c (.v (.int .i64 (endOf d))))]:=by
 refine CM call223 func223 ntmps223 results223 fun hw=>?_
 exact AKA
theorem RN (d:DDir) (hl:d.l.length≤1048576):Ctr prog 198 [.agg d.c] [.val (.c (.v (.int .i64 (endOf d))))]:=by
 refine CM call198 func198 ntmps198 results198 fun hw=>?_
 exact AKA
def Ef (r:DRef):Bool:=decide (r.buf≥0)&&(decide (r.gen≥0)&&(Ad r.kind 1 2&&Ad r.many 1 1000000000))
theorem AHr (n:Int):((n==1)||(n==2))=Ad n 1 2:=by
 simp only[Ad]
 rcases h1:n==1 with _ | _
 ·rcases h2:n==2 with _ | _
  ·simp at h1 h2 ⊢
   omega
  ·simp at h2 ⊢
   omega
 ·simp at h1 ⊢
  omega
theorem RP (r:DRef):Ctr prog 219 [.agg r.c] [.val (.c (.v (.bool (Ef r))))]:=by
 refine CM call219 func219 ntmps219 results219 fun hw=>?_
 rcases h1:decide (r.buf≥0) with _ | _
 ·simp only[go_sem,h1,Ef,ag]
 rcases h2:decide (r.gen≥0) with _ | _
 ·simp only[go_sem,h1,h2,Ef,ag,aj]
 have e:=AHr r.kind
 rcases h3:r.kind==1 with _ | _
 ·rcases h4:r.kind==2 with _ | _
  ·rw[h3,h4] at e
   simp only[go_sem,h1,h2,h3,h4,Ef,← e,ag,aj,abC]
  ·rw[h3,h4] at e
   simp only[go_sem,h1,h2,h3,h4]
   refine AAM _ (AL r.many 1 1000000000) fun _=>?_
   simp only[go_sem,Ef,h1,h2,← e,aj,Bool.or_true]
 ·rw[h3,dh] at e
  simp only[go_sem,h1,h2,h3]
  refine AAM _ (AL r.many 1 1000000000) fun _=>?_
  simp only[go_sem,Ef,h1,h2,← e,aj]
theorem RQ (r:DRef):Ctr prog 191 [.agg r.c] [.val (.c (.v (.bool (Ef r))))]:=by
 refine CM call191 func191 ntmps191 results191 fun hw=>?_
 rcases h1:decide (r.buf≥0) with _ | _
 ·simp only[go_sem,h1,Ef,ag]
 rcases h2:decide (r.gen≥0) with _ | _
 ·simp only[go_sem,h1,h2,Ef,ag,aj]
 simp only[go_sem,h1,h2]
 refine AAM _ (AO r.kind 1 2) fun _=>?_
 rcases h3:Ad r.kind 1 2 with _ | _
 ·simp only[go_sem,h1,h2,h3,Ef,ag,aj]
 have e:Ad r.many 1 1000000000=(decide (r.many≥1)&&decide (r.many≤1000000000)):=rfl
 rcases h4:decide (r.many≥1) with _ | _
 ·simp only[go_sem,h1,h2,h3,h4,Ef,e,ag,aj]
 ·simp only[go_sem,h1,h2,h3,h4,Ef,e,aj]
def E5 (l:List DRef) (n:Int):Bool:=l.any fun r=>r.buf==n
theorem pG {α:Type} {l:List α} {p:α→Bool} {k:Nat} (hk:k<l.length) (h:p l[k]=true):l.any p=true:=List.any_eq_true.2 ⟨_,ax hk,h⟩
theorem y9 {α:Type} {l:List α} {p:α→Bool} (h:FC l (fun x=>!p x) l.length):l.any p=false:=by
 rw[Bool.eq_false_iff]
 intro h2
 obtain⟨x,hx,hp⟩:=List.any_eq_true.1 h2
 obtain⟨i,hi,rfl⟩:=List.mem_iff_getElem.1 hx
 have:=h.2 i hi hi
 simp[hp] at this
theorem pI (d:DDir) (n:Int) (hl:d.l.length≤1048576):Ctr prog 220 [.agg d.c,.c (.v (.int .i64 (n)))] [.val (.c (.v (.bool (E5 d.l n))))]:=by
 refine CM call220 func220 ntmps220 results220 fun hw=>?_
 simp only[go_sem]
 refine ABK 1 (A:=Nat) (fun x=>[(10,.c (.v (.int .i64 (x))))]) (fun _=>[⟨38,2,[d.c],true,true⟩]) (FC d.l fun r=>!(r.buf==n)) (fun x=>d.l.length-x) 0 ⟨⟨rfl,rfl⟩,rfl,DZ⟩ ?_
 exact AI7
theorem Vz (d:DDir) (n:Int) (hl:d.l.length≤1048576):Ctr prog 194 [.agg d.c,.c (.v (.int .i64 (n)))] [.val (.c (.v (.bool (E5 d.l n))))]:=by
 refine CM call194 func194 ntmps194 results194 fun hw=>?_
 simp only[go_sem]
 refine ABK 1 (A:=Nat) (fun x=>[(5,.c (.v (.int .i64 (x))))]) (fun _=>[⟨38,2,[d.c],true,true⟩]) (FC d.l fun r=>!(r.buf==n)) (fun x=>d.l.length-x) 0 ⟨⟨rfl,rfl⟩,rfl,DZ⟩ ?_
 exact AI7
end Go.Proofs.YtnoldekcdlaahaaGreat
