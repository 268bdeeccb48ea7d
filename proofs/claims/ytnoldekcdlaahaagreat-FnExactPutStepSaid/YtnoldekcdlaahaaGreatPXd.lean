/- A part. -/
import Derived.Test.YtnoldekcdlaahaaGreatPXa
import Derived.Test.YtnoldekcdlaahaaGreatPZx
set_option linter.unusedSimpArgs false
set_option linter.unusedVariables false
set_option maxHeartbeats 2000000
set_option maxRecDepth 10000
namespace Go.Proofs.YtnoldekcdlaahaaGreat
open Go.Vm
@[go_sem] theorem AId {n:Nat} {d:Departure}:Region.binds .any ⟨n,.textOnly d⟩=false:=rfl
@[go_sem] theorem AJo {n:Nat} {d:Departure}:Region.binds .any ⟨n,.gcOnly d⟩=false:=rfl
theorem Q9 {cs b:List Int} {l:List DRow} (h:DJ cs b=some l):Du cs l=true:=by
 unfold DJ at h
 split at h
 ·cases h
 ·split at h
  ·split at h
   ·cases h
   ·split at h
    ·rename_i h2
     cases h
     exact h2.2
    ·cases h
  ·cases h
theorem Yw (w:DWorld) (r:DRef):(Ej w r).length≤12:=by
 unfold Ej
 split
 ·simp
 ·rename_i b hb
  rcases h:DJ w.c0.cols b.g with _ | l
  ·simp
  ·simp only[aH]
   exact(Si (Q9 h)).2.1

theorem dS:∀ (cs:List Int) (vs:List DVal),fits cs vs=true→vs.length=cs.length∧∀ v∈vs,BQ v=true
 | [],[],_=>⟨rfl,fun v hv=>by cases hv⟩
 | [],_::_,h=>by simp[fits] at h
 | _::_,[],h=>by simp[fits] at h
 | c::cs,v::vs,h=>by
  simp only[fits,ay] at h
  obtain⟨h1,h2⟩:=dS cs vs h.2
  refine⟨by simp[h1],fun x hx=>?_⟩
  rcases SK.1 hx with rfl | hx
  ·exact h.1.1
  ·exact h2 x hx
theorem AAX (w:DWorld) (r:DRef):fitS Hf (Ej w r):=by
 unfold Ej
 split
 ·exact⟨aA _,fun x hx=>by cases hx⟩
 ·rename_i b hb
  rcases h:DJ w.c0.cols b.g with _ | l
  ·exact⟨aA _,fun x hx=>by cases hx⟩
  ·obtain⟨h1,h2,h3⟩:=Si (Q9 h)
   refine⟨by simp only[aH]; omega,fun x hx=>?_⟩
   obtain⟨q1,q2⟩:=dS _ _ (h3 x hx).2.2
   rw[JW]
   refine⟨AOQ,fun v hv=>?_⟩
   have:=UK (q2 v hv)
   rw[Rz]; omega
end Go.Proofs.YtnoldekcdlaahaaGreat
