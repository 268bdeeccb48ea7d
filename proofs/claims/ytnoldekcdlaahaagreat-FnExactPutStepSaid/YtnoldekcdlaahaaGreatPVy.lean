/- A part. -/
import Derived.Test.YtnoldekcdlaahaaGreatPRd
set_option linter.unusedSimpArgs false
set_option linter.unusedVariables false
open Go.Proofs.Tryz
namespace Go.Proofs.YtnoldekcdlaahaaGreat
open Go.Vm Go.ChangeShapes Go.WideShapes Go.ChangeAt Go.RowKit
section
variable {p q r:Prop}
theorem AQC(h:p:=by kernel_rfl):p:=h
end
theorem AHc:ownKnob prog.godebug=none:=AQC
theorem AAQ:laidOutB prog=true:=AQC
theorem AHd:(Rows.fnExactPutStepRow.inPlace==prog.inPlace 4)=true:=AQC
theorem AHe:(Rows.fnExactPutStepRow.unfollowed==prog.unfollowed 4)=true:=AQC
theorem AHf:(Rows.fnExactPutStepRow.recurses==prog.recurses 4)=true:=AQC
theorem AHg:(Rows.fnExactPutStepRow.named==prog.varsNamed 4)=true:=AQC
theorem AHh:(Rows.fnExactPutStepRow.plainKeys==prog.plainKeys)=true:=AQC
theorem AJm:joinedFacts prog 4 f4 Rows.fnExactPutStepSpec Rows.fnExactPutStepRow=true:=by
 unfold joinedFacts
 rw[AHd,AHe,AHf,AHg,AHh]
 kernel_rfl
end Go.Proofs.YtnoldekcdlaahaaGreat
