/- A part. -/
import Derived.Test.YtdagmocgcanknaaGreatRd
set_option linter.unusedSimpArgs false
set_option linter.unusedVariables false
open Go.Proofs.Tryz
namespace Go.Proofs.YtdagmocgcanknaaGreat
open Go.Vm Go.ChangeShapes Go.WideShapes Go.ChangeAt Go.RowKit
section
variable {p q r:Prop}
theorem AQv(h:p:=by kernel_rfl):p:=h
end
theorem AGr:ownKnob prog.godebug=none:=AQv
theorem AAG:laidOutB prog=true:=AQv
theorem AGs:(Rows.fnExactPackStepRow.inPlace==prog.inPlace 3)=true:=AQv
theorem AGt:(Rows.fnExactPackStepRow.unfollowed==prog.unfollowed 3)=true:=AQv
theorem AGu:(Rows.fnExactPackStepRow.recurses==prog.recurses 3)=true:=AQv
theorem AGv:(Rows.fnExactPackStepRow.named==prog.varsNamed 3)=true:=AQv
theorem AGw:(Rows.fnExactPackStepRow.plainKeys==prog.plainKeys)=true:=AQv
theorem AIk:joinedFacts prog 3 f3 Rows.fnExactPackStepSpec Rows.fnExactPackStepRow=true:=by unfold joinedFacts;rw[AGs,AGt,AGu,AGv,AGw];kernel_rfl
