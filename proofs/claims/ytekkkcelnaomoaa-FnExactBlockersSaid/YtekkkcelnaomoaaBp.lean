/- PROVED: laws.FnExactBlockers returns true for every input, and each argument reads behind the call as it read before. No condition. -/
import Derived.Test.YtekkkcelnaomoaaBl
import Derived.Test.YtekkkcelnaomoaaRd
namespace Go.Proofs.Ytekkkcelnaomoaa
set_option linter.unusedSimpArgs false
set_option linter.unusedVariables false
open Go.Vm Go.ChangeShapes Go.WideShapes Go.ChangeAt Go.RowKit

theorem own_Bp : ownKnob Try.prog.godebug = none := by kernel_rfl
theorem laid_Bp : laidOutB Try.prog = true := by kernel_rfl

set_option maxRecDepth 100000 in
theorem fnExactBlockers_lifted (os : Os) (started : os.Started) (H : Type) (enc : TypeId × Value → H) :
    ReturnsInHanded {} Try.checked os 3 .any (Rows.fnExactBlockersSpec.pre6 enc Try.prog Try.f3 Rows.fnExactBlockersRow.domain false) (Rows.fnExactBlockersSpec.post enc Try.prog Try.f3 false true false false) := by
  refine returnsInHanded_of_change (C := Try.checked) own_Bp started (by kernel_rfl) Try.func3
    (ChangeSpec.witness6 (enc := enc) (C := Try.checked) false ⟨#[], #[.agg #[.slice none 0 0, .int .i64 0, .int .i64 0, .int .i64 0, .int .i64 0, .int .i64 0, .int .i64 0, .slice none 0 0, .slice none 0 0, .slice none 0 0, .slice none 0 0, .slice none 0 0, .slice none 0 0, .slice none 0 0]], []⟩ 8 (by kernel_rfl) (by kernel_rfl) (by kernel_rfl) (by kernel_rfl)) ?_
  intro W base args ds gs before hval0 hW hcnd _
  have hval : ∀ (j : Nat) t v, Try.f3.params[j]? = some t → args[j]? = some v → Value.okWide Try.prog W .any base t v := hval0
  have hlt := hW.lt
  have hW' := hW
  obtain ⟨p, q, hA0, hV, rfl, hfz, hnd⟩ := hW
  have hA : DataW.TrodAll enc Try.prog W 0 (fun _ => true) true Try.f3.params.toList args.toList ds p := hA0
  rw [Try.params3] at hA hval
  obtain ⟨v0, d0, rfl, rfl, h0⟩ := trodAll_one hA
  obtain ⟨rfl, rfl⟩ := trodVars_none hV
  simp only [List.append_nil] at hlt hW'
  obtain ⟨us0, rfl, _⟩ := okWide_struct Try.underlying33 (hval 0 33 v0 rfl rfl)
  obtain ⟨fu0, h0'⟩ := h0
  obtain ⟨x0, hx0⟩ := rd_World fu0 _ _ h0'
  refine ((lawBlockers_spec x0).2 W (Old W) [.agg us0] (fun _ _ h => h.lt) ⟨_, _, rfl, hx0.agg, rfl⟩).mono ?_
  rintro e W' ⟨vs, bs, St', hb⟩
  obtain ⟨Φs, hres, _⟩ := hb.res
  obtain ⟨u, us', b, bs', Φ, Φs', rfl, rfl, rfl, ⟨hu, rfl⟩, rfl, rfl, rfl⟩ := hres
  obtain ⟨rfl, _⟩ := hu
  exact ⟨_, hb.ret, _, _, _, [], _, [], hW', trodAll_mk1 (shut_bool Try.underlying4 true), trodAll_mk1 (Below.trod laid_Bp (by kernel_rfl) (of_decide_eq_true (by kernel_rfl)) ⟨fu0, h0'⟩ hb.below fun x hx => hlt x (by simp [hx])), rfl, Below.frame hb.below _, fun h => by cases h⟩

theorem fnExactBlockers_holds : Rows.FnExactBlockersSaid :=
  OpenClaim.holds_of_wide 3 Try.f3 rfl rfl rfl rfl rfl rfl rfl ⟨rfl, rfl, rfl, rfl, rfl⟩ rfl rfl rfl rfl rfl (by kernel_rfl) Try.func3 (by kernel_rfl)
    (of_decide_eq_true (by kernel_rfl)) (by unfold Func.isWrapper; first | (rw [if_pos (by decide +kernel)]; kernel_rfl) | (rw [if_neg (by decide +kernel)]; exact ⟨rfl, rfl⟩))
    (fun os started H enc _ => fnExactBlockers_lifted os started H enc)

end Go.Proofs.Ytekkkcelnaomoaa
