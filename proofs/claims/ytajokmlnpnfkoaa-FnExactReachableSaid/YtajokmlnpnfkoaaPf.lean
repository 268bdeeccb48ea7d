/- PROVED: laws.FnExactReachable returns true for every input, and each argument reads behind the call as it read before. No condition. -/
import Derived.Test.YtajokmlnpnfkoaaRa
import Derived.Test.YtajokmlnpnfkoaaRd
namespace Go.Proofs.Ytajokmlnpnfkoaa
set_option linter.unusedSimpArgs false
set_option linter.unusedVariables false
open Go.Vm Go.ChangeShapes Go.WideShapes Go.ChangeAt Go.RowKit

theorem own_Pf : ownKnob Try.prog.godebug = none := by kernel_rfl
theorem laid_Pf : laidOutB Try.prog = true := by kernel_rfl

set_option maxRecDepth 100000 in
theorem fnExactReachable_lifted (os : Os) (started : os.Started) (H : Type) (enc : TypeId × Value → H) :
    ReturnsInHanded {} Try.checked os 8 .any (Rows.fnExactReachableSpec.pre6 enc Try.prog Try.f8 Rows.fnExactReachableRow.domain false) (Rows.fnExactReachableSpec.post enc Try.prog Try.f8 false true false false) := by
  refine returnsInHanded_of_change (C := Try.checked) own_Pf started (by kernel_rfl) Try.func8
    (ChangeSpec.witness6 (enc := enc) (C := Try.checked) false ⟨#[], #[.agg #[.slice none 0 0, .int .i64 0, .int .i64 0, .int .i64 0, .int .i64 0, .int .i64 0, .int .i64 0, .slice none 0 0, .slice none 0 0, .slice none 0 0, .slice none 0 0, .slice none 0 0, .slice none 0 0, .slice none 0 0], .int .i64 0], []⟩ 8 (by kernel_rfl) (by kernel_rfl) (by kernel_rfl) (by kernel_rfl)) ?_
  intro W base args ds gs before hval0 hW hcnd _
  have hval : ∀ (j : Nat) t v, Try.f8.params[j]? = some t → args[j]? = some v → Value.okWide Try.prog W .any base t v := hval0
  have hlt := hW.lt
  have hW' := hW
  obtain ⟨p, q, hA0, hV, rfl, hfz, hnd⟩ := hW
  have hA : DataW.TrodAll enc Try.prog W 0 (fun _ => true) true Try.f8.params.toList args.toList ds p := hA0
  rw [Try.params8] at hA hval
  obtain ⟨v0, v1, d0, d1, p0, p1, rfl, rfl, rfl, h0, h1⟩ := trodAll_two hA
  obtain ⟨rfl, rfl⟩ := trodVars_none hV
  simp only [List.append_nil] at hlt hW'
  obtain ⟨us0, rfl, _⟩ := okWide_struct Try.underlying33 (hval 0 33 v0 rfl rfl)
  obtain ⟨fu0, h0'⟩ := h0
  obtain ⟨x0, hx0⟩ := rd_World fu0 _ _ h0'
  obtain ⟨n1, rfl⟩ := okWide_int Try.underlying3 (hval 1 3 v1 rfl rfl)
  obtain ⟨fu1, h1'⟩ := h1
  obtain ⟨x1, hx1⟩ := rd_int fu1 _ _ h1'
  refine ((lawReachable_spec x0 x1).2 W (Old W) [.agg us0, .int .i64 n1] (fun _ _ h => h.lt) ⟨_, _, rfl, hx0.agg, ⟨_, _, rfl, RdCs.one hx1, rfl⟩⟩).mono ?_
  rintro e W' ⟨vs, bs, St', hb⟩
  obtain ⟨u, us', b, bs', rfl, rfl, ⟨hu, rfl⟩, rfl, rfl⟩ := hb.res
  obtain ⟨rfl, _⟩ := hu
  exact ⟨_, hb.ret, _, _, _, [], _, [], hW', trodAll_mk1 (shut_bool Try.underlying4 true), trodAll_mk2 (Below.trod laid_Pf (by kernel_rfl) (of_decide_eq_true (by kernel_rfl)) ⟨fu0, h0'⟩ hb.below fun x hx => hlt x (by simp [hx])) (Below.trod laid_Pf (by kernel_rfl) (of_decide_eq_true (by kernel_rfl)) ⟨fu1, h1'⟩ hb.below fun x hx => hlt x (by simp [hx])), rfl, Below.frame hb.below _, fun h => by cases h⟩

theorem fnExactReachable_holds : Rows.FnExactReachableSaid :=
  OpenClaim.holds_of_wide 8 Try.f8 rfl rfl rfl rfl rfl rfl rfl ⟨rfl, rfl, rfl, rfl, rfl⟩ rfl rfl rfl rfl rfl (by kernel_rfl) Try.func8 (by kernel_rfl)
    (of_decide_eq_true (by kernel_rfl)) (by unfold Func.isWrapper; first | (rw [if_pos (by decide +kernel)]; kernel_rfl) | (rw [if_neg (by decide +kernel)]; exact ⟨rfl, rfl⟩))
    (fun os started H enc _ => fnExactReachable_lifted os started H enc)

end Go.Proofs.Ytajokmlnpnfkoaa
