/- PROVED: laws.FnExactApplyAll returns true for every input, and each argument reads behind the call as it read before. No condition. -/
import Derived.Test.YtepjgnlinjlehaaGreatAs
import Derived.Test.YtepjgnlinjlehaaGreatRd
namespace Go.Proofs.YtepjgnlinjlehaaGreat
set_option linter.unusedSimpArgs false
set_option linter.unusedVariables false
open Go.Vm Go.ChangeShapes Go.WideShapes Go.ChangeAt Go.RowKit

theorem own_At : ownKnob Tryz.prog.godebug = none := by kernel_rfl
theorem laid_At : laidOutB Tryz.prog = true := by kernel_rfl

set_option maxRecDepth 100000 in
theorem fnExactApplyAll_lifted (os : Os) (started : os.Started) (H : Type) (enc : TypeId × Value → H) :
    ReturnsInHanded {} Tryz.checked os 4 .any (Rows.fnExactApplyAllSpec.pre6 enc Tryz.prog Tryz.f4 Rows.fnExactApplyAllRow.domain false) (Rows.fnExactApplyAllSpec.post enc Tryz.prog Tryz.f4 false true false false) := by
  refine returnsInHanded_of_change (C := Tryz.checked) own_At started (by kernel_rfl) Tryz.func4
    (ChangeSpec.witness6 (enc := enc) (C := Tryz.checked) false ⟨#[], #[.agg #[.slice none 0 0, .slice none 0 0], .slice none 0 0], []⟩ 8 (by kernel_rfl) (by kernel_rfl) (by kernel_rfl) (by kernel_rfl)) ?_
  intro W base args ds gs before hval0 hW hcnd _
  have hval : ∀ (j : Nat) t v, Tryz.f4.params[j]? = some t → args[j]? = some v → Value.okWide Tryz.prog W .any base t v := hval0
  have hlt := hW.lt
  have hW' := hW
  obtain ⟨p, q, hA0, hV, rfl, hfz, hnd⟩ := hW
  have hA : DataW.TrodAll enc Tryz.prog W 0 (fun _ => true) true Tryz.f4.params.toList args.toList ds p := hA0
  rw [Tryz.params4] at hA hval
  obtain ⟨v0, v1, d0, d1, p0, p1, rfl, rfl, rfl, h0, h1⟩ := trodAll_two hA
  obtain ⟨rfl, rfl⟩ := trodVars_none hV
  simp only [List.append_nil] at hlt hW'
  obtain ⟨us0, rfl, _⟩ := okWide_struct Tryz.underlying25 (hval 0 25 v0 rfl rfl)
  obtain ⟨fu0, h0'⟩ := h0
  obtain ⟨x0, hx0⟩ := rd_Table fu0 _ _ h0'
  obtain ⟨a1, len1, cap1, rfl⟩ := okWide_slice Tryz.underlying63 (hval 1 63 v1 rfl rfl)
  obtain ⟨fu1, h1'⟩ := h1
  obtain ⟨x1, hx1⟩ := rd_DeedS fu1 _ _ h1'
  refine ((lawApplyAll_spec x0 x1).2 W (Old W) [.agg us0, .slice a1 len1 cap1] (fun _ _ h => h.lt) ⟨_, _, rfl, hx0.agg, ⟨_, _, rfl, RdCs.one hx1, rfl⟩⟩).mono ?_
  rintro e W' ⟨vs, bs, St', hb⟩
  obtain ⟨Φs, hres, _⟩ := hb.res
  obtain ⟨u, us', b, bs', Φ, Φs', rfl, rfl, rfl, ⟨hu, rfl⟩, rfl, rfl, rfl⟩ := hres
  obtain ⟨rfl, _⟩ := hu
  exact ⟨_, hb.ret, _, _, _, [], _, [], hW', trodAll_mk1 (shut_bool Tryz.underlying4 true), trodAll_mk2 (Below.trod laid_At (by kernel_rfl) (of_decide_eq_true (by kernel_rfl)) ⟨fu0, h0'⟩ hb.below fun x hx => hlt x (by simp [hx])) (Below.trod laid_At (by kernel_rfl) (of_decide_eq_true (by kernel_rfl)) ⟨fu1, h1'⟩ hb.below fun x hx => hlt x (by simp [hx])), rfl, Below.frame hb.below _, fun h => by cases h⟩

theorem fnExactApplyAll_holds : Rows.FnExactApplyAllSaid :=
  OpenClaim.holds_of_wide 4 Tryz.f4 rfl rfl rfl rfl rfl rfl rfl ⟨rfl, rfl, rfl, rfl, rfl⟩ rfl rfl rfl rfl rfl (by kernel_rfl) Tryz.func4 (by kernel_rfl)
    (of_decide_eq_true (by kernel_rfl)) (by unfold Func.isWrapper; first | (rw [if_pos (by decide +kernel)]; kernel_rfl) | (rw [if_neg (by decide +kernel)]; exact ⟨rfl, rfl⟩))
    (fun os started H enc _ => fnExactApplyAll_lifted os started H enc)

end Go.Proofs.YtepjgnlinjlehaaGreat
