/- PROVED: laws.FnExactSameThen returns true for every input, and each argument reads behind the call as it read before. No condition. -/
import Derived.Test.YthoeeoddgkjkkaaGreatXj
import Derived.Test.YthoeeoddgkjkkaaGreatRd
namespace Go.Proofs.YthoeeoddgkjkkaaGreat
set_option linter.unusedSimpArgs false
set_option linter.unusedVariables false
open Go.Vm Go.ChangeShapes Go.WideShapes Go.ChangeAt Go.RowKit
theorem own_Xw : ownKnob Tryz.prog.godebug = none:=by kernel_rfl
theorem laid_Xw : laidOutB Tryz.prog = true:=by kernel_rfl
set_option maxRecDepth 100000 in
theorem fnExactSameThen_lifted (os : Os) (started : os.Started) (H : Type) (enc : TypeId × Value → H) :
  ReturnsInHanded {} Tryz.checked os 5 .any (Rows.fnExactSameThenSpec.pre6 enc Tryz.prog Tryz.f5 Rows.fnExactSameThenRow.domain false) (Rows.fnExactSameThenSpec.post enc Tryz.prog Tryz.f5 false true false false):=by
 refine returnsInHanded_of_change (C:=Tryz.checked) own_Xw started (by kernel_rfl) Tryz.func5
  (ChangeSpec.witness6 (enc:=enc) (C:=Tryz.checked) false ⟨#[],#[.agg #[.slice none 0 0,.int .i64 0,.int .i64 0,.int .i64 0,.int .i64 0,.int .i64 0,.int .i64 0,.slice none 0 0,.slice none 0 0,.slice none 0 0,.slice none 0 0,.slice none 0 0,.slice none 0 0,.slice none 0 0],.agg #[.slice none 0 0,.int .i64 0,.int .i64 0,.int .i64 0,.int .i64 0,.int .i64 0,.int .i64 0,.slice none 0 0,.slice none 0 0,.slice none 0 0,.slice none 0 0,.slice none 0 0,.slice none 0 0,.slice none 0 0]],[]⟩ 8 (by kernel_rfl) (by kernel_rfl) (by kernel_rfl) (by kernel_rfl)) ?_
 intro W base args ds gs before hval0 hW hcnd _
 have hval : ∀ (j : Nat) t v,Tryz.f5.params[j]? = some t → args[j]? = some v → Value.okWide Tryz.prog W .any base t v:=hval0
 have hlt:=hW.lt
 have hW':=hW
 obtain ⟨p,q,hA0,hV,rfl,hfz,hnd⟩:=hW
 have hA : DataW.TrodAll enc Tryz.prog W 0 (fun _=>true) true Tryz.f5.params.toList args.toList ds p:=hA0
 rw [Tryz.params5] at hA hval
 obtain ⟨v0,v1,d0,d1,p0,p1,rfl,rfl,rfl,h0,h1⟩:=trodAll_two hA
 obtain ⟨rfl,rfl⟩:=trodVars_none hV
 simp only [List.append_nil] at hlt hW'
 obtain ⟨us0,rfl,_⟩:=okWide_struct Tryz.underlying33 (hval 0 33 v0 rfl rfl)
 obtain ⟨fu0,h0'⟩:=h0
 obtain ⟨x0,hx0⟩:=rd_World fu0 _ _ h0'
 obtain ⟨us1,rfl,_⟩:=okWide_struct Tryz.underlying33 (hval 1 33 v1 rfl rfl)
 obtain ⟨fu1,h1'⟩:=h1
 obtain ⟨x1,hx1⟩:=rd_World fu1 _ _ h1'
 refine ((lawSameThen_spec x0 x1).2 W (Old W) [.agg us0,.agg us1] (fun _ _ h=>h.lt) ⟨_,_,rfl,hx0.agg,⟨_,_,rfl,hx1.agg,rfl⟩⟩).mono ?_
 rintro e W' ⟨vs,bs,St',hb⟩
 obtain ⟨Φs,hres,_⟩:=hb.res
 obtain ⟨u,us',b,bs',Φ,Φs',rfl,rfl,rfl,⟨hu,rfl⟩,rfl,rfl,rfl⟩:=hres
 obtain ⟨rfl,_⟩:=hu
 exact ⟨_,hb.ret,_,_,_,[],_,[],hW',trodAll_mk1 (shut_bool Tryz.underlying4 true),trodAll_mk2 (Below.trod laid_Xw (by kernel_rfl) (of_decide_eq_true (by kernel_rfl)) ⟨fu0,h0'⟩ hb.below fun x hx=>hlt x (by simp [hx])) (Below.trod laid_Xw (by kernel_rfl) (of_decide_eq_true (by kernel_rfl)) ⟨fu1,h1'⟩ hb.below fun x hx=>hlt x (by simp [hx])),rfl,Below.frame hb.below _,fun h=>by cases h⟩
theorem jf0_Xw : (Rows.fnExactSameThenRow.inPlace == Tryz.prog.inPlace 5) = true:=by kernel_rfl
theorem jf1_Xw : (Rows.fnExactSameThenRow.unfollowed == Tryz.prog.unfollowed 5) = true:=by kernel_rfl
theorem jf2_Xw : (Rows.fnExactSameThenRow.recurses == Tryz.prog.recurses 5) = true:=by kernel_rfl
theorem jf3_Xw : (Rows.fnExactSameThenRow.named == Tryz.prog.varsNamed 5) = true:=by kernel_rfl
theorem jf4_Xw : (Rows.fnExactSameThenRow.plainKeys == Tryz.prog.plainKeys) = true:=by kernel_rfl
theorem jf_Xw : joinedFacts Tryz.prog 5 Tryz.f5 Rows.fnExactSameThenSpec Rows.fnExactSameThenRow = true:=by
 unfold joinedFacts
 rw [jf0_Xw,jf1_Xw,jf2_Xw,jf3_Xw,jf4_Xw]
 kernel_rfl
theorem fnExactSameThen_holds : Rows.FnExactSameThenSaid :=
 OpenClaim.holds_of_wide 5 Tryz.f5 rfl rfl rfl rfl rfl rfl rfl ⟨rfl,rfl,rfl,rfl,rfl⟩ rfl rfl rfl rfl rfl (by kernel_rfl) Tryz.func5 jf_Xw
  (of_decide_eq_true (by kernel_rfl)) (by unfold Func.isWrapper; first | (rw [if_pos (by decide +kernel)]; kernel_rfl) | (rw [if_neg (by decide +kernel)]; exact ⟨rfl,rfl⟩))
  (fun os started H enc _=>fnExactSameThen_lifted os started H enc)
end Go.Proofs.YthoeeoddgkjkkaaGreat
