/- PROVED: laws.FnExactHidden returns true for every input, and each argument reads behind the call as it read before. No condition. -/
import Derived.Test.YthoeeoddgkjkkaaGreatXi
import Derived.Test.YthoeeoddgkjkkaaGreatRd
namespace Go.Proofs.YthoeeoddgkjkkaaGreat
set_option linter.unusedSimpArgs false
set_option linter.unusedVariables false
open Go.Vm Go.ChangeShapes Go.WideShapes Go.ChangeAt Go.RowKit
theorem own_Xv : ownKnob Tryz.prog.godebug = none:=by kernel_rfl
theorem laid_Xv : laidOutB Tryz.prog = true:=by kernel_rfl
set_option maxRecDepth 100000 in
theorem fnExactHidden_lifted (os : Os) (started : os.Started) (H : Type) (enc : TypeId × Value → H) :
  ReturnsInHanded {} Tryz.checked os 4 .any (Rows.fnExactHiddenSpec.pre6 enc Tryz.prog Tryz.f4 Rows.fnExactHiddenRow.domain false) (Rows.fnExactHiddenSpec.post enc Tryz.prog Tryz.f4 false true false false):=by
 refine returnsInHanded_of_change (C:=Tryz.checked) own_Xv started (by kernel_rfl) Tryz.func4
  (ChangeSpec.witness6 (enc:=enc) (C:=Tryz.checked) false ⟨#[],#[.agg #[.slice none 0 0,.int .i64 0,.int .i64 0,.int .i64 0,.int .i64 0,.int .i64 0,.int .i64 0,.slice none 0 0,.slice none 0 0,.slice none 0 0,.slice none 0 0,.slice none 0 0,.slice none 0 0,.slice none 0 0]],[]⟩ 8 (by kernel_rfl) (by kernel_rfl) (by kernel_rfl) (by kernel_rfl)) ?_
 intro W base args ds gs before hval0 hW hcnd _
 have hval : ∀ (j : Nat) t v,Tryz.f4.params[j]? = some t → args[j]? = some v → Value.okWide Tryz.prog W .any base t v:=hval0
 have hlt:=hW.lt
 have hW':=hW
 obtain ⟨p,q,hA0,hV,rfl,hfz,hnd⟩:=hW
 have hA : DataW.TrodAll enc Tryz.prog W 0 (fun _=>true) true Tryz.f4.params.toList args.toList ds p:=hA0
 rw [Tryz.params4] at hA hval
 obtain ⟨v0,d0,rfl,rfl,h0⟩:=trodAll_one hA
 obtain ⟨rfl,rfl⟩:=trodVars_none hV
 simp only [List.append_nil] at hlt hW'
 obtain ⟨us0,rfl,_⟩:=okWide_struct Tryz.underlying33 (hval 0 33 v0 rfl rfl)
 obtain ⟨fu0,h0'⟩:=h0
 obtain ⟨x0,hx0⟩:=rd_World fu0 _ _ h0'
 refine ((lawHidden_spec x0).2 W (Old W) [.agg us0] (fun _ _ h=>h.lt) ⟨_,_,rfl,hx0.agg,rfl⟩).mono ?_
 rintro e W' ⟨vs,bs,St',hb⟩
 obtain ⟨Φs,hres,_⟩:=hb.res
 obtain ⟨u,us',b,bs',Φ,Φs',rfl,rfl,rfl,⟨hu,rfl⟩,rfl,rfl,rfl⟩:=hres
 obtain ⟨rfl,_⟩:=hu
 exact ⟨_,hb.ret,_,_,_,[],_,[],hW',trodAll_mk1 (shut_bool Tryz.underlying4 true),trodAll_mk1 (Below.trod laid_Xv (by kernel_rfl) (of_decide_eq_true (by kernel_rfl)) ⟨fu0,h0'⟩ hb.below fun x hx=>hlt x (by simp [hx])),rfl,Below.frame hb.below _,fun h=>by cases h⟩
theorem jf0_Xv : (Rows.fnExactHiddenRow.inPlace == Tryz.prog.inPlace 4) = true:=by kernel_rfl
theorem jf1_Xv : (Rows.fnExactHiddenRow.unfollowed == Tryz.prog.unfollowed 4) = true:=by kernel_rfl
theorem jf2_Xv : (Rows.fnExactHiddenRow.recurses == Tryz.prog.recurses 4) = true:=by kernel_rfl
theorem jf3_Xv : (Rows.fnExactHiddenRow.named == Tryz.prog.varsNamed 4) = true:=by kernel_rfl
theorem jf4_Xv : (Rows.fnExactHiddenRow.plainKeys == Tryz.prog.plainKeys) = true:=by kernel_rfl
theorem jf_Xv : joinedFacts Tryz.prog 4 Tryz.f4 Rows.fnExactHiddenSpec Rows.fnExactHiddenRow = true:=by
 unfold joinedFacts
 rw [jf0_Xv,jf1_Xv,jf2_Xv,jf3_Xv,jf4_Xv]
 kernel_rfl
theorem fnExactHidden_holds : Rows.FnExactHiddenSaid :=
 OpenClaim.holds_of_wide 4 Tryz.f4 rfl rfl rfl rfl rfl rfl rfl ⟨rfl,rfl,rfl,rfl,rfl⟩ rfl rfl rfl rfl rfl (by kernel_rfl) Tryz.func4 jf_Xv
  (of_decide_eq_true (by kernel_rfl)) (by unfold Func.isWrapper; first | (rw [if_pos (by decide +kernel)]; kernel_rfl) | (rw [if_neg (by decide +kernel)]; exact ⟨rfl,rfl⟩))
  (fun os started H enc _=>fnExactHidden_lifted os started H enc)
end Go.Proofs.YthoeeoddgkjkkaaGreat
