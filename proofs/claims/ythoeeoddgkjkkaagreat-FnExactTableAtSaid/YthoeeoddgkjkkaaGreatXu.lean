/- PROVED: laws.FnExactTableAt returns true for every input, and each argument reads behind the call as it read before. No condition. -/
import Derived.Test.YthoeeoddgkjkkaaGreatXt
import Derived.Test.YthoeeoddgkjkkaaGreatRd
namespace Go.Proofs.YthoeeoddgkjkkaaGreat
set_option linter.unusedSimpArgs false
set_option linter.unusedVariables false
open Go.Vm Go.ChangeShapes Go.WideShapes Go.ChangeAt Go.RowKit
theorem own_Xu : ownKnob Tryz.prog.godebug = none:=by kernel_rfl
theorem laid_Xu : laidOutB Tryz.prog = true:=by kernel_rfl
set_option maxRecDepth 100000 in
theorem fnExactTableAt_lifted (os : Os) (started : os.Started) (H : Type) (enc : TypeId × Value → H) :
  ReturnsInHanded {} Tryz.checked os 7 .any (Rows.fnExactTableAtSpec.pre6 enc Tryz.prog Tryz.f7 Rows.fnExactTableAtRow.domain false) (Rows.fnExactTableAtSpec.post enc Tryz.prog Tryz.f7 false true false false):=by
 refine returnsInHanded_of_change (C:=Tryz.checked) own_Xu started (by kernel_rfl) Tryz.func7
  (ChangeSpec.witness6 (enc:=enc) (C:=Tryz.checked) false ⟨#[],#[.agg #[.slice none 0 0,.int .i64 0,.int .i64 0,.int .i64 0,.int .i64 0,.int .i64 0,.int .i64 0,.slice none 0 0,.slice none 0 0,.slice none 0 0,.slice none 0 0,.slice none 0 0,.slice none 0 0,.slice none 0 0],.int .i64 0],[]⟩ 8 (by kernel_rfl) (by kernel_rfl) (by kernel_rfl) (by kernel_rfl)) ?_
 intro W base args ds gs before hval0 hW hcnd _
 have hval : ∀ (j : Nat) t v,Tryz.f7.params[j]? = some t → args[j]? = some v → Value.okWide Tryz.prog W .any base t v:=hval0
 have hlt:=hW.lt
 have hW':=hW
 obtain ⟨p,q,hA0,hV,rfl,hfz,hnd⟩:=hW
 have hA : DataW.TrodAll enc Tryz.prog W 0 (fun _=>true) true Tryz.f7.params.toList args.toList ds p:=hA0
 rw [Tryz.params7] at hA hval
 obtain ⟨v0,v1,d0,d1,p0,p1,rfl,rfl,rfl,h0,h1⟩:=trodAll_two hA
 obtain ⟨rfl,rfl⟩:=trodVars_none hV
 simp only [List.append_nil] at hlt hW'
 obtain ⟨us0,rfl,_⟩:=okWide_struct Tryz.underlying33 (hval 0 33 v0 rfl rfl)
 obtain ⟨fu0,h0'⟩:=h0
 obtain ⟨x0,hx0⟩:=rd_World fu0 _ _ h0'
 obtain ⟨n1,rfl⟩:=okWide_int Tryz.underlying3 (hval 1 3 v1 rfl rfl)
 obtain ⟨fu1,h1'⟩:=h1
 obtain ⟨x1,hx1⟩:=rd_int fu1 _ _ h1'
 refine ((lawTableAt_spec x0 x1).2 W (Old W) [.agg us0,.int .i64 n1] (fun _ _ h=>h.lt) ⟨_,_,rfl,hx0.agg,⟨_,_,rfl,RdCs.one hx1,rfl⟩⟩).mono ?_
 rintro e W' ⟨vs,bs,St',hb⟩
 obtain ⟨Φs,hres,_⟩:=hb.res
 obtain ⟨u,us',b,bs',Φ,Φs',rfl,rfl,rfl,⟨hu,rfl⟩,rfl,rfl,rfl⟩:=hres
 obtain ⟨rfl,_⟩:=hu
 exact ⟨_,hb.ret,_,_,_,[],_,[],hW',trodAll_mk1 (shut_bool Tryz.underlying4 true),trodAll_mk2 (Below.trod laid_Xu (by kernel_rfl) (of_decide_eq_true (by kernel_rfl)) ⟨fu0,h0'⟩ hb.below fun x hx=>hlt x (by simp [hx])) (Below.trod laid_Xu (by kernel_rfl) (of_decide_eq_true (by kernel_rfl)) ⟨fu1,h1'⟩ hb.below fun x hx=>hlt x (by simp [hx])),rfl,Below.frame hb.below _,fun h=>by cases h⟩
theorem jf0_Xu : (Rows.fnExactTableAtRow.inPlace == Tryz.prog.inPlace 7) = true:=by kernel_rfl
theorem jf1_Xu : (Rows.fnExactTableAtRow.unfollowed == Tryz.prog.unfollowed 7) = true:=by kernel_rfl
theorem jf2_Xu : (Rows.fnExactTableAtRow.recurses == Tryz.prog.recurses 7) = true:=by kernel_rfl
theorem jf3_Xu : (Rows.fnExactTableAtRow.named == Tryz.prog.varsNamed 7) = true:=by kernel_rfl
theorem jf4_Xu : (Rows.fnExactTableAtRow.plainKeys == Tryz.prog.plainKeys) = true:=by kernel_rfl
theorem jf_Xu : joinedFacts Tryz.prog 7 Tryz.f7 Rows.fnExactTableAtSpec Rows.fnExactTableAtRow = true:=by
 unfold joinedFacts
 rw [jf0_Xu,jf1_Xu,jf2_Xu,jf3_Xu,jf4_Xu]
 kernel_rfl
theorem fnExactTableAt_holds : Rows.FnExactTableAtSaid :=
 OpenClaim.holds_of_wide 7 Tryz.f7 rfl rfl rfl rfl rfl rfl rfl ⟨rfl,rfl,rfl,rfl,rfl⟩ rfl rfl rfl rfl rfl (by kernel_rfl) Tryz.func7 jf_Xu
  (of_decide_eq_true (by kernel_rfl)) (by unfold Func.isWrapper; first | (rw [if_pos (by decide +kernel)]; kernel_rfl) | (rw [if_neg (by decide +kernel)]; exact ⟨rfl,rfl⟩))
  (fun os started H enc _=>fnExactTableAt_lifted os started H enc)
end Go.Proofs.YthoeeoddgkjkkaaGreat
