/- PROVED: laws.FnExactReplayed returns true for every input, and each argument reads behind the call as it read before. No condition. -/
import Derived.Test.YtgkmefoghbjfnaaGreatSf
import Derived.Test.YtgkmefoghbjfnaaGreatRd
set_option linter.unusedSimpArgs false
set_option linter.unusedVariables false
open Go.Proofs.Tryz
namespace Go.Proofs.YtgkmefoghbjfnaaGreat
open Go.Vm Go.ChangeShapes Go.WideShapes Go.ChangeAt Go.RowKit
theorem qK:ownKnob prog.godebug=none:=by kernel_rfl
theorem l_:laidOutB prog=true:=by kernel_rfl
set_option maxRecDepth 100000 in
theorem JQ (os:Os) (started:os.Started) (H:Type) (enc:TypeId×Value→H) :
  ReturnsInHanded {} checked os 3 .any (Rows.fnExactReplayedSpec.pre6 enc prog f3 Rows.fnExactReplayedRow.domain false) (Rows.fnExactReplayedSpec.post enc prog f3 false true false false):=by
 refine returnsInHanded_of_change (C:=checked) qK started (by kernel_rfl) func3
  (ChangeSpec.witness6 (enc:=enc) (C:=checked) false ⟨#[],#[.agg #[.slice none 0 0,.int .i64 0,.int .i64 0,.int .i64 0,.int .i64 0,.int .i64 0,.int .i64 0,.slice none 0 0,.slice none 0 0,.slice none 0 0,.slice none 0 0,.slice none 0 0,.slice none 0 0,.slice none 0 0]],[]⟩ 8 (by kernel_rfl) (by kernel_rfl) (by kernel_rfl) (by kernel_rfl)) ?_
 intro W base args ds gs before hval0 hW hcnd _
 have hval:∀ (j:Nat) t v,f3.params[j]?=some t→args[j]?=some v→Value.okWide prog W .any base t v:=hval0
 have hlt:=hW.lt
 have hW':=hW
 obtain⟨p,q,hA0,hV,rfl,hfz,hnd⟩:=hW
 have hA:DataW.TrodAll enc prog W 0 (fun _=>true) true f3.params.toList args.toList ds p:=hA0
 rw[params3] at hA hval
 obtain⟨v0,d0,rfl,rfl,h0⟩:=trodAll_one hA
 obtain⟨rfl,rfl⟩:=trodVars_none hV
 simp only[bU] at hlt hW'
 obtain⟨us0,rfl,_⟩:=okWide_struct underlying33 (hval 0 33 v0 rfl rfl)
 obtain⟨fu0,h0'⟩:=h0
 obtain⟨x0,hx0⟩:=jD fu0 _ _ h0'
 refine((O4 x0).2 W (Old W) [.agg us0] (fun _ _ h=>h.lt) ⟨_,_,rfl,hx0.agg,rfl⟩).mono ?_
 rintro e W' ⟨vs,bs,St',hb⟩
 obtain⟨Φs,hres,_⟩:=hb.res
 obtain⟨u,us',b,bs',Φ,Φs',rfl,rfl,rfl,⟨hu,rfl⟩,rfl,rfl,rfl⟩:=hres
 obtain⟨rfl,_⟩:=hu
 exact⟨_,hb.ret,_,_,_,[],_,[],hW',trodAll_mk1 (shut_bool underlying4 true),trodAll_mk1 (Below.trod l_ (by kernel_rfl) (vJ (by kernel_rfl)) ⟨fu0,h0'⟩ hb.below fun x hx=>hlt x (by simp[hx])),rfl,Below.frame hb.below _,fun h=>by cases h⟩
theorem qL:(Rows.fnExactReplayedRow.inPlace==prog.inPlace 3)=true:=by kernel_rfl
theorem qM:(Rows.fnExactReplayedRow.unfollowed==prog.unfollowed 3)=true:=by kernel_rfl
theorem qN:(Rows.fnExactReplayedRow.recurses==prog.recurses 3)=true:=by kernel_rfl
theorem qO:(Rows.fnExactReplayedRow.named==prog.varsNamed 3)=true:=by kernel_rfl
theorem qP:(Rows.fnExactReplayedRow.plainKeys==prog.plainKeys)=true:=by kernel_rfl
theorem uN:joinedFacts prog 3 f3 Rows.fnExactReplayedSpec Rows.fnExactReplayedRow=true:=by
 unfold joinedFacts
 rw[qL,qM,qN,qO,qP]
 kernel_rfl
theorem fnExactReplayed_holds:Rows.FnExactReplayedSaid:=
 OpenClaim.holds_of_wide 3 f3 rfl rfl rfl rfl rfl rfl rfl ⟨rfl,rfl,rfl,rfl,rfl⟩ rfl rfl rfl rfl rfl (by kernel_rfl) func3 uN
  (vJ (by kernel_rfl)) (by unfold Func.isWrapper; first | (rw[ED (by decide +kernel)]; kernel_rfl) | (rw[Eh (by decide +kernel)]; exact⟨rfl,rfl⟩))
  (fun os started H enc _=>JQ os started H enc)
end Go.Proofs.YtgkmefoghbjfnaaGreat
