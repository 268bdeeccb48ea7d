/- PROVED: laws.FnExactMayClean returns true for every input, and each argument reads behind the call as it read before. No condition. -/
import Derived.Test.YtnchiiikacemmaaGreatTf
set_option linter.unusedSimpArgs false
set_option linter.unusedVariables false
open Go.Proofs.Tryz
namespace Go.Proofs.YtnchiiikacemmaaGreat
open Go.Vm Go.ChangeShapes Go.WideShapes Go.ChangeAt Go.RowKit
theorem AEX:ownKnob prog.godebug=none:=by kernel_rfl
theorem ACl:laidOutB prog=true:=by kernel_rfl
set_option maxRecDepth 100000 in
theorem Ns (os:Os) (started:os.Started) (H:Type) (enc:TypeId×Value→H) :
  ReturnsInHanded {} checked os 3 .any (Rows.fnExactMayCleanSpec.pre6 enc prog f3 Rows.fnExactMayCleanRow.domain false) (Rows.fnExactMayCleanSpec.post enc prog f3 false true false false):=by
 refine returnsInHanded_of_change (C:=checked) AEX started (by kernel_rfl) func3
  (ChangeSpec.witness6 (enc:=enc) (C:=checked) false ⟨#[],#[.agg #[.slice none 0 0,.int .i64 0,.int .i64 0,.int .i64 0,.int .i64 0,.int .i64 0,.int .i64 0,.slice none 0 0,.slice none 0 0,.slice none 0 0,.slice none 0 0,.slice none 0 0,.slice none 0 0,.slice none 0 0]],[]⟩ 8 (by kernel_rfl) (by kernel_rfl) (by kernel_rfl) (by kernel_rfl)) ?_
 intro W base args ds gs before hval0 hW hcnd _
 have hval:∀ (j:Nat) t v,f3.params[j]?=some t→args[j]?=some v→Value.okWide prog W .any base t v:=hval0
 have hlt:=hW.lt
 have hW':=hW
 obtain⟨p,q,hA0,hV,rfl,hfz,hnd⟩:=hW
 have hA:DataW.TrodAll enc prog W 0 (fun _=>true) true f3.params.toList args.toList ds p:=hA0
 rw[params3] at hA hval
 obtain⟨v0,d0,rfl,rfl,h0⟩:=trodAll_one hA
 obtain⟨rfl,rfl⟩:=trodVars_none hV
 simp only[bz] at hlt hW'
 obtain⟨us0,rfl,_⟩:=okWide_struct underlying33 (hval 0 33 v0 rfl rfl)
 obtain⟨fu0,h0'⟩:=h0
 obtain⟨x0,hx0⟩:=ng fu0 _ _ h0'
 refine((Ux x0).2 W (Old W) [.agg us0] (fun _ _ h=>h.lt) ⟨_,_,rfl,hx0.agg,rfl⟩).mono ?_
 rintro e W' ⟨vs,bs,St',hb⟩
 obtain⟨Φs,hres,_⟩:=hb.res
 obtain⟨u,us',b,bs',Φ,Φs',rfl,rfl,rfl,⟨hu,rfl⟩,rfl,rfl,rfl⟩:=hres
 obtain⟨rfl,_⟩:=hu
 exact⟨_,hb.ret,_,_,_,[],_,[],hW',trodAll_mk1 (shut_bool underlying4 true),trodAll_mk1 (Below.trod ACl (by kernel_rfl) (jD (by kernel_rfl)) ⟨fu0,h0'⟩ hb.below fun x hx=>hlt x (by simp[hx])),rfl,Below.frame hb.below _,fun h=>by cases h⟩
theorem AEY:(Rows.fnExactMayCleanRow.inPlace==prog.inPlace 3)=true:=by kernel_rfl
theorem AEZ:(Rows.fnExactMayCleanRow.unfollowed==prog.unfollowed 3)=true:=by kernel_rfl
theorem AEa:(Rows.fnExactMayCleanRow.recurses==prog.recurses 3)=true:=by kernel_rfl
theorem AEb:(Rows.fnExactMayCleanRow.named==prog.varsNamed 3)=true:=by kernel_rfl
theorem AEc:(Rows.fnExactMayCleanRow.plainKeys==prog.plainKeys)=true:=by kernel_rfl
theorem AGG:joinedFacts prog 3 f3 Rows.fnExactMayCleanSpec Rows.fnExactMayCleanRow=true:=by
 unfold joinedFacts
 rw[AEY,AEZ,AEa,AEb,AEc]
 kernel_rfl
theorem fnExactMayClean_holds:Rows.FnExactMayCleanSaid:=
 OpenClaim.holds_of_wide 3 f3 rfl rfl rfl rfl rfl rfl rfl ⟨rfl,rfl,rfl,rfl,rfl⟩ rfl rfl rfl rfl rfl (by kernel_rfl) func3 AGG
  (jD (by kernel_rfl)) (by unfold Func.isWrapper; first | (rw[aX (by decide +kernel)]; kernel_rfl) | (rw[aV (by decide +kernel)]; exact⟨rfl,rfl⟩))
  (fun os started H enc _=>Ns os started H enc)
end Go.Proofs.YtnchiiikacemmaaGreat
