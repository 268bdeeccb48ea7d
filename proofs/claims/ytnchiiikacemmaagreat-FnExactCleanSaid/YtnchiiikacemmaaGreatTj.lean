/- PROVED: laws.FnExactClean returns true for every input, and each argument reads behind the call as it read before. No condition. -/
import Derived.Test.YtnchiiikacemmaaGreatTh
import Derived.Test.YtnchiiikacemmaaGreatRd
set_option linter.unusedSimpArgs false
set_option linter.unusedVariables false
open Go.Proofs.Tryz
namespace Go.Proofs.YtnchiiikacemmaaGreat
open Go.Vm Go.ChangeShapes Go.WideShapes Go.ChangeAt Go.RowKit
theorem AEd:ownKnob prog.godebug=none:=by kernel_rfl
theorem ACm:laidOutB prog=true:=by kernel_rfl
set_option maxRecDepth 100000 in
theorem Qi (os:Os) (started:os.Started) (H:Type) (enc:TypeId×Value→H) :
  ReturnsInHanded {} checked os 4 .any (Rows.fnExactCleanSpec.pre6 enc prog f4 Rows.fnExactCleanRow.domain false) (Rows.fnExactCleanSpec.post enc prog f4 false true false false):=by
 refine returnsInHanded_of_change (C:=checked) AEd started (by kernel_rfl) func4
  (ChangeSpec.witness6 (enc:=enc) (C:=checked) false ⟨#[],#[.agg #[.slice none 0 0,.int .i64 0,.int .i64 0,.int .i64 0,.int .i64 0,.int .i64 0,.int .i64 0,.slice none 0 0,.slice none 0 0,.slice none 0 0,.slice none 0 0,.slice none 0 0,.slice none 0 0,.slice none 0 0]],[]⟩ 8 (by kernel_rfl) (by kernel_rfl) (by kernel_rfl) (by kernel_rfl)) ?_
 intro W base args ds gs before hval0 hW hcnd _
 have hval:∀ (j:Nat) t v,f4.params[j]?=some t→args[j]?=some v→Value.okWide prog W .any base t v:=hval0
 have hlt:=hW.lt
 have hW':=hW
 obtain⟨p,q,hA0,hV,rfl,hfz,hnd⟩:=hW
 have hA:DataW.TrodAll enc prog W 0 (fun _=>true) true f4.params.toList args.toList ds p:=hA0
 rw[params4] at hA hval
 obtain⟨v0,d0,rfl,rfl,h0⟩:=trodAll_one hA
 obtain⟨rfl,rfl⟩:=trodVars_none hV
 simp only[bz] at hlt hW'
 obtain⟨us0,rfl,_⟩:=okWide_struct underlying33 (hval 0 33 v0 rfl rfl)
 obtain⟨fu0,h0'⟩:=h0
 obtain⟨x0,hx0⟩:=ng fu0 _ _ h0'
 refine((Zr x0).2 W (Old W) [.agg us0] (fun _ _ h=>h.lt) ⟨_,_,rfl,hx0.agg,rfl⟩).mono ?_
 rintro e W' ⟨vs,bs,St',hb⟩
 obtain⟨Φs,hres,_⟩:=hb.res
 obtain⟨u,us',b,bs',Φ,Φs',rfl,rfl,rfl,⟨hu,rfl⟩,rfl,rfl,rfl⟩:=hres
 obtain⟨rfl,_⟩:=hu
 exact⟨_,hb.ret,_,_,_,[],_,[],hW',trodAll_mk1 (shut_bool underlying4 true),trodAll_mk1 (Below.trod ACm (by kernel_rfl) (jD (by kernel_rfl)) ⟨fu0,h0'⟩ hb.below fun x hx=>hlt x (by simp[hx])),rfl,Below.frame hb.below _,fun h=>by cases h⟩
theorem AEe:(Rows.fnExactCleanRow.inPlace==prog.inPlace 4)=true:=by kernel_rfl
theorem AEf:(Rows.fnExactCleanRow.unfollowed==prog.unfollowed 4)=true:=by kernel_rfl
theorem AEg:(Rows.fnExactCleanRow.recurses==prog.recurses 4)=true:=by kernel_rfl
theorem AEh:(Rows.fnExactCleanRow.named==prog.varsNamed 4)=true:=by kernel_rfl
theorem AEi:(Rows.fnExactCleanRow.plainKeys==prog.plainKeys)=true:=by kernel_rfl
theorem AGH:joinedFacts prog 4 f4 Rows.fnExactCleanSpec Rows.fnExactCleanRow=true:=by
 unfold joinedFacts
 rw[AEe,AEf,AEg,AEh,AEi]
 kernel_rfl
theorem fnExactClean_holds:Rows.FnExactCleanSaid:=
 OpenClaim.holds_of_wide 4 f4 rfl rfl rfl rfl rfl rfl rfl ⟨rfl,rfl,rfl,rfl,rfl⟩ rfl rfl rfl rfl rfl (by kernel_rfl) func4 AGH
  (jD (by kernel_rfl)) (by unfold Func.isWrapper; first | (rw[aX (by decide +kernel)]; kernel_rfl) | (rw[aV (by decide +kernel)]; exact⟨rfl,rfl⟩))
  (fun os started H enc _=>Qi os started H enc)
end Go.Proofs.YtnchiiikacemmaaGreat
