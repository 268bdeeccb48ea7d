/- PROVED: laws.FnExactDelete returns true for every input, and each argument reads behind the call as it read before. No condition. -/
import Derived.Test.YtnfbaclikokapaaGreatCc
import Derived.Test.YtnfbaclikokapaaGreatRd
set_option linter.unusedSimpArgs false
set_option linter.unusedVariables false
open Go.Proofs.Tryz
namespace Go.Proofs.YtnfbaclikokapaaGreat
open Go.Vm Go.ChangeShapes Go.WideShapes Go.ChangeAt Go.RowKit
theorem AEB:ownKnob prog.godebug=none:=by kernel_rfl
theorem gQ:laidOutB prog=true:=by kernel_rfl
set_option maxRecDepth 100000 in
theorem PH (os:Os) (started:os.Started) (H:Type) (enc:TypeId×Value→H) :
  ReturnsInHanded {} checked os 3 .any (Rows.fnExactDeleteSpec.pre6 enc prog f3 Rows.fnExactDeleteRow.domain false) (Rows.fnExactDeleteSpec.post enc prog f3 false true false false):=by
 refine returnsInHanded_of_change (C:=checked) AEB started (by kernel_rfl) func3
  (ChangeSpec.witness6 (enc:=enc) (C:=checked) false ⟨#[],#[.agg #[.slice none 0 0,.int .i64 0,.int .i64 0,.int .i64 0,.int .i64 0,.int .i64 0,.int .i64 0,.slice none 0 0,.slice none 0 0,.slice none 0 0,.slice none 0 0,.slice none 0 0,.slice none 0 0,.slice none 0 0],.int .i64 0,.int .i64 0],[]⟩ 8 (by kernel_rfl) (by kernel_rfl) (by kernel_rfl) (by kernel_rfl)) ?_
 intro W base args ds gs before hval0 hW hcnd _
 have hval:∀ (j:Nat) t v,f3.params[j]?=some t→args[j]?=some v→Value.okWide prog W .any base t v:=hval0
 have hlt:=hW.lt
 have hW':=hW
 obtain⟨p,q,hA0,hV,rfl,hfz,hnd⟩:=hW
 have hA:DataW.TrodAll enc prog W 0 (fun _=>true) true f3.params.toList args.toList ds p:=hA0
 rw[params3] at hA hval
 obtain⟨v0,v1,v2,d0,d1,d2,p0,p1,p2,rfl,rfl,rfl,h0,h1,h2⟩:=trodAll_three hA
 obtain⟨rfl,rfl⟩:=trodVars_none hV
 simp only[bF] at hlt hW'
 obtain⟨us0,rfl,_⟩:=okWide_struct underlying33 (hval 0 33 v0 rfl rfl)
 obtain⟨fu0,h0'⟩:=h0
 obtain⟨x0,hx0⟩:=AAq fu0 _ _ h0'
 obtain⟨n1,rfl⟩:=okWide_int underlying3 (hval 1 3 v1 rfl rfl)
 obtain⟨fu1,h1'⟩:=h1
 obtain⟨x1,hx1⟩:=BH fu1 _ _ h1'
 obtain⟨n2,rfl⟩:=okWide_int underlying3 (hval 2 3 v2 rfl rfl)
 obtain⟨fu2,h2'⟩:=h2
 obtain⟨x2,hx2⟩:=BH fu2 _ _ h2'
 refine((XX x0 x1 x2).2 W (Old W) [.agg us0,.int .i64 n1,.int .i64 n2] (fun _ _ h=>h.lt) ⟨_,_,rfl,hx0.agg,⟨_,_,rfl,RdCs.one hx1,⟨_,_,rfl,RdCs.one hx2,rfl⟩⟩⟩).mono ?_
 rintro e W' ⟨vs,bs,St',hb⟩
 obtain⟨Φs,hres,_⟩:=hb.res
 obtain⟨u,us',b,bs',Φ,Φs',rfl,rfl,rfl,⟨hu,rfl⟩,rfl,rfl,rfl⟩:=hres
 obtain⟨rfl,_⟩:=hu
 exact⟨_,hb.ret,_,_,_,[],_,[],hW',trodAll_mk1 (shut_bool underlying4 true),trodAll_mk3 (Below.trod gQ (by kernel_rfl) (Zg (by kernel_rfl)) ⟨fu0,h0'⟩ hb.below fun x hx=>hlt x (by simp[hx])) (Below.trod gQ (by kernel_rfl) (Zg (by kernel_rfl)) ⟨fu1,h1'⟩ hb.below fun x hx=>hlt x (by simp[hx])) (Below.trod gQ (by kernel_rfl) (Zg (by kernel_rfl)) ⟨fu2,h2'⟩ hb.below fun x hx=>hlt x (by simp[hx])),rfl,Below.frame hb.below _,fun h=>by cases h⟩
theorem AEC:(Rows.fnExactDeleteRow.inPlace==prog.inPlace 3)=true:=by kernel_rfl
theorem AED:(Rows.fnExactDeleteRow.unfollowed==prog.unfollowed 3)=true:=by kernel_rfl
theorem AEE:(Rows.fnExactDeleteRow.recurses==prog.recurses 3)=true:=by kernel_rfl
theorem AEF:(Rows.fnExactDeleteRow.named==prog.varsNamed 3)=true:=by kernel_rfl
theorem AEG:(Rows.fnExactDeleteRow.plainKeys==prog.plainKeys)=true:=by kernel_rfl
theorem AFy:joinedFacts prog 3 f3 Rows.fnExactDeleteSpec Rows.fnExactDeleteRow=true:=by
 unfold joinedFacts
 rw[AEC,AED,AEE,AEF,AEG]
 kernel_rfl
theorem fnExactDelete_holds:Rows.FnExactDeleteSaid:=
 OpenClaim.holds_of_wide 3 f3 rfl rfl rfl rfl rfl rfl rfl ⟨rfl,rfl,rfl,rfl,rfl⟩ rfl rfl rfl rfl rfl (by kernel_rfl) func3 AFy
  (Zg (by kernel_rfl)) (by unfold Func.isWrapper; first | (rw[bz (by decide +kernel)]; kernel_rfl) | (rw[aV (by decide +kernel)]; exact⟨rfl,rfl⟩))
  (fun os started H enc _=>PH os started H enc)
end Go.Proofs.YtnfbaclikokapaaGreat
