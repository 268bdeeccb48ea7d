/- PROVED: laws.FnExactReadAt returns true for every input, and each argument reads behind the call as it read before. No condition. -/
import Derived.Test.YthoeeoddgkjkkaaGreatXy
import Derived.Test.YthoeeoddgkjkkaaGreatRd
namespace Go.Proofs.YthoeeoddgkjkkaaGreat
set_option linter.unusedSimpArgs false
set_option linter.unusedVariables false
open Go.Vm Go.ChangeShapes Go.WideShapes Go.ChangeAt Go.RowKit
theorem wW:ownKnob Tryz.prog.godebug=none:=by kernel_rfl
theorem Xl:laidOutB Tryz.prog=true:=by kernel_rfl
set_option maxRecDepth 100000 in
theorem L9 (os:Os) (started:os.Started) (H:Type) (enc:TypeId×Value→H) :
  ReturnsInHanded {} Tryz.checked os 8 .any (Rows.fnExactReadAtSpec.pre6 enc Tryz.prog Tryz.f8 Rows.fnExactReadAtRow.domain false) (Rows.fnExactReadAtSpec.post enc Tryz.prog Tryz.f8 false true false false):=by
 refine returnsInHanded_of_change (C:=Tryz.checked) wW started (by kernel_rfl) Tryz.func8
  (ChangeSpec.witness6 (enc:=enc) (C:=Tryz.checked) false ⟨#[],#[.agg #[.slice none 0 0,.int .i64 0,.int .i64 0,.int .i64 0,.int .i64 0,.int .i64 0,.int .i64 0,.slice none 0 0,.slice none 0 0,.slice none 0 0,.slice none 0 0,.slice none 0 0,.slice none 0 0,.slice none 0 0],.agg #[.int .i64 0,.int .i64 0,.int .i64 0,.int .i64 0,.int .i64 0,.int .i64 0,.string ByteArray.empty,.slice none 0 0,.int .i64 0,.slice none 0 0],.int .i64 0],[]⟩ 8 (by kernel_rfl) (by kernel_rfl) (by kernel_rfl) (by kernel_rfl)) ?_
 intro W base args ds gs before hval0 hW hcnd _
 have hval:∀ (j:Nat) t v,Tryz.f8.params[j]?=some t→args[j]?=some v→Value.okWide Tryz.prog W .any base t v:=hval0
 have hlt:=hW.lt
 have hW':=hW
 obtain⟨p,q,hA0,hV,rfl,hfz,hnd⟩:=hW
 have hA:DataW.TrodAll enc Tryz.prog W 0 (fun _=>true) true Tryz.f8.params.toList args.toList ds p:=hA0
 rw[Tryz.params8] at hA hval
 obtain⟨v0,v1,v2,d0,d1,d2,p0,p1,p2,rfl,rfl,rfl,h0,h1,h2⟩:=trodAll_three hA
 obtain⟨rfl,rfl⟩:=trodVars_none hV
 simp only[List.append_nil] at hlt hW'
 obtain⟨us0,rfl,_⟩:=okWide_struct Tryz.underlying33 (hval 0 33 v0 rfl rfl)
 obtain⟨fu0,h0'⟩:=h0
 obtain⟨x0,hx0⟩:=kV fu0 _ _ h0'
 obtain⟨us1,rfl,_⟩:=okWide_struct Tryz.underlying70 (hval 1 70 v1 rfl rfl)
 obtain⟨fu1,h1'⟩:=h1
 obtain⟨x1,hx1⟩:=TR fu1 _ _ h1'
 obtain⟨n2,rfl⟩:=okWide_int Tryz.underlying3 (hval 2 3 v2 rfl rfl)
 obtain⟨fu2,h2'⟩:=h2
 obtain⟨x2,hx2⟩:=A7 fu2 _ _ h2'
 refine((UM x0 x1 x2).2 W (Old W) [.agg us0,.agg us1,.int .i64 n2] (fun _ _ h=>h.lt) ⟨_,_,rfl,hx0.agg,⟨_,_,rfl,hx1.agg,⟨_,_,rfl,RdCs.one hx2,rfl⟩⟩⟩).mono ?_
 rintro e W' ⟨vs,bs,St',hb⟩
 obtain⟨Φs,hres,_⟩:=hb.res
 obtain⟨u,us',b,bs',Φ,Φs',rfl,rfl,rfl,⟨hu,rfl⟩,rfl,rfl,rfl⟩:=hres
 obtain⟨rfl,_⟩:=hu
 exact⟨_,hb.ret,_,_,_,[],_,[],hW',trodAll_mk1 (shut_bool Tryz.underlying4 true),trodAll_mk3 (Below.trod Xl (by kernel_rfl) (of_decide_eq_true (by kernel_rfl)) ⟨fu0,h0'⟩ hb.below fun x hx=>hlt x (by simp[hx])) (Below.trod Xl (by kernel_rfl) (of_decide_eq_true (by kernel_rfl)) ⟨fu1,h1'⟩ hb.below fun x hx=>hlt x (by simp[hx])) (Below.trod Xl (by kernel_rfl) (of_decide_eq_true (by kernel_rfl)) ⟨fu2,h2'⟩ hb.below fun x hx=>hlt x (by simp[hx])),rfl,Below.frame hb.below _,fun h=>by cases h⟩
theorem wX:(Rows.fnExactReadAtRow.inPlace==Tryz.prog.inPlace 8)=true:=by kernel_rfl
theorem wY:(Rows.fnExactReadAtRow.unfollowed==Tryz.prog.unfollowed 8)=true:=by kernel_rfl
theorem wZ:(Rows.fnExactReadAtRow.recurses==Tryz.prog.recurses 8)=true:=by kernel_rfl
theorem wo:(Rows.fnExactReadAtRow.named==Tryz.prog.varsNamed 8)=true:=by kernel_rfl
theorem wu:(Rows.fnExactReadAtRow.plainKeys==Tryz.prog.plainKeys)=true:=by kernel_rfl
theorem ADZ:joinedFacts Tryz.prog 8 Tryz.f8 Rows.fnExactReadAtSpec Rows.fnExactReadAtRow=true:=by
 unfold joinedFacts
 rw[wX,wY,wZ,wo,wu]
 kernel_rfl
theorem fnExactReadAt_holds:Rows.FnExactReadAtSaid:=
 OpenClaim.holds_of_wide 8 Tryz.f8 rfl rfl rfl rfl rfl rfl rfl ⟨rfl,rfl,rfl,rfl,rfl⟩ rfl rfl rfl rfl rfl (by kernel_rfl) Tryz.func8 ADZ
  (of_decide_eq_true (by kernel_rfl)) (by unfold Func.isWrapper; first | (rw[if_pos (by decide +kernel)]; kernel_rfl) | (rw[if_neg (by decide +kernel)]; exact⟨rfl,rfl⟩))
  (fun os started H enc _=>L9 os started H enc)
end Go.Proofs.YthoeeoddgkjkkaaGreat
