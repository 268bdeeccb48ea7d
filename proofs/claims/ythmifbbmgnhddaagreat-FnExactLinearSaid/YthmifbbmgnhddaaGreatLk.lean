/- PROVED: laws.FnExactLinear returns true for every input, and each argument reads behind the call as it read before. No condition. -/
import Derived.Test.YthmifbbmgnhddaaGreatLj
import Derived.Test.YthmifbbmgnhddaaGreatRd
set_option linter.unusedSimpArgs false
set_option linter.unusedVariables false
open Go.Proofs.Tryz
namespace Go.Proofs.YthmifbbmgnhddaaGreat
open Go.Vm Go.ChangeShapes Go.WideShapes Go.ChangeAt Go.RowKit
section
variable {p q r:Prop}
theorem ASs(h:p:=by kernel_rfl):p:=h
end
theorem AJm:ownKnob prog.godebug=none:=ASs
theorem AHW:laidOutB prog=true:=ASs
set_option maxRecDepth 100000 in
theorem Sj (os:Os) (started:os.Started) (H:Type) (enc:TypeId×Value→H) :
  ReturnsInHanded {} checked os 5 .any (Rows.fnExactLinearSpec.pre6 enc prog f5 Rows.fnExactLinearRow.domain false) (Rows.fnExactLinearSpec.post enc prog f5 false true false false):=by
 refine returnsInHanded_of_change (C:=checked) AJm started ASs func5
  (ChangeSpec.witness6 (enc:=enc) (C:=checked) false ⟨#[],#[.agg #[.slice none 0 0,.int .i64 0,.int .i64 0,.int .i64 0,.int .i64 0,.int .i64 0,.int .i64 0,.slice none 0 0,.slice none 0 0,.slice none 0 0,.slice none 0 0,.slice none 0 0,.slice none 0 0,.slice none 0 0]],[]⟩ 8 ASs ASs ASs ASs) ?_
 intro W base args ds gs before hval0 hW hcnd _
 have hval:∀ (j:Nat) t v,f5.params[j]?=some t→args[j]?=some v→Value.okWide prog W .any base t v:=hval0
 have hlt:=hW.lt
 have hW':=hW
 obtain⟨p,q,hA0,hV,rfl,hfz,hnd⟩:=hW
 have hA:DataW.TrodAll enc prog W 0 (fun _=>true) true f5.params.toList args.toList ds p:=hA0
 rw[params5] at hA hval
 obtain⟨v0,d0,rfl,rfl,h0⟩:=trodAll_one hA
 obtain⟨rfl,rfl⟩:=trodVars_none hV
 simp only[bK] at hlt hW'
 obtain⟨us0,rfl,_⟩:=okWide_struct underlying33 (hval 0 33 v0 rfl rfl)
 obtain⟨fu0,h0'⟩:=h0
 obtain⟨x0,hx0⟩:=iO fu0 _ _ h0'
 refine((iK x0).2 W (Old W) [.agg us0] (fun _ _ h=>h.lt) ⟨_,_,rfl,hx0.agg,rfl⟩).mono ?_
 rintro e W' ⟨vs,bs,St',hb⟩
 obtain⟨Φs,hres,_⟩:=hb.res
 obtain⟨u,us',b,bs',Φ,Φs',rfl,rfl,rfl,⟨hu,rfl⟩,rfl,rfl,rfl⟩:=hres
 obtain⟨rfl,_⟩:=hu
 exact⟨_,hb.ret,_,_,_,[],_,[],hW',trodAll_mk1 (shut_bool underlying4 true),trodAll_mk1 (Below.trod AHW ASs (YL ASs) ⟨fu0,h0'⟩ hb.below fun x hx=>hlt x ARS),rfl,Below.frame hb.below _,fun h=>AR0⟩
theorem AJn:(Rows.fnExactLinearRow.inPlace==prog.inPlace 5)=true:=ASs
theorem AJo:(Rows.fnExactLinearRow.unfollowed==prog.unfollowed 5)=true:=ASs
theorem AJp:(Rows.fnExactLinearRow.recurses==prog.recurses 5)=true:=ASs
theorem AJq:(Rows.fnExactLinearRow.named==prog.varsNamed 5)=true:=ASs
theorem AJr:(Rows.fnExactLinearRow.plainKeys==prog.plainKeys)=true:=ASs
theorem ALj:joinedFacts prog 5 f5 Rows.fnExactLinearSpec Rows.fnExactLinearRow=true:=by
 unfold joinedFacts
 rw[AJn,AJo,AJp,AJq,AJr]
 kernel_rfl
theorem fnExactLinear_holds:Rows.FnExactLinearSaid:=
 OpenClaim.holds_of_wide 5 f5 rfl rfl rfl rfl rfl rfl rfl ⟨rfl,rfl,rfl,rfl,rfl⟩ rfl rfl rfl rfl rfl ASs func5 ALj
  (YL ASs) (by unfold Func.isWrapper; first | (rw[bG AST]; kernel_rfl) | (rw[bu AST]; exact⟨rfl,rfl⟩))
  (fun os started H enc _=>Sj os started H enc)
end Go.Proofs.YthmifbbmgnhddaaGreat
