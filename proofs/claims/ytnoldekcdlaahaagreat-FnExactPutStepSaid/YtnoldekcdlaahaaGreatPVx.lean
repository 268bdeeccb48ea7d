/- PROVED: laws.FnExactPutStep returns true for every input, and each argument reads behind the call as it read before. No condition. -/
import Derived.Test.YtnoldekcdlaahaaGreatPVu
import Derived.Test.YtnoldekcdlaahaaGreatPRd
import Derived.Test.YtnoldekcdlaahaaGreatPVy
set_option linter.unusedSimpArgs false
set_option linter.unusedVariables false
open Go.Proofs.Tryz
namespace Go.Proofs.YtnoldekcdlaahaaGreat
open Go.Vm Go.ChangeShapes Go.WideShapes Go.ChangeAt Go.RowKit
section
variable {p q r:Prop}
theorem AQD(h:p:=by kernel_rfl):p:=h
end
set_option maxRecDepth 100000 in
theorem QQ (os:Os) (started:os.Started) (H:Type) (enc:TypeId×Value→H) :
  ReturnsInHanded {} checked os 4 .any (Rows.fnExactPutStepSpec.pre6 enc prog f4 Rows.fnExactPutStepRow.domain false) (Rows.fnExactPutStepSpec.post enc prog f4 false true false false):=by
 refine returnsInHanded_of_change (C:=checked) AHc started AQD func4
  (ChangeSpec.witness6 (enc:=enc) (C:=checked) false ⟨#[],#[.agg #[.slice none 0 0,.int .i64 0,.int .i64 0,.int .i64 0,.int .i64 0,.int .i64 0,.int .i64 0,.slice none 0 0,.slice none 0 0,.slice none 0 0,.slice none 0 0,.slice none 0 0,.slice none 0 0,.slice none 0 0],.int .i64 0],[]⟩ 8 AQD AQD AQD AQD) ?_
 intro W base args ds gs before hval0 hW hcnd _
 have hval:∀ (j:Nat) t v,f4.params[j]?=some t→args[j]?=some v→Value.okWide prog W .any base t v:=hval0
 have hlt:=hW.lt
 have hW':=hW
 obtain⟨p,q,hA0,hV,rfl,hfz,hnd⟩:=hW
 have hA:DataW.TrodAll enc prog W 0 (fun _=>true) true f4.params.toList args.toList ds p:=hA0
 rw[params4] at hA hval
 obtain⟨v0,v1,d0,d1,p0,p1,rfl,rfl,rfl,h0,h1⟩:=trodAll_two hA
 obtain⟨rfl,rfl⟩:=trodVars_none hV
 simp only[bQ] at hlt hW'
 obtain⟨us0,rfl,_⟩:=okWide_struct underlying33 (hval 0 33 v0 rfl rfl)
 obtain⟨fu0,h0'⟩:=h0
 obtain⟨x0,hx0⟩:=ACy fu0 _ _ h0'
 obtain⟨n1,rfl⟩:=okWide_int underlying3 (hval 1 3 v1 rfl rfl)
 obtain⟨fu1,h1'⟩:=h1
 obtain⟨x1,hx1⟩:=Ba fu1 _ _ h1'
 refine((YW x0 x1).2 W (Old W) [.agg us0,.int .i64 n1] (fun _ _ h=>h.lt) ⟨_,_,rfl,hx0.agg,⟨_,_,rfl,RdCs.one hx1,rfl⟩⟩).mono ?_
 rintro e W' ⟨vs,bs,St',hb⟩
 obtain⟨Φs,hres,_⟩:=hb.res
 obtain⟨u,us',b,bs',Φ,Φs',rfl,rfl,rfl,⟨hu,rfl⟩,rfl,rfl,rfl⟩:=hres
 obtain⟨rfl,_⟩:=hu
 exact⟨_,hb.ret,_,_,_,[],_,[],hW',trodAll_mk1 (shut_bool underlying4 true),trodAll_mk2 (Below.trod AAQ AQD (Yi AQD) ⟨fu0,h0'⟩ hb.below fun x hx=>hlt x APc) (Below.trod AAQ AQD (Yi AQD) ⟨fu1,h1'⟩ hb.below fun x hx=>hlt x APc),rfl,Below.frame hb.below _,fun h=>APh⟩
theorem fnExactPutStep_holds:Rows.FnExactPutStepSaid:=
 OpenClaim.holds_of_wide 4 f4 rfl rfl rfl rfl rfl rfl rfl ⟨rfl,rfl,rfl,rfl,rfl⟩ rfl rfl rfl rfl rfl AQD func4 AJm
  (Yi AQD) (by unfold Func.isWrapper; first | (rw[bF (by decide +kernel)]; kernel_rfl) | (rw[bz (by decide +kernel)]; exact⟨rfl,rfl⟩))
  (fun os started H enc _=>QQ os started H enc)
end Go.Proofs.YtnoldekcdlaahaaGreat
