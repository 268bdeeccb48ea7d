/- PROVED: laws.FnExactPackStep returns true for every input, and each argument reads behind the call as_ it read before. No condition. -/
import Derived.Test.YtdagmocgcanknaaGreatJq
import Derived.Test.YtdagmocgcanknaaGreatJs
set_option linter.unusedSimpArgs false
set_option linter.unusedVariables false
set_option maxRecDepth 100000
open Go.Proofs.Tryz
namespace Go.Proofs.YtdagmocgcanknaaGreat
open Go.Vm Go.ChangeShapes Go.WideShapes Go.ChangeAt Go.RowKit
section
variable {p q r:Prop}
theorem AQw(h:p:=by kernel_rfl):p:=h
end
theorem QN (os:Os) (started:os.Started) (H:Type) (enc:TypeId×Value->H) :
  ReturnsInHanded {} checked os 3 .any (Rows.fnExactPackStepSpec.pre6 enc prog f3 Rows.fnExactPackStepRow.domain false) (Rows.fnExactPackStepSpec.post enc prog f3 false true false false):=by
 refine returnsInHanded_of_change (C:=checked) AGr started AQw func3
  (ChangeSpec.witness6 (enc:=enc) (C:=checked) false ⟨#[],#[.agg #[.slice none 0 0,.int .i64 0,.int .i64 0,.int .i64 0,.int .i64 0,.int .i64 0,.int .i64 0,.slice none 0 0,.slice none 0 0,.slice none 0 0,.slice none 0 0,.slice none 0 0,.slice none 0 0,.slice none 0 0],.int .i64 0],[]⟩ 8 AQw AQw AQw AQw) ?_
 intro W base args ds gs before hval0 hW hcnd _
 have hval:∀ (j:Nat) t v,f3.params[j]?=some t->args[j]?=some v->Value.okWide prog W .any base t v:=hval0
 have hlt:=hW.lt
 have hW':=hW
 obtain⟨p,q,hA0,hV,rfl,hfz,hnd⟩:=hW
 have hA:DataW.TrodAll enc prog W 0 (fun _=>true) true f3.params.toList args.toList ds p:=hA0
 rw[params3] at hA hval
 obtain⟨v0,v1,d0,d1,p0,p1,rfl,rfl,rfl,h0,h1⟩:=trodAll_two hA
 obtain⟨rfl,rfl⟩:=trodVars_none hV
 simp only[bc] at hlt hW'
 obtain⟨us0,rfl,_⟩:=okWide_struct underlying33 (hval 0 33 v0 rfl rfl)
 obtain⟨fu0,h0'⟩:=h0
 obtain⟨x0,hx0⟩:=ADO fu0 _ _ h0'
 obtain⟨n1,rfl⟩:=okWide_int underlying3 (hval 1 3 v1 rfl rfl)
 obtain⟨fu1,h1'⟩:=h1
 obtain⟨x1,hx1⟩:=Bf fu1 _ _ h1'
 refine((XQ x0 x1).2 W (Old W) [.agg us0,.int .i64 n1] (fun _ _ h=>h.lt) ⟨_,_,rfl,hx0.agg,⟨_,_,rfl,RdCs.one hx1,rfl⟩⟩).mono ?_
 rintro e W' ⟨vs,bs,St',hb⟩
 obtain⟨Φs,hres,_⟩:=hb.res
 obtain⟨u,us',b,bs',Φ,Φs',rfl,rfl,rfl,⟨hu,rfl⟩,rfl,rfl,rfl⟩:=hres
 obtain⟨rfl,_⟩:=hu
 exact⟨_,hb.ret,_,_,_,[],_,[],hW',trodAll_mk1 (shut_bool underlying4 true),trodAll_mk2 (Below.trod AAG AQw (iT AQw) ⟨fu0,h0'⟩ hb.below fun x hx=>hlt x AP3) (Below.trod AAG AQw (iT AQw) ⟨fu1,h1'⟩ hb.below fun x hx=>hlt x AP3),rfl,Below.frame hb.below _,fun h=>AP8⟩
theorem fnExactPackStep_holds:Rows.FnExactPackStepSaid:=
 OpenClaim.holds_of_wide 3 f3 rfl rfl rfl rfl rfl rfl rfl ⟨rfl,rfl,rfl,rfl,rfl⟩ rfl rfl rfl rfl rfl AQw func3 AIk
  (iT AQw) (by unfold Func.isWrapper; first | (rw[aV (by decide +kernel)]; kernel_rfl) | (rw[aR (by decide +kernel)]; exact⟨rfl,rfl⟩))
  (fun os started H enc _=>QN os started H enc)
