/- PROVED: laws.FnExactQuiet returns true for every input, and each argument reads behind the call as it read before. No condition. -/
import Derived.Test.YtnoldekcdlaahaaGreatQd
import Derived.Test.YtnoldekcdlaahaaGreatRd
set_option linter.unusedSimpArgs false
set_option linter.unusedVariables false
open Go.Proofs.Tryz
namespace Go.Proofs.YtnoldekcdlaahaaGreat
open Go.Vm Go.ChangeShapes Go.WideShapes Go.ChangeAt Go.RowKit
section
variable {p q r:Prop}
theorem AQN(h:p:=by kernel_rfl):p:=h
end
theorem AHE:ownKnob prog.godebug=none:=AQN
theorem AFB:laidOutB prog=true:=AQN
set_option maxRecDepth 100000 in
theorem TS (os:Os) (started:os.Started) (H:Type) (enc:TypeId×Value→H) :
  ReturnsInHanded {} checked os 6 .any (Rows.fnExactQuietSpec.pre6 enc prog f6 Rows.fnExactQuietRow.domain false) (Rows.fnExactQuietSpec.post enc prog f6 false true false false):=by
 refine returnsInHanded_of_change (C:=checked) AHE started AQN func6
  (ChangeSpec.witness6 (enc:=enc) (C:=checked) false ⟨#[],#[.agg #[.slice none 0 0,.int .i64 0,.int .i64 0,.int .i64 0,.int .i64 0,.int .i64 0,.int .i64 0,.slice none 0 0,.slice none 0 0,.slice none 0 0,.slice none 0 0,.slice none 0 0,.slice none 0 0,.slice none 0 0]],[]⟩ 8 AQN AQN AQN AQN) ?_
 intro W base args ds gs before hval0 hW hcnd _
 have hval:∀ (j:Nat) t v,f6.params[j]?=some t→args[j]?=some v→Value.okWide prog W .any base t v:=hval0
 have hlt:=hW.lt
 have hW':=hW
 obtain⟨p,q,hA0,hV,rfl,hfz,hnd⟩:=hW
 have hA:DataW.TrodAll enc prog W 0 (fun _=>true) true f6.params.toList args.toList ds p:=hA0
 rw[params6] at hA hval
 obtain⟨v0,d0,rfl,rfl,h0⟩:=trodAll_one hA
 obtain⟨rfl,rfl⟩:=trodVars_none hV
 simp only[bI] at hlt hW'
 obtain⟨us0,rfl,_⟩:=okWide_struct underlying33 (hval 0 33 v0 rfl rfl)
 obtain⟨fu0,h0'⟩:=h0
 obtain⟨x0,hx0⟩:=tq fu0 _ _ h0'
 refine((jM x0).2 W (Old W) [.agg us0] (fun _ _ h=>h.lt) ⟨_,_,rfl,hx0.agg,rfl⟩).mono ?_
 rintro e W' ⟨vs,bs,St',hb⟩
 obtain⟨Φs,hres,_⟩:=hb.res
 obtain⟨u,us',b,bs',Φ,Φs',rfl,rfl,rfl,⟨hu,rfl⟩,rfl,rfl,rfl⟩:=hres
 obtain⟨rfl,_⟩:=hu
 exact⟨_,hb.ret,_,_,_,[],_,[],hW',trodAll_mk1 (shut_bool underlying4 true),trodAll_mk1 (Below.trod AFB AQN (bZ AQN) ⟨fu0,h0'⟩ hb.below fun x hx=>hlt x APe),rfl,Below.frame hb.below _,fun h=>APk⟩
theorem AHF:(Rows.fnExactQuietRow.inPlace==prog.inPlace 6)=true:=AQN
theorem AHG:(Rows.fnExactQuietRow.unfollowed==prog.unfollowed 6)=true:=AQN
theorem AHH:(Rows.fnExactQuietRow.recurses==prog.recurses 6)=true:=AQN
theorem AHI:(Rows.fnExactQuietRow.named==prog.varsNamed 6)=true:=AQN
theorem AHJ:(Rows.fnExactQuietRow.plainKeys==prog.plainKeys)=true:=AQN
theorem AJA:joinedFacts prog 6 f6 Rows.fnExactQuietSpec Rows.fnExactQuietRow=true:=by
 unfold joinedFacts
 rw[AHF,AHG,AHH,AHI,AHJ]
 kernel_rfl
theorem fnExactQuiet_holds:Rows.FnExactQuietSaid:=
 OpenClaim.holds_of_wide 6 f6 rfl rfl rfl rfl rfl rfl rfl ⟨rfl,rfl,rfl,rfl,rfl⟩ rfl rfl rfl rfl rfl AQN func6 AJA
  (bZ AQN) (by unfold Func.isWrapper; first | (rw[bu (by decide +kernel)]; kernel_rfl) | (rw[aZ (by decide +kernel)]; exact⟨rfl,rfl⟩))
  (fun os started H enc _=>TS os started H enc)
end Go.Proofs.YtnoldekcdlaahaaGreat
