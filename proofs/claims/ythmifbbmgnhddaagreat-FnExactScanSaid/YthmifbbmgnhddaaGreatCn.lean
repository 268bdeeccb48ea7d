/- PROVED: laws.FnExactScan returns true for every input, and each argument reads behind the call as it read before. No condition. -/
import Derived.Test.YthmifbbmgnhddaaGreatCm
import Derived.Test.YthmifbbmgnhddaaGreatRd
set_option linter.unusedSimpArgs false
set_option linter.unusedVariables false
open Go.Proofs.Tryz
namespace Go.Proofs.YthmifbbmgnhddaaGreat
open Go.Vm Go.ChangeShapes Go.WideShapes Go.ChangeAt Go.RowKit
section
variable {p q r:Prop}
theorem ASr(h:p:=by kernel_rfl):p:=h
end
theorem AJb:ownKnob prog.godebug=none:=ASr
theorem qE:laidOutB prog=true:=ASr
set_option maxRecDepth 100000 in
theorem VN (os:Os) (started:os.Started) (H:Type) (enc:TypeId×Value→H) :
  ReturnsInHanded {} checked os 4 .any (Rows.fnExactScanSpec.pre6 enc prog f4 Rows.fnExactScanRow.domain false) (Rows.fnExactScanSpec.post enc prog f4 false true false false):=by
 refine returnsInHanded_of_change (C:=checked) AJb started ASr func4
  (ChangeSpec.witness6 (enc:=enc) (C:=checked) false ⟨#[],#[.agg #[.slice none 0 0,.int .i64 0,.int .i64 0,.int .i64 0,.int .i64 0,.int .i64 0,.int .i64 0,.slice none 0 0,.slice none 0 0,.slice none 0 0,.slice none 0 0,.slice none 0 0,.slice none 0 0,.slice none 0 0],.int .i64 0,.agg #[.int .i64 0,.int .i64 0,.int .i64 0,.int .i64 0,.int .i64 0,.int .i64 0,.string ByteArray.empty,.slice none 0 0,.int .i64 0,.slice none 0 0]],[]⟩ 8 ASr ASr ASr ASr) ?_
 intro W base args ds gs before hval0 hW hcnd _
 have hval:∀ (j:Nat) t v,f4.params[j]?=some t→args[j]?=some v→Value.okWide prog W .any base t v:=hval0
 have hlt:=hW.lt
 have hW':=hW
 obtain⟨p,q,hA0,hV,rfl,hfz,hnd⟩:=hW
 have hA:DataW.TrodAll enc prog W 0 (fun _=>true) true f4.params.toList args.toList ds p:=hA0
 rw[params4] at hA hval
 obtain⟨v0,v1,v2,d0,d1,d2,p0,p1,p2,rfl,rfl,rfl,h0,h1,h2⟩:=trodAll_three hA
 obtain⟨rfl,rfl⟩:=trodVars_none hV
 simp only[bK] at hlt hW'
 obtain⟨us0,rfl,_⟩:=okWide_struct underlying33 (hval 0 33 v0 rfl rfl)
 obtain⟨fu0,h0'⟩:=h0
 obtain⟨x0,hx0⟩:=iO fu0 _ _ h0'
 obtain⟨n1,rfl⟩:=okWide_int underlying3 (hval 1 3 v1 rfl rfl)
 obtain⟨fu1,h1'⟩:=h1
 obtain⟨x1,hx1⟩:=BQ fu1 _ _ h1'
 obtain⟨us2,rfl,_⟩:=okWide_struct underlying63 (hval 2 63 v2 rfl rfl)
 obtain⟨fu2,h2'⟩:=h2
 obtain⟨x2,hx2⟩:=iM fu2 _ _ h2'
 refine((qC x0 x1 x2).2 W (Old W) [.agg us0,.int .i64 n1,.agg us2] (fun _ _ h=>h.lt) ⟨_,_,rfl,hx0.agg,⟨_,_,rfl,RdCs.one hx1,⟨_,_,rfl,hx2.agg,rfl⟩⟩⟩).mono ?_
 rintro e W' ⟨vs,bs,St',hb⟩
 obtain⟨Φs,hres,_⟩:=hb.res
 obtain⟨u,us',b,bs',Φ,Φs',rfl,rfl,rfl,⟨hu,rfl⟩,rfl,rfl,rfl⟩:=hres
 obtain⟨rfl,_⟩:=hu
 exact⟨_,hb.ret,_,_,_,[],_,[],hW',trodAll_mk1 (shut_bool underlying4 true),trodAll_mk3 (Below.trod qE ASr (YL ASr) ⟨fu0,h0'⟩ hb.below fun x hx=>hlt x ARS) (Below.trod qE ASr (YL ASr) ⟨fu1,h1'⟩ hb.below fun x hx=>hlt x ARS) (Below.trod qE ASr (YL ASr) ⟨fu2,h2'⟩ hb.below fun x hx=>hlt x ARS),rfl,Below.frame hb.below _,fun h=>AR0⟩
theorem AJc:(Rows.fnExactScanRow.inPlace==prog.inPlace 4)=true:=ASr
theorem AJd:(Rows.fnExactScanRow.unfollowed==prog.unfollowed 4)=true:=ASr
theorem AJe:(Rows.fnExactScanRow.recurses==prog.recurses 4)=true:=ASr
theorem AJf:(Rows.fnExactScanRow.named==prog.varsNamed 4)=true:=ASr
theorem AJg:(Rows.fnExactScanRow.plainKeys==prog.plainKeys)=true:=ASr
theorem ALc:joinedFacts prog 4 f4 Rows.fnExactScanSpec Rows.fnExactScanRow=true:=by
 unfold joinedFacts
 rw[AJc,AJd,AJe,AJf,AJg]
 kernel_rfl
theorem fnExactScan_holds:Rows.FnExactScanSaid:=
 OpenClaim.holds_of_wide 4 f4 rfl rfl rfl rfl rfl rfl rfl ⟨rfl,rfl,rfl,rfl,rfl⟩ rfl rfl rfl rfl rfl ASr func4 ALc
  (YL ASr) (by unfold Func.isWrapper; first | (rw[bG AST]; kernel_rfl) | (rw[bu AST]; exact⟨rfl,rfl⟩))
  (fun os started H enc _=>VN os started H enc)
end Go.Proofs.YthmifbbmgnhddaaGreat
