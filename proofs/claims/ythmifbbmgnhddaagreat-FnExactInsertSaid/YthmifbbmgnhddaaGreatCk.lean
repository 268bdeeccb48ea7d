/- PROVED: laws.FnExactInsert returns true for every input, and each argument reads behind the call as it read before. No condition. -/
import Derived.Test.YthmifbbmgnhddaaGreatCj
import Derived.Test.YthmifbbmgnhddaaGreatRd
set_option linter.unusedSimpArgs false
set_option linter.unusedVariables false
open Go.Proofs.Tryz
namespace Go.Proofs.YthmifbbmgnhddaaGreat
open Go.Vm Go.ChangeShapes Go.WideShapes Go.ChangeAt Go.RowKit
section
variable {p q r:Prop}
theorem ASp(h:p:=by kernel_rfl):p:=h
end
theorem AJV:ownKnob prog.godebug=none:=ASp
theorem qA:laidOutB prog=true:=ASp
set_option maxRecDepth 100000 in
theorem SC (os:Os) (started:os.Started) (H:Type) (enc:TypeId×Value→H) :
  ReturnsInHanded {} checked os 3 .any (Rows.fnExactInsertSpec.pre6 enc prog f3 Rows.fnExactInsertRow.domain false) (Rows.fnExactInsertSpec.post enc prog f3 false true false false):=by
 refine returnsInHanded_of_change (C:=checked) AJV started ASp func3
  (ChangeSpec.witness6 (enc:=enc) (C:=checked) false ⟨#[],#[.agg #[.slice none 0 0,.int .i64 0,.int .i64 0,.int .i64 0,.int .i64 0,.int .i64 0,.int .i64 0,.slice none 0 0,.slice none 0 0,.slice none 0 0,.slice none 0 0,.slice none 0 0,.slice none 0 0,.slice none 0 0],.int .i64 0,.slice none 0 0],[]⟩ 8 ASp ASp ASp ASp) ?_
 intro W base args ds gs before hval0 hW hcnd _
 have hval:∀ (j:Nat) t v,f3.params[j]?=some t→args[j]?=some v→Value.okWide prog W .any base t v:=hval0
 have hlt:=hW.lt
 have hW':=hW
 obtain⟨p,q,hA0,hV,rfl,hfz,hnd⟩:=hW
 have hA:DataW.TrodAll enc prog W 0 (fun _=>true) true f3.params.toList args.toList ds p:=hA0
 rw[params3] at hA hval
 obtain⟨v0,v1,v2,d0,d1,d2,p0,p1,p2,rfl,rfl,rfl,h0,h1,h2⟩:=trodAll_three hA
 obtain⟨rfl,rfl⟩:=trodVars_none hV
 simp only[bK] at hlt hW'
 obtain⟨us0,rfl,_⟩:=okWide_struct underlying33 (hval 0 33 v0 rfl rfl)
 obtain⟨fu0,h0'⟩:=h0
 obtain⟨x0,hx0⟩:=iO fu0 _ _ h0'
 obtain⟨n1,rfl⟩:=okWide_int underlying3 (hval 1 3 v1 rfl rfl)
 obtain⟨fu1,h1'⟩:=h1
 obtain⟨x1,hx1⟩:=BQ fu1 _ _ h1'
 obtain⟨a2,len2,cap2,rfl⟩:=okWide_slice underlying34 (hval 2 34 v2 rfl rfl)
 obtain⟨fu2,h2'⟩:=h2
 obtain⟨x2,hx2⟩:=Wn fu2 _ _ h2'
 refine((fD x0 x1 x2).2 W (Old W) [.agg us0,.int .i64 n1,.slice a2 len2 cap2] (fun _ _ h=>h.lt) ⟨_,_,rfl,hx0.agg,⟨_,_,rfl,RdCs.one hx1,⟨_,_,rfl,RdCs.one hx2,rfl⟩⟩⟩).mono ?_
 rintro e W' ⟨vs,bs,St',hb⟩
 obtain⟨Φs,hres,_⟩:=hb.res
 obtain⟨u,us',b,bs',Φ,Φs',rfl,rfl,rfl,⟨hu,rfl⟩,rfl,rfl,rfl⟩:=hres
 obtain⟨rfl,_⟩:=hu
 exact⟨_,hb.ret,_,_,_,[],_,[],hW',trodAll_mk1 (shut_bool underlying4 true),trodAll_mk3 (Below.trod qA ASp (YL ASp) ⟨fu0,h0'⟩ hb.below fun x hx=>hlt x ARS) (Below.trod qA ASp (YL ASp) ⟨fu1,h1'⟩ hb.below fun x hx=>hlt x ARS) (Below.trod qA ASp (YL ASp) ⟨fu2,h2'⟩ hb.below fun x hx=>hlt x ARS),rfl,Below.frame hb.below _,fun h=>AR0⟩
theorem AJW:(Rows.fnExactInsertRow.inPlace==prog.inPlace 3)=true:=ASp
theorem AJX:(Rows.fnExactInsertRow.unfollowed==prog.unfollowed 3)=true:=ASp
theorem AJY:(Rows.fnExactInsertRow.recurses==prog.recurses 3)=true:=ASp
theorem AJZ:(Rows.fnExactInsertRow.named==prog.varsNamed 3)=true:=ASp
theorem AJa:(Rows.fnExactInsertRow.plainKeys==prog.plainKeys)=true:=ASp
theorem ALb:joinedFacts prog 3 f3 Rows.fnExactInsertSpec Rows.fnExactInsertRow=true:=by
 unfold joinedFacts
 rw[AJW,AJX,AJY,AJZ,AJa]
 kernel_rfl
theorem fnExactInsert_holds:Rows.FnExactInsertSaid:=
 OpenClaim.holds_of_wide 3 f3 rfl rfl rfl rfl rfl rfl rfl ⟨rfl,rfl,rfl,rfl,rfl⟩ rfl rfl rfl rfl rfl ASp func3 ALb
  (YL ASp) (by unfold Func.isWrapper; first | (rw[bG AST]; kernel_rfl) | (rw[bu AST]; exact⟨rfl,rfl⟩))
  (fun os started H enc _=>SC os started H enc)
end Go.Proofs.YthmifbbmgnhddaaGreat
