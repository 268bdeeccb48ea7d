/-
  NARROWER THAN 'FOR EVERY INPUT', by the rows' own cells (each row's printed sentence says how): FnExactInsert: loops · FnExactScan: loops · FnExactLinear: loops · FnExactDropStep: loops · FnExactPutStep: loops.
  DERIVED. THE GIVEN ROWS OF THIS SEAT. 5 by the template 'for every input the law returns true; each argument reads behind the call as it read before'; 0 by the template 'total and deterministic' (their statements: YthmifbbmgnhddaaGreatTotals.lean).
  GIVEN WITH THE SEED: the statements are not yours to turn. If you find one false, say at which input.
  Laid BY PROGRAM, IN A SANDBOX (cutbox-rows.mjs): the forced cells as the released guide's own fill.sh prints them over the translation 318576d8d0459c42… (all of the seat's roots in one cut). By AI agents, Wed Nov 11 2026. No macro, syntax, notation, axiom, sorry.
-/
import Derived.Test.YthmifbbmgnhddaaGreatChecked
import GoSem.Claim
import GoSem.ClaimJoined
import GoSem.ClaimMapViews
import Derived.JoinedTies
import Derived.KernelRfl
namespace Go.Proofs.YthmifbbmgnhddaaGreat
/- THE CELL 'sum', in the pinned program and in every row, IS THE sha256 OF THE DUMP (.gsa) THAT YthmifbbmgnhddaaGreatProg.lean LOADS. Nothing in Lean hashes anything: it is a label: what it is worth is what the hold of that sum in a sandbox is worth. -/
noncomputable def Tryz.pinned : Pinned := { name := "ythmifbbmgnhddaagreat", sum := "318576d8d0459c425dcb41c462723ec2d99761af4fdb9d06d4892ef74ecc3cfa", checked := Tryz.checked }
namespace Rows
def none {H : Type} : Left H := { results := [], args := [] }

/-- 'laws.FnExactInsert': WHATEVER THE INPUT: true; the input reads as it did. -/
def fnExactInsertSpec : ChangeSpec := { name := "fnExactInsert", fn := fun _ => fun
  | [d1, d2, d3] => { results := [.lit (.bool true)], args := [d1, d2, d3] }
  | _ => none }
def fnExactInsertRow : OpenClaim := { program := "ythmifbbmgnhddaagreat", sum := "318576d8d0459c425dcb41c462723ec2d99761af4fdb9d06d4892ef74ecc3cfa", func := "loop.example/g00496/laws.FnExactInsert", spec := "fnExactInsert", unfollowed := true, recurses := true, loops := true, apart := false }
def FnExactInsertSaid : Prop := fnExactInsertRow.holds Tryz.pinned (OpenSpec.ofChange fnExactInsertSpec)

/-- ITS FALSE NEIGHBOUR: 'it returns false'. Refute it at one input. -/
def fnExactInsertWrong : ChangeSpec := { name := "fnExactInsert", fn := fun _ => fun
  | [d1, d2, d3] => { results := [.lit (.bool false)], args := [d1, d2, d3] }
  | _ => none }
def FnExactInsertWrongFalsely : Prop := fnExactInsertRow.holds Tryz.pinned (OpenSpec.ofChange fnExactInsertWrong)

/-- 'laws.FnExactScan': WHATEVER THE INPUT: true; the input reads as it did. -/
def fnExactScanSpec : ChangeSpec := { name := "fnExactScan", fn := fun _ => fun
  | [d1, d2, d3] => { results := [.lit (.bool true)], args := [d1, d2, d3] }
  | _ => none }
def fnExactScanRow : OpenClaim := { program := "ythmifbbmgnhddaagreat", sum := "318576d8d0459c425dcb41c462723ec2d99761af4fdb9d06d4892ef74ecc3cfa", func := "loop.example/g00496/laws.FnExactScan", spec := "fnExactScan", unfollowed := true, recurses := true, loops := true, apart := false }
def FnExactScanSaid : Prop := fnExactScanRow.holds Tryz.pinned (OpenSpec.ofChange fnExactScanSpec)

/-- ITS FALSE NEIGHBOUR: 'it returns false'. Refute it at one input. -/
def fnExactScanWrong : ChangeSpec := { name := "fnExactScan", fn := fun _ => fun
  | [d1, d2, d3] => { results := [.lit (.bool false)], args := [d1, d2, d3] }
  | _ => none }
def FnExactScanWrongFalsely : Prop := fnExactScanRow.holds Tryz.pinned (OpenSpec.ofChange fnExactScanWrong)

/-- 'laws.FnExactLinear': WHATEVER THE INPUT: true; the input reads as it did. -/
def fnExactLinearSpec : ChangeSpec := { name := "fnExactLinear", fn := fun _ => fun
  | [d] => { results := [.lit (.bool true)], args := [d] }
  | _ => none }
def fnExactLinearRow : OpenClaim := { program := "ythmifbbmgnhddaagreat", sum := "318576d8d0459c425dcb41c462723ec2d99761af4fdb9d06d4892ef74ecc3cfa", func := "loop.example/g00496/laws.FnExactLinear", spec := "fnExactLinear", unfollowed := true, recurses := true, loops := true, apart := false }
def FnExactLinearSaid : Prop := fnExactLinearRow.holds Tryz.pinned (OpenSpec.ofChange fnExactLinearSpec)

/-- ITS FALSE NEIGHBOUR: 'it returns false'. Refute it at one input. -/
def fnExactLinearWrong : ChangeSpec := { name := "fnExactLinear", fn := fun _ => fun
  | [d] => { results := [.lit (.bool false)], args := [d] }
  | _ => none }
def FnExactLinearWrongFalsely : Prop := fnExactLinearRow.holds Tryz.pinned (OpenSpec.ofChange fnExactLinearWrong)

/-- 'laws.FnExactDropStep': WHATEVER THE INPUT: true; the input reads as it did. -/
def fnExactDropStepSpec : ChangeSpec := { name := "fnExactDropStep", fn := fun _ => fun
  | [d1, d2] => { results := [.lit (.bool true)], args := [d1, d2] }
  | _ => none }
def fnExactDropStepRow : OpenClaim := { program := "ythmifbbmgnhddaagreat", sum := "318576d8d0459c425dcb41c462723ec2d99761af4fdb9d06d4892ef74ecc3cfa", func := "loop.example/g00496/laws.FnExactDropStep", spec := "fnExactDropStep", unfollowed := true, recurses := true, loops := true, apart := false }
def FnExactDropStepSaid : Prop := fnExactDropStepRow.holds Tryz.pinned (OpenSpec.ofChange fnExactDropStepSpec)

/-- ITS FALSE NEIGHBOUR: 'it returns false'. Refute it at one input. -/
def fnExactDropStepWrong : ChangeSpec := { name := "fnExactDropStep", fn := fun _ => fun
  | [d1, d2] => { results := [.lit (.bool false)], args := [d1, d2] }
  | _ => none }
def FnExactDropStepWrongFalsely : Prop := fnExactDropStepRow.holds Tryz.pinned (OpenSpec.ofChange fnExactDropStepWrong)

/-- 'laws.FnExactPutStep': WHATEVER THE INPUT: true; the input reads as it did. -/
def fnExactPutStepSpec : ChangeSpec := { name := "fnExactPutStep", fn := fun _ => fun
  | [d1, d2] => { results := [.lit (.bool true)], args := [d1, d2] }
  | _ => none }
def fnExactPutStepRow : OpenClaim := { program := "ythmifbbmgnhddaagreat", sum := "318576d8d0459c425dcb41c462723ec2d99761af4fdb9d06d4892ef74ecc3cfa", func := "loop.example/g00496/laws.FnExactPutStep", spec := "fnExactPutStep", unfollowed := true, recurses := true, loops := true, apart := false }
def FnExactPutStepSaid : Prop := fnExactPutStepRow.holds Tryz.pinned (OpenSpec.ofChange fnExactPutStepSpec)

/-- ITS FALSE NEIGHBOUR: 'it returns false'. Refute it at one input. -/
def fnExactPutStepWrong : ChangeSpec := { name := "fnExactPutStep", fn := fun _ => fun
  | [d1, d2] => { results := [.lit (.bool false)], args := [d1, d2] }
  | _ => none }
def FnExactPutStepWrongFalsely : Prop := fnExactPutStepRow.holds Tryz.pinned (OpenSpec.ofChange fnExactPutStepWrong)

/- THE SECOND FORM. 'bulk': how many values and letters a reading holds, each counted each time it is reached (what is shared counts as often as it is met; a slice's spare places count too). A statement '..UptoSaid' is the law's where the arguments, and the package variables that the reading takes, are together of bulk at most 1048576: NARROWER than '..Said'. Prove '..Said' where nothing that the law and all that it calls make is longer than what came in: it says more and counts as full. Else prove '..UptoSaid'. A law counts once. -/
mutual
def uptoBulk {H : Type} : DataW H → Nat
  | .lit (.string bytes) => bytes.length + 1
  | .lit _ => 1
  | .nil => 1
  | .ptr d => uptoBulk d + 1
  | .slice elems spare => uptoBulkAll elems + uptoBulkAll spare + 1
  | .agg parts => uptoBulkAll parts + 1
  | .iface _ d => uptoBulk d + 1
  | .map entries => uptoBulkEntries entries + 1
  | .held _ => 1
def uptoBulkAll {H : Type} : List (DataW H) → Nat
  | [] => 0
  | d :: r => uptoBulk d + uptoBulkAll r
def uptoBulkEntries {H : Type} : List (Lit × DataW H) → Nat
  | [] => 0
  | x :: r => uptoBulkEntry x + uptoBulkEntries r
def uptoBulkEntry {H : Type} : Lit × DataW H → Nat
  | (.string bytes, d) => bytes.length + uptoBulk d + 1
  | (_, d) => uptoBulk d + 1
 end
def uptoSmall : (H : Type) → List (DataW H) → Bool := fun _ ds => decide (uptoBulkAll ds ≤ 1048576)
def OpenSpec.upto (s : _root_.Go.ChangeSpec) : _root_.Go.OpenSpec := { _root_.Go.OpenSpec.ofChange s with cond := some uptoSmall }

/-- 'laws.FnExactInsert', WHERE WHAT IT READS IS OF BULK AT MOST 1048576: true; the input reads as it did. -/
def fnExactInsertUptoRow : OpenClaim := { program := "ythmifbbmgnhddaagreat", sum := "318576d8d0459c425dcb41c462723ec2d99761af4fdb9d06d4892ef74ecc3cfa", func := "loop.example/g00496/laws.FnExactInsert", spec := "fnExactInsert", unfollowed := true, recurses := true, loops := true, apart := false, narrowed := true }
def FnExactInsertUptoSaid : Prop := fnExactInsertUptoRow.holds Tryz.pinned (OpenSpec.upto fnExactInsertSpec)

/-- 'laws.FnExactScan', WHERE WHAT IT READS IS OF BULK AT MOST 1048576: true; the input reads as it did. -/
def fnExactScanUptoRow : OpenClaim := { program := "ythmifbbmgnhddaagreat", sum := "318576d8d0459c425dcb41c462723ec2d99761af4fdb9d06d4892ef74ecc3cfa", func := "loop.example/g00496/laws.FnExactScan", spec := "fnExactScan", unfollowed := true, recurses := true, loops := true, apart := false, narrowed := true }
def FnExactScanUptoSaid : Prop := fnExactScanUptoRow.holds Tryz.pinned (OpenSpec.upto fnExactScanSpec)

/-- 'laws.FnExactLinear', WHERE WHAT IT READS IS OF BULK AT MOST 1048576: true; the input reads as it did. -/
def fnExactLinearUptoRow : OpenClaim := { program := "ythmifbbmgnhddaagreat", sum := "318576d8d0459c425dcb41c462723ec2d99761af4fdb9d06d4892ef74ecc3cfa", func := "loop.example/g00496/laws.FnExactLinear", spec := "fnExactLinear", unfollowed := true, recurses := true, loops := true, apart := false, narrowed := true }
def FnExactLinearUptoSaid : Prop := fnExactLinearUptoRow.holds Tryz.pinned (OpenSpec.upto fnExactLinearSpec)

/-- 'laws.FnExactDropStep', WHERE WHAT IT READS IS OF BULK AT MOST 1048576: true; the input reads as it did. -/
def fnExactDropStepUptoRow : OpenClaim := { program := "ythmifbbmgnhddaagreat", sum := "318576d8d0459c425dcb41c462723ec2d99761af4fdb9d06d4892ef74ecc3cfa", func := "loop.example/g00496/laws.FnExactDropStep", spec := "fnExactDropStep", unfollowed := true, recurses := true, loops := true, apart := false, narrowed := true }
def FnExactDropStepUptoSaid : Prop := fnExactDropStepUptoRow.holds Tryz.pinned (OpenSpec.upto fnExactDropStepSpec)

/-- 'laws.FnExactPutStep', WHERE WHAT IT READS IS OF BULK AT MOST 1048576: true; the input reads as it did. -/
def fnExactPutStepUptoRow : OpenClaim := { program := "ythmifbbmgnhddaagreat", sum := "318576d8d0459c425dcb41c462723ec2d99761af4fdb9d06d4892ef74ecc3cfa", func := "loop.example/g00496/laws.FnExactPutStep", spec := "fnExactPutStep", unfollowed := true, recurses := true, loops := true, apart := false, narrowed := true }
def FnExactPutStepUptoSaid : Prop := fnExactPutStepUptoRow.holds Tryz.pinned (OpenSpec.upto fnExactPutStepSpec)

end Rows
end Go.Proofs.YthmifbbmgnhddaaGreat
