/-
  NARROWER THAN 'FOR EVERY INPUT', by the rows' own cells (each row's printed sentence says how): FnExactBound: loops · FnExactBytesOf: loops · FnExactPackedOf: loops · FnExactUsed: loops · FnExactRipes: loops · FnExactReachable: loops.
  DERIVED. THE GIVEN ROWS OF THIS SEAT. 6 by the template 'for every input the law returns true; each argument reads behind the call as it read before'; 0 by the template 'total and deterministic' (their statements: YtajokmlnpnfkoaaTotals.lean).
  GIVEN WITH THE SEED: the statements are not yours to turn. If you find one false, say at which input.
  Laid BY PROGRAM, IN A SANDBOX (cutbox-rows.mjs): the forced cells as the released guide's own fill.sh prints them over the translation 26b725d268346dd5… (all of the seat's roots in one cut). By AI agents, Wed Nov 11 2026. No macro, syntax, notation, axiom, sorry.
-/
import Derived.Test.YtajokmlnpnfkoaaChecked
import GoSem.Claim
import GoSem.ClaimJoined
import GoSem.ClaimMapViews
import Derived.JoinedTies
import Derived.KernelRfl
namespace Go.Proofs.Ytajokmlnpnfkoaa
/- THE CELL 'sum', in the pinned program and in every row, IS THE sha256 OF THE DUMP (.gsa) THAT YtajokmlnpnfkoaaProg.lean LOADS. Nothing in Lean hashes anything: it is a label: what it is worth is what the hold of that sum in a sandbox is worth. -/
noncomputable def Try.pinned : Pinned := { name := "ytajokmlnpnfkoaa", sum := "26b725d268346dd5049db4c3ed931fcee513efb2c5387897bc3758dbb02a21fc", checked := Try.checked }
namespace Rows
def none {H : Type} : Left H := { results := [], args := [] }

/-- 'laws.FnExactBound': WHATEVER THE INPUT: true; the input reads as it did. -/
def fnExactBoundSpec : ChangeSpec := { name := "fnExactBound", fn := fun _ => fun
  | [d] => { results := [.lit (.bool true)], args := [d] }
  | _ => none }
def fnExactBoundRow : OpenClaim := { program := "ytajokmlnpnfkoaa", sum := "26b725d268346dd5049db4c3ed931fcee513efb2c5387897bc3758dbb02a21fc", func := "loop.example/g00496/laws.FnExactBound", spec := "fnExactBound", recurses := true, loops := true, apart := false }
def FnExactBoundSaid : Prop := fnExactBoundRow.holds Try.pinned (OpenSpec.ofChange fnExactBoundSpec)

/-- ITS FALSE NEIGHBOUR: 'it returns false'. Refute it at one input. -/
def fnExactBoundWrong : ChangeSpec := { name := "fnExactBound", fn := fun _ => fun
  | [d] => { results := [.lit (.bool false)], args := [d] }
  | _ => none }
def FnExactBoundWrongFalsely : Prop := fnExactBoundRow.holds Try.pinned (OpenSpec.ofChange fnExactBoundWrong)

/-- 'laws.FnExactBytesOf': WHATEVER THE INPUT: true; the input reads as it did. -/
def fnExactBytesOfSpec : ChangeSpec := { name := "fnExactBytesOf", fn := fun _ => fun
  | [d] => { results := [.lit (.bool true)], args := [d] }
  | _ => none }
def fnExactBytesOfRow : OpenClaim := { program := "ytajokmlnpnfkoaa", sum := "26b725d268346dd5049db4c3ed931fcee513efb2c5387897bc3758dbb02a21fc", func := "loop.example/g00496/laws.FnExactBytesOf", spec := "fnExactBytesOf", recurses := true, loops := true, apart := false }
def FnExactBytesOfSaid : Prop := fnExactBytesOfRow.holds Try.pinned (OpenSpec.ofChange fnExactBytesOfSpec)

/-- ITS FALSE NEIGHBOUR: 'it returns false'. Refute it at one input. -/
def fnExactBytesOfWrong : ChangeSpec := { name := "fnExactBytesOf", fn := fun _ => fun
  | [d] => { results := [.lit (.bool false)], args := [d] }
  | _ => none }
def FnExactBytesOfWrongFalsely : Prop := fnExactBytesOfRow.holds Try.pinned (OpenSpec.ofChange fnExactBytesOfWrong)

/-- 'laws.FnExactPackedOf': WHATEVER THE INPUT: true; the input reads as it did. -/
def fnExactPackedOfSpec : ChangeSpec := { name := "fnExactPackedOf", fn := fun _ => fun
  | [d] => { results := [.lit (.bool true)], args := [d] }
  | _ => none }
def fnExactPackedOfRow : OpenClaim := { program := "ytajokmlnpnfkoaa", sum := "26b725d268346dd5049db4c3ed931fcee513efb2c5387897bc3758dbb02a21fc", func := "loop.example/g00496/laws.FnExactPackedOf", spec := "fnExactPackedOf", recurses := true, loops := true, apart := false }
def FnExactPackedOfSaid : Prop := fnExactPackedOfRow.holds Try.pinned (OpenSpec.ofChange fnExactPackedOfSpec)

/-- ITS FALSE NEIGHBOUR: 'it returns false'. Refute it at one input. -/
def fnExactPackedOfWrong : ChangeSpec := { name := "fnExactPackedOf", fn := fun _ => fun
  | [d] => { results := [.lit (.bool false)], args := [d] }
  | _ => none }
def FnExactPackedOfWrongFalsely : Prop := fnExactPackedOfRow.holds Try.pinned (OpenSpec.ofChange fnExactPackedOfWrong)

/-- 'laws.FnExactUsed': WHATEVER THE INPUT: true; the input reads as it did. -/
def fnExactUsedSpec : ChangeSpec := { name := "fnExactUsed", fn := fun _ => fun
  | [d] => { results := [.lit (.bool true)], args := [d] }
  | _ => none }
def fnExactUsedRow : OpenClaim := { program := "ytajokmlnpnfkoaa", sum := "26b725d268346dd5049db4c3ed931fcee513efb2c5387897bc3758dbb02a21fc", func := "loop.example/g00496/laws.FnExactUsed", spec := "fnExactUsed", recurses := true, loops := true, apart := false }
def FnExactUsedSaid : Prop := fnExactUsedRow.holds Try.pinned (OpenSpec.ofChange fnExactUsedSpec)

/-- ITS FALSE NEIGHBOUR: 'it returns false'. Refute it at one input. -/
def fnExactUsedWrong : ChangeSpec := { name := "fnExactUsed", fn := fun _ => fun
  | [d] => { results := [.lit (.bool false)], args := [d] }
  | _ => none }
def FnExactUsedWrongFalsely : Prop := fnExactUsedRow.holds Try.pinned (OpenSpec.ofChange fnExactUsedWrong)

/-- 'laws.FnExactRipes': WHATEVER THE INPUT: true; the input reads as it did. -/
def fnExactRipesSpec : ChangeSpec := { name := "fnExactRipes", fn := fun _ => fun
  | [d] => { results := [.lit (.bool true)], args := [d] }
  | _ => none }
def fnExactRipesRow : OpenClaim := { program := "ytajokmlnpnfkoaa", sum := "26b725d268346dd5049db4c3ed931fcee513efb2c5387897bc3758dbb02a21fc", func := "loop.example/g00496/laws.FnExactRipes", spec := "fnExactRipes", recurses := true, loops := true, apart := false }
def FnExactRipesSaid : Prop := fnExactRipesRow.holds Try.pinned (OpenSpec.ofChange fnExactRipesSpec)

/-- ITS FALSE NEIGHBOUR: 'it returns false'. Refute it at one input. -/
def fnExactRipesWrong : ChangeSpec := { name := "fnExactRipes", fn := fun _ => fun
  | [d] => { results := [.lit (.bool false)], args := [d] }
  | _ => none }
def FnExactRipesWrongFalsely : Prop := fnExactRipesRow.holds Try.pinned (OpenSpec.ofChange fnExactRipesWrong)

/-- 'laws.FnExactReachable': WHATEVER THE INPUT: true; the input reads as it did. -/
def fnExactReachableSpec : ChangeSpec := { name := "fnExactReachable", fn := fun _ => fun
  | [d1, d2] => { results := [.lit (.bool true)], args := [d1, d2] }
  | _ => none }
def fnExactReachableRow : OpenClaim := { program := "ytajokmlnpnfkoaa", sum := "26b725d268346dd5049db4c3ed931fcee513efb2c5387897bc3758dbb02a21fc", func := "loop.example/g00496/laws.FnExactReachable", spec := "fnExactReachable", recurses := true, loops := true, apart := false }
def FnExactReachableSaid : Prop := fnExactReachableRow.holds Try.pinned (OpenSpec.ofChange fnExactReachableSpec)

/-- ITS FALSE NEIGHBOUR: 'it returns false'. Refute it at one input. -/
def fnExactReachableWrong : ChangeSpec := { name := "fnExactReachable", fn := fun _ => fun
  | [d1, d2] => { results := [.lit (.bool false)], args := [d1, d2] }
  | _ => none }
def FnExactReachableWrongFalsely : Prop := fnExactReachableRow.holds Try.pinned (OpenSpec.ofChange fnExactReachableWrong)

/- THE SECOND FORM. 'bulk': how many values and letters a reading holds, each counted each time it is reached (what is shared counts as often as it is met; a slice's spare places count too). A statement '..UptoSaid' is the law's where the arguments, and the package variables that the reading takes, are together of bulk at most 1048576: NARROWER than '..Said'. Prove '..Said' where nothing that the law and all that it calls make is longer than what came in: it says more and counts as full. Else prove '..UptoSaid'. A law counts once. -/
mutual
def uptoBulk {H : Type} : DataW H → Nat
  | .lit (.string bytes) => bytes.length + 1
  | .lit _ => 1
  | .nil => 1
  | .ptr d => uptoBulk d + 1
  | .slice elems spare => uptoBulkAll elems + uptoBulkAll spare + 1
  | .agg parts => uptoBulkAll parts + 1
  | .iface _ d => uptoBulk d + 1
  | .map entries => uptoBulkEntries entries + 1
  | .held _ => 1
def uptoBulkAll {H : Type} : List (DataW H) → Nat
  | [] => 0
  | d :: r => uptoBulk d + uptoBulkAll r
def uptoBulkEntries {H : Type} : List (Lit × DataW H) → Nat
  | [] => 0
  | x :: r => uptoBulkEntry x + uptoBulkEntries r
def uptoBulkEntry {H : Type} : Lit × DataW H → Nat
  | (.string bytes, d) => bytes.length + uptoBulk d + 1
  | (_, d) => uptoBulk d + 1
 end
def uptoSmall : (H : Type) → List (DataW H) → Bool := fun _ ds => decide (uptoBulkAll ds ≤ 1048576)
def OpenSpec.upto (s : _root_.Go.ChangeSpec) : _root_.Go.OpenSpec := { _root_.Go.OpenSpec.ofChange s with cond := some uptoSmall }

/-- 'laws.FnExactBound', WHERE WHAT IT READS IS OF BULK AT MOST 1048576: true; the input reads as it did. -/
def fnExactBoundUptoRow : OpenClaim := { program := "ytajokmlnpnfkoaa", sum := "26b725d268346dd5049db4c3ed931fcee513efb2c5387897bc3758dbb02a21fc", func := "loop.example/g00496/laws.FnExactBound", spec := "fnExactBound", recurses := true, loops := true, apart := false, narrowed := true }
def FnExactBoundUptoSaid : Prop := fnExactBoundUptoRow.holds Try.pinned (OpenSpec.upto fnExactBoundSpec)

/-- 'laws.FnExactBytesOf', WHERE WHAT IT READS IS OF BULK AT MOST 1048576: true; the input reads as it did. -/
def fnExactBytesOfUptoRow : OpenClaim := { program := "ytajokmlnpnfkoaa", sum := "26b725d268346dd5049db4c3ed931fcee513efb2c5387897bc3758dbb02a21fc", func := "loop.example/g00496/laws.FnExactBytesOf", spec := "fnExactBytesOf", recurses := true, loops := true, apart := false, narrowed := true }
def FnExactBytesOfUptoSaid : Prop := fnExactBytesOfUptoRow.holds Try.pinned (OpenSpec.upto fnExactBytesOfSpec)

/-- 'laws.FnExactPackedOf', WHERE WHAT IT READS IS OF BULK AT MOST 1048576: true; the input reads as it did. -/
def fnExactPackedOfUptoRow : OpenClaim := { program := "ytajokmlnpnfkoaa", sum := "26b725d268346dd5049db4c3ed931fcee513efb2c5387897bc3758dbb02a21fc", func := "loop.example/g00496/laws.FnExactPackedOf", spec := "fnExactPackedOf", recurses := true, loops := true, apart := false, narrowed := true }
def FnExactPackedOfUptoSaid : Prop := fnExactPackedOfUptoRow.holds Try.pinned (OpenSpec.upto fnExactPackedOfSpec)

/-- 'laws.FnExactUsed', WHERE WHAT IT READS IS OF BULK AT MOST 1048576: true; the input reads as it did. -/
def fnExactUsedUptoRow : OpenClaim := { program := "ytajokmlnpnfkoaa", sum := "26b725d268346dd5049db4c3ed931fcee513efb2c5387897bc3758dbb02a21fc", func := "loop.example/g00496/laws.FnExactUsed", spec := "fnExactUsed", recurses := true, loops := true, apart := false, narrowed := true }
def FnExactUsedUptoSaid : Prop := fnExactUsedUptoRow.holds Try.pinned (OpenSpec.upto fnExactUsedSpec)

/-- 'laws.FnExactRipes', WHERE WHAT IT READS IS OF BULK AT MOST 1048576: true; the input reads as it did. -/
def fnExactRipesUptoRow : OpenClaim := { program := "ytajokmlnpnfkoaa", sum := "26b725d268346dd5049db4c3ed931fcee513efb2c5387897bc3758dbb02a21fc", func := "loop.example/g00496/laws.FnExactRipes", spec := "fnExactRipes", recurses := true, loops := true, apart := false, narrowed := true }
def FnExactRipesUptoSaid : Prop := fnExactRipesUptoRow.holds Try.pinned (OpenSpec.upto fnExactRipesSpec)

/-- 'laws.FnExactReachable', WHERE WHAT IT READS IS OF BULK AT MOST 1048576: true; the input reads as it did. -/
def fnExactReachableUptoRow : OpenClaim := { program := "ytajokmlnpnfkoaa", sum := "26b725d268346dd5049db4c3ed931fcee513efb2c5387897bc3758dbb02a21fc", func := "loop.example/g00496/laws.FnExactReachable", spec := "fnExactReachable", recurses := true, loops := true, apart := false, narrowed := true }
def FnExactReachableUptoSaid : Prop := fnExactReachableUptoRow.holds Try.pinned (OpenSpec.upto fnExactReachableSpec)

end Rows
end Go.Proofs.Ytajokmlnpnfkoaa
