/-
  NARROWER THAN 'FOR EVERY INPUT', by the rows' own cells (each row's printed sentence says how): FnExactPackWhat: loops · FnExactHidden: loops · FnExactSameThen: loops · FnExactRowsIn: loops · FnExactTableAt: loops · FnExactReadAt: loops.
  DERIVED. THE GIVEN ROWS OF THIS SEAT. 6 by the template 'for every input the law returns true; each argument reads behind the call as it read before'; 0 by the template 'total and deterministic' (their statements: YthoeeoddgkjkkaaGreatTotals.lean).
  GIVEN WITH THE SEED: the statements are not yours to turn. If you find one false, say at which input.
  Laid BY PROGRAM, IN A SANDBOX (cutbox-rows.mjs): the forced cells as the released guide's own fill.sh prints them over the translation 1bef817f112c301b… (all of the seat's roots in one cut). By AI agents, Wed Nov 11 2026. No macro, syntax, notation, axiom, sorry.
-/
import Derived.Test.YthoeeoddgkjkkaaGreatChecked
import GoSem.Claim
import GoSem.ClaimJoined
import GoSem.ClaimMapViews
import Derived.JoinedTies
import Derived.KernelRfl
namespace Go.Proofs.YthoeeoddgkjkkaaGreat
/- THE CELL 'sum', in the pinned program and in every row, IS THE sha256 OF THE DUMP (.gsa) THAT YthoeeoddgkjkkaaGreatProg.lean LOADS. Nothing in Lean hashes anything: it is a label: what it is worth is what the hold of that sum in a sandbox is worth. -/
noncomputable def Tryz.pinned : Pinned := { name := "ythoeeoddgkjkkaagreat", sum := "1bef817f112c301be7b9ae592f4ed15c3ec876296f17a17948beee4acca626c9", checked := Tryz.checked }
namespace Rows
def none {H : Type} : Left H := { results := [], args := [] }

/-- 'laws.FnExactPackWhat': WHATEVER THE INPUT: true; the input reads as it did. -/
def fnExactPackWhatSpec : ChangeSpec := { name := "fnExactPackWhat", fn := fun _ => fun
  | [d] => { results := [.lit (.bool true)], args := [d] }
  | _ => none }
def fnExactPackWhatRow : OpenClaim := { program := "ythoeeoddgkjkkaagreat", sum := "1bef817f112c301be7b9ae592f4ed15c3ec876296f17a17948beee4acca626c9", func := "loop.example/g00496/laws.FnExactPackWhat", spec := "fnExactPackWhat", unfollowed := true, recurses := true, loops := true, apart := false }
def FnExactPackWhatSaid : Prop := fnExactPackWhatRow.holds Tryz.pinned (OpenSpec.ofChange fnExactPackWhatSpec)

/-- ITS FALSE NEIGHBOUR: 'it returns false'. Refute it at one input. -/
def fnExactPackWhatWrong : ChangeSpec := { name := "fnExactPackWhat", fn := fun _ => fun
  | [d] => { results := [.lit (.bool false)], args := [d] }
  | _ => none }
def FnExactPackWhatWrongFalsely : Prop := fnExactPackWhatRow.holds Tryz.pinned (OpenSpec.ofChange fnExactPackWhatWrong)

/-- 'laws.FnExactHidden': WHATEVER THE INPUT: true; the input reads as it did. -/
def fnExactHiddenSpec : ChangeSpec := { name := "fnExactHidden", fn := fun _ => fun
  | [d] => { results := [.lit (.bool true)], args := [d] }
  | _ => none }
def fnExactHiddenRow : OpenClaim := { program := "ythoeeoddgkjkkaagreat", sum := "1bef817f112c301be7b9ae592f4ed15c3ec876296f17a17948beee4acca626c9", func := "loop.example/g00496/laws.FnExactHidden", spec := "fnExactHidden", unfollowed := true, recurses := true, loops := true, apart := false }
def FnExactHiddenSaid : Prop := fnExactHiddenRow.holds Tryz.pinned (OpenSpec.ofChange fnExactHiddenSpec)

/-- ITS FALSE NEIGHBOUR: 'it returns false'. Refute it at one input. -/
def fnExactHiddenWrong : ChangeSpec := { name := "fnExactHidden", fn := fun _ => fun
  | [d] => { results := [.lit (.bool false)], args := [d] }
  | _ => none }
def FnExactHiddenWrongFalsely : Prop := fnExactHiddenRow.holds Tryz.pinned (OpenSpec.ofChange fnExactHiddenWrong)

/-- 'laws.FnExactSameThen': WHATEVER THE INPUT: true; the input reads as it did. -/
def fnExactSameThenSpec : ChangeSpec := { name := "fnExactSameThen", fn := fun _ => fun
  | [d1, d2] => { results := [.lit (.bool true)], args := [d1, d2] }
  | _ => none }
def fnExactSameThenRow : OpenClaim := { program := "ythoeeoddgkjkkaagreat", sum := "1bef817f112c301be7b9ae592f4ed15c3ec876296f17a17948beee4acca626c9", func := "loop.example/g00496/laws.FnExactSameThen", spec := "fnExactSameThen", unfollowed := true, recurses := true, loops := true, apart := false }
def FnExactSameThenSaid : Prop := fnExactSameThenRow.holds Tryz.pinned (OpenSpec.ofChange fnExactSameThenSpec)

/-- ITS FALSE NEIGHBOUR: 'it returns false'. Refute it at one input. -/
def fnExactSameThenWrong : ChangeSpec := { name := "fnExactSameThen", fn := fun _ => fun
  | [d1, d2] => { results := [.lit (.bool false)], args := [d1, d2] }
  | _ => none }
def FnExactSameThenWrongFalsely : Prop := fnExactSameThenRow.holds Tryz.pinned (OpenSpec.ofChange fnExactSameThenWrong)

/-- 'laws.FnExactRowsIn': WHATEVER THE INPUT: true; the input reads as it did. -/
def fnExactRowsInSpec : ChangeSpec := { name := "fnExactRowsIn", fn := fun _ => fun
  | [d1, d2, d3] => { results := [.lit (.bool true)], args := [d1, d2, d3] }
  | _ => none }
def fnExactRowsInRow : OpenClaim := { program := "ythoeeoddgkjkkaagreat", sum := "1bef817f112c301be7b9ae592f4ed15c3ec876296f17a17948beee4acca626c9", func := "loop.example/g00496/laws.FnExactRowsIn", spec := "fnExactRowsIn", unfollowed := true, recurses := true, loops := true, apart := false }
def FnExactRowsInSaid : Prop := fnExactRowsInRow.holds Tryz.pinned (OpenSpec.ofChange fnExactRowsInSpec)

/-- ITS FALSE NEIGHBOUR: 'it returns false'. Refute it at one input. -/
def fnExactRowsInWrong : ChangeSpec := { name := "fnExactRowsIn", fn := fun _ => fun
  | [d1, d2, d3] => { results := [.lit (.bool false)], args := [d1, d2, d3] }
  | _ => none }
def FnExactRowsInWrongFalsely : Prop := fnExactRowsInRow.holds Tryz.pinned (OpenSpec.ofChange fnExactRowsInWrong)

/-- 'laws.FnExactTableAt': WHATEVER THE INPUT: true; the input reads as it did. -/
def fnExactTableAtSpec : ChangeSpec := { name := "fnExactTableAt", fn := fun _ => fun
  | [d1, d2] => { results := [.lit (.bool true)], args := [d1, d2] }
  | _ => none }
def fnExactTableAtRow : OpenClaim := { program := "ythoeeoddgkjkkaagreat", sum := "1bef817f112c301be7b9ae592f4ed15c3ec876296f17a17948beee4acca626c9", func := "loop.example/g00496/laws.FnExactTableAt", spec := "fnExactTableAt", unfollowed := true, recurses := true, loops := true, apart := false }
def FnExactTableAtSaid : Prop := fnExactTableAtRow.holds Tryz.pinned (OpenSpec.ofChange fnExactTableAtSpec)

/-- ITS FALSE NEIGHBOUR: 'it returns false'. Refute it at one input. -/
def fnExactTableAtWrong : ChangeSpec := { name := "fnExactTableAt", fn := fun _ => fun
  | [d1, d2] => { results := [.lit (.bool false)], args := [d1, d2] }
  | _ => none }
def FnExactTableAtWrongFalsely : Prop := fnExactTableAtRow.holds Tryz.pinned (OpenSpec.ofChange fnExactTableAtWrong)

/-- 'laws.FnExactReadAt': WHATEVER THE INPUT: true; the input reads as it did. -/
def fnExactReadAtSpec : ChangeSpec := { name := "fnExactReadAt", fn := fun _ => fun
  | [d1, d2, d3] => { results := [.lit (.bool true)], args := [d1, d2, d3] }
  | _ => none }
def fnExactReadAtRow : OpenClaim := { program := "ythoeeoddgkjkkaagreat", sum := "1bef817f112c301be7b9ae592f4ed15c3ec876296f17a17948beee4acca626c9", func := "loop.example/g00496/laws.FnExactReadAt", spec := "fnExactReadAt", unfollowed := true, recurses := true, loops := true, apart := false }
def FnExactReadAtSaid : Prop := fnExactReadAtRow.holds Tryz.pinned (OpenSpec.ofChange fnExactReadAtSpec)

/-- ITS FALSE NEIGHBOUR: 'it returns false'. Refute it at one input. -/
def fnExactReadAtWrong : ChangeSpec := { name := "fnExactReadAt", fn := fun _ => fun
  | [d1, d2, d3] => { results := [.lit (.bool false)], args := [d1, d2, d3] }
  | _ => none }
def FnExactReadAtWrongFalsely : Prop := fnExactReadAtRow.holds Tryz.pinned (OpenSpec.ofChange fnExactReadAtWrong)

/- THE SECOND FORM. 'bulk': how many values and letters a reading holds, each counted each time it is reached (what is shared counts as often as it is met; a slice's spare places count too). A statement '..UptoSaid' is the law's where the arguments, and the package variables that the reading takes, are together of bulk at most 1048576: NARROWER than '..Said'. Prove '..Said' where nothing that the law and all that it calls make is longer than what came in: it says more and counts as full. Else prove '..UptoSaid'. A law counts once. -/
mutual
def uptoBulk {H : Type} : DataW H → Nat
  | .lit (.string bytes) => bytes.length + 1
  | .lit _ => 1
  | .nil => 1
  | .ptr d => uptoBulk d + 1
  | .slice elems spare => uptoBulkAll elems + uptoBulkAll spare + 1
  | .agg parts => uptoBulkAll parts + 1
  | .iface _ d => uptoBulk d + 1
  | .map entries => uptoBulkEntries entries + 1
  | .held _ => 1
def uptoBulkAll {H : Type} : List (DataW H) → Nat
  | [] => 0
  | d :: r => uptoBulk d + uptoBulkAll r
def uptoBulkEntries {H : Type} : List (Lit × DataW H) → Nat
  | [] => 0
  | x :: r => uptoBulkEntry x + uptoBulkEntries r
def uptoBulkEntry {H : Type} : Lit × DataW H → Nat
  | (.string bytes, d) => bytes.length + uptoBulk d + 1
  | (_, d) => uptoBulk d + 1
 end
def uptoSmall : (H : Type) → List (DataW H) → Bool := fun _ ds => decide (uptoBulkAll ds ≤ 1048576)
def OpenSpec.upto (s : _root_.Go.ChangeSpec) : _root_.Go.OpenSpec := { _root_.Go.OpenSpec.ofChange s with cond := some uptoSmall }

/-- 'laws.FnExactPackWhat', WHERE WHAT IT READS IS OF BULK AT MOST 1048576: true; the input reads as it did. -/
def fnExactPackWhatUptoRow : OpenClaim := { program := "ythoeeoddgkjkkaagreat", sum := "1bef817f112c301be7b9ae592f4ed15c3ec876296f17a17948beee4acca626c9", func := "loop.example/g00496/laws.FnExactPackWhat", spec := "fnExactPackWhat", unfollowed := true, recurses := true, loops := true, apart := false, narrowed := true }
def FnExactPackWhatUptoSaid : Prop := fnExactPackWhatUptoRow.holds Tryz.pinned (OpenSpec.upto fnExactPackWhatSpec)

/-- 'laws.FnExactHidden', WHERE WHAT IT READS IS OF BULK AT MOST 1048576: true; the input reads as it did. -/
def fnExactHiddenUptoRow : OpenClaim := { program := "ythoeeoddgkjkkaagreat", sum := "1bef817f112c301be7b9ae592f4ed15c3ec876296f17a17948beee4acca626c9", func := "loop.example/g00496/laws.FnExactHidden", spec := "fnExactHidden", unfollowed := true, recurses := true, loops := true, apart := false, narrowed := true }
def FnExactHiddenUptoSaid : Prop := fnExactHiddenUptoRow.holds Tryz.pinned (OpenSpec.upto fnExactHiddenSpec)

/-- 'laws.FnExactSameThen', WHERE WHAT IT READS IS OF BULK AT MOST 1048576: true; the input reads as it did. -/
def fnExactSameThenUptoRow : OpenClaim := { program := "ythoeeoddgkjkkaagreat", sum := "1bef817f112c301be7b9ae592f4ed15c3ec876296f17a17948beee4acca626c9", func := "loop.example/g00496/laws.FnExactSameThen", spec := "fnExactSameThen", unfollowed := true, recurses := true, loops := true, apart := false, narrowed := true }
def FnExactSameThenUptoSaid : Prop := fnExactSameThenUptoRow.holds Tryz.pinned (OpenSpec.upto fnExactSameThenSpec)

/-- 'laws.FnExactRowsIn', WHERE WHAT IT READS IS OF BULK AT MOST 1048576: true; the input reads as it did. -/
def fnExactRowsInUptoRow : OpenClaim := { program := "ythoeeoddgkjkkaagreat", sum := "1bef817f112c301be7b9ae592f4ed15c3ec876296f17a17948beee4acca626c9", func := "loop.example/g00496/laws.FnExactRowsIn", spec := "fnExactRowsIn", unfollowed := true, recurses := true, loops := true, apart := false, narrowed := true }
def FnExactRowsInUptoSaid : Prop := fnExactRowsInUptoRow.holds Tryz.pinned (OpenSpec.upto fnExactRowsInSpec)

/-- 'laws.FnExactTableAt', WHERE WHAT IT READS IS OF BULK AT MOST 1048576: true; the input reads as it did. -/
def fnExactTableAtUptoRow : OpenClaim := { program := "ythoeeoddgkjkkaagreat", sum := "1bef817f112c301be7b9ae592f4ed15c3ec876296f17a17948beee4acca626c9", func := "loop.example/g00496/laws.FnExactTableAt", spec := "fnExactTableAt", unfollowed := true, recurses := true, loops := true, apart := false, narrowed := true }
def FnExactTableAtUptoSaid : Prop := fnExactTableAtUptoRow.holds Tryz.pinned (OpenSpec.upto fnExactTableAtSpec)

/-- 'laws.FnExactReadAt', WHERE WHAT IT READS IS OF BULK AT MOST 1048576: true; the input reads as it did. -/
def fnExactReadAtUptoRow : OpenClaim := { program := "ythoeeoddgkjkkaagreat", sum := "1bef817f112c301be7b9ae592f4ed15c3ec876296f17a17948beee4acca626c9", func := "loop.example/g00496/laws.FnExactReadAt", spec := "fnExactReadAt", unfollowed := true, recurses := true, loops := true, apart := false, narrowed := true }
def FnExactReadAtUptoSaid : Prop := fnExactReadAtUptoRow.holds Tryz.pinned (OpenSpec.upto fnExactReadAtSpec)

end Rows
end Go.Proofs.YthoeeoddgkjkkaaGreat
