/- The value machine, part E: the operations that only read. -/
import Derived.Test.YtepjgnlinjlehaaGreatVmEa
import Derived.Laws.BytesArg
namespace Go.Vm
set_option linter.unusedSimpArgs false
set_option linter.unusedVariables false
open Go.RowKit

/-- n cells of a row from off on, as a value. -/
def cutRow (row : List Cl) (off n : Nat) (g : Bool) : Option AV :=
  if g then (if off + n ≤ row.length then some (.agg ((row.drop off).take n)) else none)
  else match row[off]? with
    | some c => some (.c c)
    | none => none

def noOwA : AV → Bool
  | .c x => !isOw x
  | .agg xs => xs.all fun c => !isOw c
  | _ => true

/-- An index value within a length. -/
def idxA (x : AV) : Option Nat := match x with
  | .c (.v (.int _ n)) => if 0 ≤ n then some n.toNat else none
  | _ => none

def pickA (t : Bool) (x y : AV) : AV := match t with
  | true => x
  | false => y

/-- The bytes of a slice. -/
def bytesA : List (List Cl) → Option (List Int)
  | [] => some []
  | [.v (.int .u8 n)] :: r => match bytesA r with
    | some ns => some (n :: ns)
    | none => none
  | _ :: _ => none

def opF (P : Program) (s : MS) (op : Op) : Option AV := match op with
  | .move x => some (evA s x)
  | .assign x => some (evA s x)
  | .pick c x y => match evA s c with
    | .c (.v (.bool t)) => some (pickA t (evA s x) (evA s y))
    | _ => none
  | .load T a => match tySize P T, tyAgg P T with
    | some n, some g => match evA s a with
      | .lp l i off => match obAt s.st l with
        | some ob => match ob.xs[i]? with
          | some row => match cutRow row off n g with
            | some y => if noOwA y = true then some y else none
            | none => none
          | none => none
        | none => none
      | .ip row => cutRow row 0 n g
      | _ => none
    | _, _ => none
  | .nilCheck x => match evA s x with
    | .lp l i off => match obAt s.st l with
      | some _ => some (.lp l i off)
      | none => none
    | .ip row => some (.ip row)
    | .c (.v (.func (.func f) a b)) => some (.c (.v (.func (.func f) a b)))
    | _ => none
  | .binOp op T x y _ => match evA s x, evA s y with
    | .c (.v a), .c (.v b) => match aBin P op T a b with
      | some r => some (.c (.v r))
      | none => none
    | .agg cs, .agg ds => match eqShape P T with
      | some ks => match eqBy ks cs ds with
        | some r => match op with
          | .eql => some (.c (.v (.bool r)))
          | .neq => some (.c (.v (.bool (!r))))
          | _ => none
        | none => none
      | none => none
    | _, _ => none
  | .unOp op _ x => match evA s x with
    | .c (.v a) => match aUn op a with
      | some r => some (.c (.v r))
      | none => none
    | _ => none
  | .convert src dst x => match P.underlying src, P.underlying dst, evA s x with
    | some _, some (.int k), .c (.v (.int _ n)) => some (.c (.v (.int k (k.wrap n))))
    | some _, some .string, .c (.v (.string b)) => some (.c (.v (.string b)))
    | some (.slice e), some .string, .c d => match P.underlying e, dataC s.st d with
      | some (.int .u8), some xs => match bytesA xs with
        | some ns => some (.c (.v (.string (strOfNums ns))))
        | none => none
      | _, _ => none
    | _, _, _ => none
  | .fieldAddr T x f => match tyField P T f with
    | some (fo, ft) => match tySize P ft with
      | some (_ + 1) => match evA s x with
        | .lp l i off => match obAt s.st l with
          | some _ => some (.lp l i (off + fo))
          | none => none
        | .ip row => some (.ip (row.drop fo))
        | _ => none
      | _ => none
    | none => none
  | .field T x f => match tyField P T f with
    | some (fo, ft) => match tySize P ft, tyAgg P ft, evA s x with
      | some n, some g, .agg row => cutRow row fo n g
      | _, _, _ => none
    | none => none
  | .indexAddr T x ix => match tyElem P T with
    | some e => match tySize P e, idxA (evA s ix) with
      | some n, some k => match evA s x with
        | .c (.sl xs) => match xs[k]? with
          | some row => if row.length = n then some (.ip row) else none
          | none => none
        | .c (.ref l) => match obAt s.st l with
          | some ob => if k < ob.xs.length ∧ ob.sz = n then some (.lp l k 0) else none
          | none => none
        | _ => none
      | _, _ => none
    | none => none
  | .index T x ix => match P.underlying T with
    | some .string => match evA s x, idxA (evA s ix) with
      | .c (.v (.string b)), some k => match b[k]? with
        | some c => some (.c (.v (.int .u8 c.toNat)))
        | none => none
      | _, _ => none
    | _ => none
  | .extract x ix => match evA s x with
    | .tup xs => xs[ix]?
    | _ => none
  | .call c => match c.callee with
    | .builtin .len => match c.argTypes.toList, c.args.toList with
      | [t], [x] => match P.underlying t, evA s x with
        | some .string, .c (.v (.string b)) => some (.c (.v (.int .i64 b.size)))
        | some (.slice _), .c d => match dataC s.st d with
          | some xs => some (.c (.v (.int .i64 xs.length)))
          | none => none
        | _, _ => none
      | _, _ => none
    | .builtin .min => match c.args.toList with
      | [x, y] => match evA s x, evA s y with
        | .c (.v (.int .i64 a)), .c (.v (.int .i64 b)) => some (.c (.v (.int .i64 (if b < a then b else a))))
        | _, _ => none
      | _ => none
    | .builtin .max => match c.args.toList with
      | [x, y] => match evA s x, evA s y with
        | .c (.v (.int .i64 a)), .c (.v (.int .i64 b)) => some (.c (.v (.int .i64 (if a < b then b else a))))
        | _, _ => none
      | _ => none
    | _ => none
  | _ => none

end Go.Vm
