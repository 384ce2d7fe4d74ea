
/- How types, annotations and trees are written, plain: no program in sight. -/
import Derived.Test.YtacihffkjadbbaaGreatDoorFq
import Derived.Test.YtacihffkjadbbaaGreatDoorR4W
import Derived.Test.YtacihffkjadbbaaGreatDoorKa
namespace Culp.Pt
set_option linter.unusedSimpArgs false
set_option linter.unusedVariables false
open Culp Culp.Tr
def isFn : Ty → Bool
  | .fn _ _ => true
  | _ => false
/-- A type's words. -/
def wr : Ty → List UInt8
  | .int => [105, 110, 116]
  | .bool => [98, 111, 111, 108]
  | .text => [116, 101, 120, 116]
  | .dyn => [63]
  | .fn a c => (if isFn a then [40] ++ wr a ++ [41] else wr a) ++ [32, 45, 62, 32] ++ wr c
  | .pair a c => [40] ++ wr a ++ [44, 32] ++ wr c ++ [41]
  | .list a => [91] ++ wr a ++ [93]
  | .box a => [98, 111, 120, 32] ++ (if isFn a then [40] ++ wr a ++ [41] else wr a)
/-- An annotation. -/
def note (s : ByteArray) : List UInt8 := if s.size = 0 then [] else [32, 58, 32] ++ wr (noteT s)
/-- A text as it is written. -/
def strOf (s : ByteArray) : List UInt8 := (Tx.quote s.data.toList).getD []
/-- The rank of a kind. -/
def rank (k : Int) : Nat := if k = 5 ∨ k = 6 ∨ k = 8 ∨ k = 9 ∨ k = 28 then 0 else if k = 14 ∨ k = 15 then 1 else if k = 10 ∨ k = 11 ∨ k = 13 then 2 else if k = 12 then 3 else if k = 16 ∨ k = 27 then 4 else if k = 7 then 5 else 6
/-- The rank that a kind asks of its kid number k. -/
def asked (t : Int) (k : Nat) : Nat := if t = 28 then 1 - k else if t = 14 ∨ t = 15 then 2 else if t = 10 ∨ t = 11 ∨ t = 13 then 2 + k else if t = 12 then 3 + k else if t = 16 ∨ t = 27 then 4 else if t = 7 then 5 - 5 * k else 0
/-- What stands ahead of the first kid. -/
def pre (x : Nd) : List UInt8 := if x.kind = 1 then Tx.decimal x.n.toNat else if x.kind = 2 then strOf x.s else if x.kind = 3 then (if x.n = 1 then [116, 114, 117, 101] else [102, 97, 108, 115, 101]) else if x.kind = 4 then x.s.data.toList else if x.kind = 5 then [102, 110, 32, 40] ++ x.s.data.toList ++ note x.t ++ [41] ++ note x.u ++ [32, 61, 62, 32] else if x.kind = 6 then (match two x.s.data.toList with | some (f, y) => [114, 101, 99, 32] ++ f ++ [32, 40] ++ y ++ note x.t ++ [41] ++ note x.u ++ [32, 61, 62, 32] | none => []) else if x.kind = 8 then [108, 101, 116, 32] ++ x.s.data.toList ++ note x.t ++ [32, 61, 32] else if x.kind = 9 then [105, 102, 32] else if x.kind = 16 then [45] else if x.kind = 27 then [33] else if x.kind = 18 then [40] else if x.kind = 29 then [40] else if x.kind = 21 then [91] else if x.kind = 26 then [98, 111, 120, 40] else if x.kind = 17 then [115, 105, 122, 101, 40] else if x.kind = 19 then [102, 105, 114, 115, 116, 40] else if x.kind = 20 then [115, 101, 99, 111, 110, 100, 40] else if x.kind = 22 then [104, 101, 97, 100, 40] else if x.kind = 23 then [116, 97, 105, 108, 40] else if x.kind = 24 then [101, 109, 112, 116, 121, 40] else if x.kind = 25 then [99, 111, 110, 115, 40] else []
/-- What stands ahead of the kid number k. -/
def sep (x : Nd) (k : Nat) : List UInt8 := if k = 0 then [] else if x.kind = 28 then [32, 58, 61, 32] else if x.kind = 14 then [32, 61, 61, 32] else if x.kind = 15 then [32, 60, 32] else if x.kind = 10 then [32, 43, 32] else if x.kind = 11 then [32, 45, 32] else if x.kind = 13 then [32, 43, 43, 32] else if x.kind = 12 then [32, 42, 32] else if x.kind = 18 then [44, 32] else if x.kind = 21 then [44, 32] else if x.kind = 25 then [44, 32] else if x.kind = 8 then [32, 105, 110, 32] else if x.kind = 7 then [40] else if x.kind = 9 then (if k = 1 then [32, 116, 104, 101, 110, 32] else [32, 101, 108, 115, 101, 32]) else []
/-- What stands behind the last kid. -/
def post (x : Nd) : List UInt8 := if x.kind = 7 then [41] else if x.kind = 18 then [41] else if x.kind = 29 then note x.t ++ [41] else if x.kind = 21 then [93] else if x.kind = 26 then [41] else if x.kind = 17 then [41] else if x.kind = 19 then [41] else if x.kind = 20 then [41] else if x.kind = 22 then [41] else if x.kind = 23 then [41] else if x.kind = 24 then [41] else if x.kind = 25 then [41] else []
def br (c : Bool) (l : List UInt8) : List UInt8 := if c then [40] ++ l ++ [41] else l
/-- The kids of a node, from the one of number k on. -/
def kids (x : Nd) (k : Nat) : F → List UInt8
  | .nil => []
  | .cons y ky r => sep x k ++ br (decide (rank y.kind < asked x.kind k)) (pre y ++ kids y 0 ky ++ post y) ++ kids x (k + 1) r
def part (x : Nd) (ks : F) : List UInt8 := pre x ++ kids x 0 ks ++ post x
end Culp.Pt
