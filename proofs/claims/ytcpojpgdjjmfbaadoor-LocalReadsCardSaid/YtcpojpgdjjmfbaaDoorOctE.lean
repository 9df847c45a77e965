/- Contract of octet's Put. -/
import Derived.Test.YtcpojpgdjjmfbaaDoorOctD
namespace Go.Proofs.YtcpojpgdjjmfbaaDoor
set_option linter.unusedVariables false
set_option linter.unusedSimpArgs false
set_option maxRecDepth 100000
open Go.RowKit
/-- Bytes with others at a place. -/
def putAt (l : List UInt8) (p : Nat) (bs : List UInt8) : List UInt8 := l.take p ++ (bs ++ l.drop (p + bs.length))
theorem putAt_length (l : List UInt8) (p : Nat) (bs : List UInt8) (h : p + bs.length ≤ l.length) : (putAt l p bs).length = l.length := by
  simp [putAt]; omega
theorem bcells_splice (l : List UInt8) (p : Nat) (bs : List UInt8) : splice (bcells l) p (bcells bs) = bcells (putAt l p bs) := by
  simp [splice, bcells, putAt, List.map_take, List.map_drop]
theorem splice_take (C cs : List Value) (p n : Nat) (h1 : p + cs.length ≤ n) (h2 : n ≤ C.length) : (splice C p cs).take n = splice (C.take n) p cs := by
  unfold splice
  have e1 : (C.take p).length = p := by rw [List.length_take]; omega
  have e2 : (C.take n).take p = C.take p := by rw [List.take_take, Nat.min_eq_left (by omega)]
  have e3 : (C.take p).take n = C.take p := List.take_of_length_le (by omega)
  have e4 : cs.take (n - p) = cs := List.take_of_length_le (by omega)
  rw [List.take_append, e1, e3, List.take_append, e4, e2, List.drop_take]
  congr 3
  omega
end Go.Proofs.YtcpojpgdjjmfbaaDoor
