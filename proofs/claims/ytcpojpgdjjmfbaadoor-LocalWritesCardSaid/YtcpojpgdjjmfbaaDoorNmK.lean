/- name.Less and the reference's Less. -/
import Derived.Test.YtcpojpgdjjmfbaaDoorNmJ
import Derived.Deep.QuietTactic
import Derived.BigQuiet
namespace Go.Proofs.YtcpojpgdjjmfbaaDoor
set_option linter.unusedVariables false
set_option linter.unusedSimpArgs false
set_option maxRecDepth 100000
open Go.RowKit
theorem bl_drewN {B : Nat} {a w : World} (h : Below B a w) (n : Nat) : Below B a (w.drewN n) := ⟨h.os, h.tape, h.output, h.size, h.block⟩
/-- Part by part. -/
def lessL : List ByteArray → List ByteArray → Bool
  | [], [] => false
  | [], _ :: _ => true
  | _ :: _, [] => false
  | a :: x, b :: y => if a.toList == b.toList then lessL x y else Op.bytesLess a.toList b.toList
theorem lessL_end (x y : List ByteArray) (k : Nat) (h : x.length ≤ k ∨ y.length ≤ k) (hx : k ≤ x.length) (hy : k ≤ y.length) : lessL (x.drop k) (y.drop k) = decide (x.length < y.length) := by
  rcases h with h | h
  · rw [List.drop_eq_nil_of_le h]
    by_cases c : k < y.length
    · rw [List.drop_eq_getElem_cons c]
      show true = _
      rw [decide_eq_true (by omega)]
    · rw [List.drop_eq_nil_of_le (by omega)]
      show false = _
      rw [decide_eq_false (by omega)]
  · rw [List.drop_eq_nil_of_le h]
    by_cases c : k < x.length
    · rw [List.drop_eq_getElem_cons c]
      show false = _
      rw [decide_eq_false (by omega)]
    · rw [List.drop_eq_nil_of_le (by omega)]
      show false = _
      rw [decide_eq_false (by omega)]
theorem lessL_same (x y : List ByteArray) (k : Nat) (hx : k < x.length) (hy : k < y.length) (h : ((x[k]).toList == (y[k]).toList) = true) : lessL (x.drop (k + 1)) (y.drop (k + 1)) = lessL (x.drop k) (y.drop k) := by
  rw [List.drop_eq_getElem_cons hx, List.drop_eq_getElem_cons hy, lessL, if_pos h]
theorem lessL_ne (x y : List ByteArray) (k : Nat) (hx : k < x.length) (hy : k < y.length) (h : ((x[k]).toList == (y[k]).toList) = false) : lessL (x.drop k) (y.drop k) = Op.bytesLess (x[k]).toList (y[k]).toList := by
  rw [List.drop_eq_getElem_cons hx, List.drop_eq_getElem_cons hy, lessL, if_neg (by rw [h]; exact Bool.false_ne_true)]
def LQ (a b : ByteArray) (w : World) (e : Ending) (w' : World) : Prop := e = .returned (.bool (lessL (pieces a) (pieces b))) ∧ Below w.heap.size w w'
end Go.Proofs.YtcpojpgdjjmfbaaDoor
