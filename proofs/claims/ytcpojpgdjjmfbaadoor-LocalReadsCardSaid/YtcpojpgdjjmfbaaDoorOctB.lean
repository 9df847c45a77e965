/- Contracts of octet's exists, Fits, Get. -/
import Derived.Test.YtcpojpgdjjmfbaaDoorOctA
namespace Go.Proofs.YtcpojpgdjjmfbaaDoor
set_option linter.unusedVariables false
set_option linter.unusedSimpArgs false
open Go.RowKit
theorem rightW_true {n : Int} (h1 : 1 ≤ n) (h2 : n ≤ 8) : rightW n = true := by simp [rightW, h1, h2]
theorem rightW_false {n : Int} (h : n < 1 ∨ 8 < n) : rightW n = false := by simp [rightW]; omega
theorem rightW_elim {n : Int} (h : rightW n = true) : 1 ≤ n ∧ n ≤ 8 := by simpa [rightW] using h
theorem rightW_elim_no {n : Int} (h : rightW n = false) : n < 1 ∨ 8 < n := by simp [rightW] at h; omega
def existsB (len : Nat) (at_ n : Int) : Bool := rightW n && decide (0 ≤ at_) && decide (at_ ≤ (len : Int) - n)
def fitsB (v : Nat) (n : Int) : Bool := rightW n && decide (v < 256 ^ n.toNat)
end Go.Proofs.YtcpojpgdjjmfbaaDoor
