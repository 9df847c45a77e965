/- Contracts of math's IsNaN, IsInf, Signbit, and of the two Class. -/
import Derived.Test.YtpjjfkogcfdnkaaFlo
import Derived.Test.YtpjjfkogcfdnkaaRows
import Derived.WalkKit
import Derived.WalkSpells
import Derived.WalkLawsBesides
import Derived.Lib.Hide
namespace Go.Proofs.Ytpjjfkogcfdnkaa
set_option maxRecDepth 100000
set_option linter.unusedVariables false
set_option linter.unusedSimpArgs false
open Go.RowKit Flo
theorem bits_run (x : Nat) (w : World) : (callFunc 37 #[.float .f64 x]).run Try.prog w = .ok (.value (.int .u64 (x : Nat))) w := by kernel_rfl
theorem ord_self (x : Nat) : (FloatKind.f64.format.order x x != some Ordering.eq) = decide (INF < rung x) := by
  change (Ieee.double.order x x != some Ordering.eq) = _
  by_cases h : INF < rung x
  · rw [order_nan (.inl h)]; simp [h]
  · rw [order_key (by omega) (by omega), Int.compare_eq_eq.2 rfl]; simp [h]
theorem isNaN_any (x : Nat) (w : World) : Calls Try.prog 27 #[.float .f64 x] w fun e w' => e = .returned (.bool (decide (INF < rung x))) ∧ w' = w := by
  have H := Lib.hid (ord_self x)
  go_enter Try.func27, Try.ntmps27
  go_wp2
  go_ret
  exact ⟨by rw [← H.out]; rfl, rfl⟩
theorem neg_wrap (x : Nat) (hx : x < 18446744073709551616) : decide (wrap64 (x : Int) < 0) = neg x := by
  unfold wrap64
  unfold neg SGN
  rw [Bool.eq_iff_iff]
  simp
  omega
theorem signbit_any (x : Nat) (w : World) (hx : x < 18446744073709551616) : Calls Try.prog 29 #[.float .f64 x] w fun e w' => e = .returned (.bool (neg x)) ∧ w' = w := by
  have H := Lib.hid (neg_wrap x hx)
  have hb := bits_run x w
  go_enter Try.func29, Try.ntmps29
  go_wp2
  go_ret
  exact ⟨by rw [← H.out]; rfl, rfl⟩
end Go.Proofs.Ytpjjfkogcfdnkaa
