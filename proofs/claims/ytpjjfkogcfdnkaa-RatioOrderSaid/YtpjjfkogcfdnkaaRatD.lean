/- The reference's Class answers cls. -/
import Derived.Test.YtpjjfkogcfdnkaaRatC
namespace Go.Proofs.Ytpjjfkogcfdnkaa
set_option maxRecDepth 100000
set_option linter.unusedVariables false
set_option linter.unusedSimpArgs false
open Go.RowKit Flo
theorem cls_up (x : Nat) : (FloatKind.f64.format.order x 9218868437227405311 == some Ordering.gt) = decide (cls x = 6) := inf_up x
theorem cls_down' (x : Nat) : (FloatKind.f64.format.order x (Op.negFloat .f64 9218868437227405311) == some Ordering.lt) = decide (cls x = 1) := cls_down x
theorem ord_self' (x : Nat) : (FloatKind.f64.format.order x x != some Ordering.eq) = decide (cls x = 0) := (ord_self x).trans (cls_nan x)
theorem quo_3 (w : World) : (binOp .quo 23 (.float .f64 4607182418800017408) (.float .f64 9223372036854775808)).run Try.prog w = .ok (.float .f64 18442240474082181120) w := by kernel_rfl
theorem refClass_3 (w : World) : Calls Try.prog 14 #[.float .f64 9223372036854775808] w fun e w' => e = .returned (.int .i64 3) ∧ w' = w := by
  have hn := neg_run 9218868437227405311 w
  have hv := quo_3 w
  have h1 : (FloatKind.f64.format.order 18442240474082181120 0 == some Ordering.lt) = true := by decide
  go_enter Try.func14, Try.ntmps14
  go_wp2
  go_ret
  exact ⟨rfl, rfl⟩
theorem quo_4 (w : World) : (binOp .quo 23 (.float .f64 4607182418800017408) (.float .f64 0)).run Try.prog w = .ok (.float .f64 9218868437227405312) w := by kernel_rfl
theorem refClass_4 (w : World) : Calls Try.prog 14 #[.float .f64 0] w fun e w' => e = .returned (.int .i64 4) ∧ w' = w := by
  have hn := neg_run 9218868437227405311 w
  have hv := quo_4 w
  have h1 : (FloatKind.f64.format.order 9218868437227405312 0 == some Ordering.lt) = false := by decide
  go_enter Try.func14, Try.ntmps14
  go_wp2
  go_ret
  exact ⟨rfl, rfl⟩
set_option maxHeartbeats 1000000 in
theorem refClass_any (x : Nat) (hx : x < 18446744073709551616) (w : World) : Calls Try.prog 14 #[.float .f64 x] w fun e w' => e = .returned (.int .i64 (cls x)) ∧ w' = w := by
  have hq := cls_any x
  by_cases hz : cls x = 3 ∨ cls x = 4
  · rcases cls_zero x hx hz with rfl | rfl
    · exact refClass_4 w
    · exact refClass_3 w
  have hlt := cls_lt x
  have hgt := cls_gt x
  have hup := cls_up x
  have hdn := cls_down' x
  have hos := ord_self' x
  have hn := neg_run 9218868437227405311 w
  generalize hk : cls x = k at *
  have HK := Lib.hid hk
  clear hk
  rcases hq with rfl | rfl | rfl | rfl | rfl | rfl | rfl
  all_goals try (exfalso; revert hz; decide)
  all_goals
    simp only [Int.reduceEq, decide_false, decide_true, or_true, or_false, false_or, true_or] at hlt hgt hup hdn hos
    clear hz
  all_goals
    go_enter Try.func14, Try.ntmps14
  all_goals go_wp2
  all_goals
    go_ret
    exact ⟨rfl, rfl⟩
end Go.Proofs.Ytpjjfkogcfdnkaa
