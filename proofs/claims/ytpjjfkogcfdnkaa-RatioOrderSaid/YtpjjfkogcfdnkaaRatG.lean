/- Floats' arithmetic in runs; Share. -/
import Derived.Test.YtpjjfkogcfdnkaaRatF
import Derived.Laws.FloatArith
namespace Go.Proofs.Ytpjjfkogcfdnkaa
set_option maxRecDepth 100000
set_option linter.unusedVariables false
set_option linter.unusedSimpArgs false
open Go.RowKit Flo
theorem nan_run (op : BinOp) (x y : Nat) (w : World) (h : floatBits op .f64 x y = none) (ho : op = .quo ∨ op = .sub) : ∃ v, nan v = true ∧ v < 18446744073709551616 ∧ (binOp op 23 (.float .f64 x) (.float .f64 y)).run Try.prog w = .ok (.float .f64 v) (w.drewN 1) := by
  have hv : ∀ t : Nat, nan (Question.cut (.nanBits .f64 x y) t) = true ∧ Question.cut (.nanBits .f64 x y) t < 18446744073709551616 := by
    intro t
    unfold Question.cut nan rung INF SGN
    simp only [decide_eq_true_eq]
    have h1 : t % 2 = 0 ∨ t % 2 = 1 := by omega
    have h2 : t / 2 % (2 ^ 52 - 1) < 4503599627370495 := Nat.mod_lt _ (by decide)
    generalize t / 2 % (2 ^ 52 - 1) = b at *
    rcases h1 with h1 | h1 <;> rw [h1] <;> constructor <;> omega
  refine ⟨_, (hv (w.tape w.drawn (.nanBits .f64 x y))).1, (hv _).2, ?_⟩
  · rcases ho with rfl | rfl <;> simp only [floatBits] at h <;> simp [binOp, Op.floatArith, h] <;> rfl
def qf (p s : Int) : Option Nat := floatBits .quo .f64 (floatOfInt .f64 p) (floatOfInt .f64 s)
theorem share_some (p s : Int) (r : Nat) (h : qf p s = some r) (w : World) : Calls Try.prog 8 #[.int .i64 p, .int .i64 s] w fun e w' => e = .returned (.float .f64 r) ∧ w' = w := by
  have hr := run_float_arith (P := Try.prog) w .quo 23 .f64 _ _ r h
  clear h
  go_enter Try.func8, Try.ntmps8
  go_wp2
  go_ret
  exact ⟨rfl, rfl⟩
theorem share_none (p s : Int) (h : qf p s = none) (w : World) : Calls Try.prog 8 #[.int .i64 p, .int .i64 s] w fun e w' => ∃ v, e = .returned (.float .f64 v) ∧ nan v = true ∧ v < 18446744073709551616 ∧ w' = w.drewN 1 := by
  obtain ⟨v, hv1, hv2, hr⟩ := nan_run .quo _ _ w h (.inl rfl)
  have H1 := Lib.hid hv1
  have H2 := Lib.hid hv2
  clear h hv1 hv2
  go_enter Try.func8, Try.ntmps8
  go_wp2
  go_ret
  exact ⟨v, rfl, H1.out, H2.out, rfl⟩
end Go.Proofs.Ytpjjfkogcfdnkaa
