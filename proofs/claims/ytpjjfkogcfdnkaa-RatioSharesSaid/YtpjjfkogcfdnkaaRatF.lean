/- Sign, Clamp, Same. -/
import Derived.Test.YtpjjfkogcfdnkaaRatE
namespace Go.Proofs.Ytpjjfkogcfdnkaa
set_option maxRecDepth 100000
set_option linter.unusedVariables false
set_option linter.unusedSimpArgs false
open Go.RowKit Flo
def sgnK (k : Int) : Int := if k = 0 ∨ k = 4 then 0 else if k ≤ 3 then -1 else 1
def ONE : Nat := 4607182418800017408
def clampF (x : Nat) : Nat := if G x 4607182418800017408 then 4607182418800017408 else if G x 0 then x else 0
theorem sign_any (x : Nat) (hx : x < 18446744073709551616) (w : World) : Calls Try.prog 16 #[.float .f64 x] w fun e w' => e = .returned (.int .i64 (sgnK (cls x))) ∧ w' = w := by
  have hq := cls_any x
  have HC := Lib.hid (class_any x hx)
  generalize cls x = k at *
  rcases hq with rfl | rfl | rfl | rfl | rfl | rfl | rfl
  all_goals
    go_enter Try.func16, Try.ntmps16
  all_goals
    go_wp2_with (first
      | (go_at_call 13; refine (HC.out _).mono ?_; rintro e w' ⟨rfl, rfl⟩))
  all_goals
    go_ret
    exact ⟨rfl, rfl⟩
theorem clamp_any (x : Nat) (w : World) : Calls Try.prog 18 #[.float .f64 x] w fun e w' => e = .returned (.float .f64 (clampF x)) ∧ w' = w := by
  have HC : Hid (clampF x = if G x 4607182418800017408 then 4607182418800017408 else if G x 0 then x else 0) := rfl
  have h1 : (FloatKind.f64.format.order x 4607182418800017408 == some Ordering.gt) = G x 4607182418800017408 := rfl
  have h2 : (FloatKind.f64.format.order x 0 == some Ordering.gt) = G x 0 := rfl
  generalize clampF x = r at *
  generalize G x 4607182418800017408 = p at *
  generalize G x 0 = q at *
  obtain rfl := HC.out
  clear HC
  rcases p with _ | _ <;> rcases q with _ | _
  all_goals simp only [Bool.false_eq_true, if_true, if_false]
  all_goals
    go_enter Try.func18, Try.ntmps18
  all_goals go_wp2
  all_goals
    go_ret
    exact ⟨rfl, rfl⟩
theorem refClamp_any (x : Nat) (w : World) : Calls Try.prog 12 #[.float .f64 x] w fun e w' => e = .returned (.float .f64 (clampF x)) ∧ w' = w := by
  have HC : Hid (clampF x = if G x 4607182418800017408 then 4607182418800017408 else if G x 0 then x else 0) := rfl
  have h1 : (FloatKind.f64.format.order x 4607182418800017408 == some Ordering.gt) = G x 4607182418800017408 := rfl
  have h2 : (FloatKind.f64.format.order x 0 == some Ordering.gt) = G x 0 := rfl
  generalize clampF x = r at *
  generalize G x 4607182418800017408 = p at *
  generalize G x 0 = q at *
  obtain rfl := HC.out
  clear HC
  rcases p with _ | _ <;> rcases q with _ | _
  all_goals simp only [Bool.false_eq_true, if_true, if_false]
  all_goals
    go_enter Try.func12, Try.ntmps12
  all_goals go_wp2
  all_goals
    go_ret
    exact ⟨rfl, rfl⟩
theorem cmpF_self (x : Nat) : cmpF x x = 0 := by
  have h1 : L x x = false := by
    unfold L; rw [lt_tab]; simp
  have h2 : G x x = false := by
    unfold G; rw [gt_tab]; simp
  unfold cmpF cf
  simp [h1, h2]
theorem same_self (x : Nat) (hx : x < 18446744073709551616) (w : World) : Calls Try.prog 9 #[.float .f64 x, .float .f64 x] w fun e w' => e = .returned (.bool true) ∧ w' = w := by
  have HS := Lib.hid (cmpF_self x)
  go_enter Try.func9, Try.ntmps9
  go_wp2_with (first
      | (go_at_call 14; refine (refClass_any _ (by assumption) _).mono ?_; rintro e w' ⟨rfl, rfl⟩)
      | (go_at_call 17; refine (refCompare_any _ _ (by assumption) (by assumption) _).mono ?_; rintro e w' ⟨rfl, rfl⟩; rw [HS.out]))
  go_ret
  exact ⟨by simp, rfl⟩
end Go.Proofs.Ytpjjfkogcfdnkaa
