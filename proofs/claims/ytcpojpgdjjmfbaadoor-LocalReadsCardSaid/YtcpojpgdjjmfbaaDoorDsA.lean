/- Contracts of dos.Days, within, and of the page's Days. -/
import Derived.Test.YtcpojpgdjjmfbaaDoorRows
import Derived.WalkKit
import Derived.WalkSpells
import Derived.WalkLawsBesides
import Derived.Lib.Hide
import Derived.Deep.QuietTactic
import Derived.BigQuiet
import Derived.Deep.RegionHeld3
namespace Go.Proofs.YtcpojpgdjjmfbaaDoor.Dos
set_option linter.unusedVariables false
set_option linter.unusedSimpArgs false
open Go.RowKit
def leap (y : Int) : Bool := y.tmod 4 == 0 && y.tmod 100 != 0 || y.tmod 400 == 0
def days (y m : Int) : Int :=
  if m = 4 ∨ m = 6 ∨ m = 9 ∨ m = 11 then 30 else if m = 2 then (if leap y then 29 else 28) else if m = 1 ∨ m = 3 ∨ m = 5 ∨ m = 7 ∨ m = 8 ∨ m = 10 ∨ m = 12 then 31 else 0
def wi (v a b : Int) : Bool := decide (a ≤ v ∧ v ≤ b)
theorem within_any (v a b : Int) (w : World) : Calls Tryd.prog 53 #[.int .i64 v, .int .i64 a, .int .i64 b] w fun e w' => e = .returned (.bool (wi v a b)) ∧ w' = w := by
  by_cases h1 : a ≤ v
  · by_cases h2 : v ≤ b
    · have H : Hid (wi v a b = true) := by show _ = _; simp [wi, h1, h2]
      go_enter Tryd.func53, Tryd.ntmps53
      go_wp2
      go_ret
      exact ⟨by rw [H.out]; simp, rfl⟩
    · have H : Hid (wi v a b = false) := by show _ = _; simp [wi, h2]
      have h3 : decide (v ≤ b) = false := by simpa using h2
      go_enter Tryd.func53, Tryd.ntmps53
      go_wp2
      go_ret
      exact ⟨by rw [H.out]; simp, rfl⟩
  · have H : Hid (wi v a b = false) := by show _ = _; simp [wi, h1]
    have h3 : decide (a ≤ v) = false := by simpa using h1
    go_enter Tryd.func53, Tryd.ntmps53
    go_wp2
    go_ret
    exact ⟨by rw [H.out]; simp, rfl⟩
set_option maxHeartbeats 1000000 in
theorem days_any (y m : Int) (w : World) : Calls Tryd.prog 54 #[.int .i64 y, .int .i64 m] w fun e w' => e = .returned (.int .i64 (days y m)) ∧ w' = w := by
  have HD : Hid (days y m = days y m) := rfl
  generalize hx : days y m = x at *
  have HX := Lib.hid hx
  clear hx HD
  go_enter Tryd.func54, Tryd.ntmps54
  go_wp2
  all_goals
    go_ret
    refine ⟨?_, rfl⟩
    rw [← HX.out]
    clear HX
    simp_all [days, leap]
set_option maxHeartbeats 1000000 in
theorem refDays_any (y m : Int) (w : World) : Calls Tryd.prog 48 #[.int .i64 y, .int .i64 m] w fun e w' => e = .returned (.int .i64 (days y m)) ∧ ∃ o, w' = w.alloc o := by
  by_cases hm : 1 ≤ m ∧ m ≤ 12
  · by_cases h2 : m = 2
    · subst h2
      have h400 : y.tmod 400 = 0 → y.tmod 4 = 0 := fun h => by
        have h1 := Int.dvd_of_tmod_eq_zero h
        exact Int.tmod_eq_zero_of_dvd (Int.dvd_trans (by decide) h1)
      have H400 := Lib.hid h400
      clear h400
      generalize hx : days y 2 = x at *
      have HX := Lib.hid hx
      clear hx
      go_enter Tryd.func48, Tryd.ntmps48
      go_wp2
      all_goals
        go_ret
        refine ⟨?_, _, rfl⟩
        rw [← HX.out]
        clear HX
        have h4 := H400.out
        clear H400
        simp_all [days, leap]
    · have hcases : m = 1 ∨ m = 3 ∨ m = 4 ∨ m = 5 ∨ m = 6 ∨ m = 7 ∨ m = 8 ∨ m = 9 ∨ m = 10 ∨ m = 11 ∨ m = 12 := by omega
      clear hm h2
      rcases hcases with rfl | rfl | rfl | rfl | rfl | rfl | rfl | rfl | rfl | rfl | rfl
      all_goals
        go_enter Tryd.func48, Tryd.ntmps48
        go_wp2
        go_ret
        exact ⟨rfl, _, rfl⟩
  · have hx : days y m = 0 := by
      unfold days
      rw [if_neg (by omega), if_neg (by omega), if_neg (by omega)]
    rw [hx]
    clear hx
    go_enter Tryd.func48, Tryd.ntmps48
    go_wp2
    all_goals
      go_ret
      exact ⟨rfl, _, rfl⟩
end Go.Proofs.YtcpojpgdjjmfbaaDoor.Dos
