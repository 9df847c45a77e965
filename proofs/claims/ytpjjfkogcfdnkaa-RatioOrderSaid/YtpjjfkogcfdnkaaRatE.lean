/- Compare on both sides, Sign, Clamp, Same. -/
import Derived.Test.YtpjjfkogcfdnkaaRatD
namespace Go.Proofs.Ytpjjfkogcfdnkaa
set_option maxRecDepth 100000
set_option linter.unusedVariables false
set_option linter.unusedSimpArgs false
open Go.RowKit Flo
def sg (a b : Int) : Int := if a < b then -1 else if b < a then 1 else 0
def L (a b : Nat) : Bool := FloatKind.f64.format.order a b == some Ordering.lt
def G (a b : Nat) : Bool := FloatKind.f64.format.order a b == some Ordering.gt
def cf (i j : Int) (l g : Bool) : Int := if i < j then -1 else if j < i then 1 else if l then -1 else if g then 1 else 0
def cmpF (a b : Nat) : Int := cf (cls a) (cls b) (L a b) (G a b)
theorem intNaN_any (a : Int) (w : World) : Calls Try.prog 38 #[.int .i64 a] w fun e w' => e = .returned (.bool false) ∧ w' = w := by
  go_enter Try.func38, Try.ntmps38
  go_wp2
  go_ret
  exact ⟨by simp, rfl⟩
theorem cmp_any (a b : Int) (w : World) : Calls Try.prog 30 #[.int .i64 a, .int .i64 b] w fun e w' => e = .returned (.int .i64 (sg a b)) ∧ w' = w := by
  have HS : Hid (sg a b = if a < b then -1 else if b < a then 1 else 0) := rfl
  generalize sg a b = x at *
  go_enter Try.func30, Try.ntmps30
  go_wp2_with (first | (go_at_call 38; refine (intNaN_any _ _).mono ?_; rintro e w' ⟨rfl, rfl⟩))
  all_goals
    go_ret
    refine ⟨?_, rfl⟩
    rw [HS.out]
    first
      | (rw [if_pos (by assumption)]; rfl)
      | (rw [if_neg (by omega), if_pos (by assumption)]; rfl)
      | (rw [if_neg (by omega), if_neg (by omega)]; rfl)
set_option maxHeartbeats 1000000 in
theorem compare_any (a b : Nat) (ha : a < 18446744073709551616) (hb : b < 18446744073709551616) (w : World) : Calls Try.prog 15 #[.float .f64 a, .float .f64 b] w fun e w' => e = .returned (.int .i64 (cmpF a b)) ∧ w' = w := by
  have HC : Hid (cmpF a b = cf (cls a) (cls b) (L a b) (G a b)) := rfl
  have hl : (FloatKind.f64.format.order a b == some Ordering.lt) = L a b := rfl
  have hg : (FloatKind.f64.format.order a b == some Ordering.gt) = G a b := rfl
  generalize cmpF a b = r at *
  generalize L a b = l at *
  generalize G a b = g at *
  obtain ⟨s, hs, hr⟩ : ∃ s, sg (cls a) (cls b) = s ∧ ((s = -1 ∧ r = -1) ∨ (s = 1 ∧ r = 1) ∨ (s = 0 ∧ r = if l then -1 else if g then 1 else 0)) := by
    refine ⟨_, rfl, ?_⟩
    rw [HC.out]
    unfold sg cf
    split
    · simp
    · split
      · simp
      · simp
  have HS := Lib.hid hs
  clear hs HC
  rcases hr with ⟨rfl, rfl⟩ | ⟨rfl, rfl⟩ | ⟨rfl, rfl⟩
  rotate_left 2
  rcases l with _ | _
  rotate_left 1
  rcases g with _ | _
  rotate_left 2
  rotate_left 2
  rcases g with _ | _
  all_goals try simp only [Bool.false_eq_true, if_true, if_false]
  all_goals
    go_enter Try.func15, Try.ntmps15
  all_goals
    go_wp2_with (first
      | (go_at_call 13; refine (class_any _ (by assumption) _).mono ?_; rintro e w' ⟨rfl, rfl⟩)
      | (go_at_call 30; refine (cmp_any _ _ _).mono ?_; rintro e w' ⟨rfl, rfl⟩; rw [HS.out]))
  all_goals
    go_ret
    exact ⟨rfl, rfl⟩
set_option maxHeartbeats 1000000 in
theorem refCompare_any (a b : Nat) (ha : a < 18446744073709551616) (hb : b < 18446744073709551616) (w : World) : Calls Try.prog 17 #[.float .f64 a, .float .f64 b] w fun e w' => e = .returned (.int .i64 (cmpF a b)) ∧ w' = w := by
  have HC : Hid (cmpF a b = cf (cls a) (cls b) (L a b) (G a b)) := rfl
  have hl : (FloatKind.f64.format.order a b == some Ordering.lt) = L a b := rfl
  have hg : (FloatKind.f64.format.order a b == some Ordering.gt) = G a b := rfl
  have HA := Lib.hid (refClass_any a ha)
  generalize cmpF a b = r at *
  generalize L a b = l at *
  generalize G a b = g at *
  have hq : (decide (cls a < cls b) = true ∧ r = -1) ∨ (decide (cls a < cls b) = false ∧ (cls a == cls b) = false ∧ decide (cls b < cls a) = true ∧ r = 1) ∨ (decide (cls a < cls b) = false ∧ (cls a == cls b) = true ∧ decide (cls b < cls a) = false ∧ r = if l then -1 else if g then 1 else 0) := by
    rw [HC.out]
    unfold cf
    by_cases h : cls a < cls b
    · simp [h]
    · by_cases h' : cls b < cls a
      · simp [h, h']; omega
      · simp [h, h']; omega
  clear HC
  rcases hq with ⟨h1, rfl⟩ | ⟨h1, h2, h3, rfl⟩ | ⟨h1, h2, h3, rfl⟩
  rotate_left 2
  rcases l with _ | _
  rotate_left 1
  rcases g with _ | _
  rotate_left 2
  rotate_left 2
  rcases g with _ | _
  all_goals try simp only [Bool.false_eq_true, if_true, if_false]
  all_goals
    go_enter Try.func17, Try.ntmps17
  all_goals
    go_wp2_with (first
      | (go_at_call 14; refine (refClass_any _ (by assumption) _).mono ?_; rintro e w' ⟨rfl, rfl⟩))
  all_goals
    go_ret
    exact ⟨rfl, rfl⟩
end Go.Proofs.Ytpjjfkogcfdnkaa
