/- RatioOrder: plain order of floats, and the walk. -/
import Derived.Test.YtpjjfkogcfdnkaaRatI
namespace Go.Proofs.Ytpjjfkogcfdnkaa
set_option maxRecDepth 100000
set_option linter.unusedVariables false
set_option linter.unusedSimpArgs false
open Go.RowKit Flo
def mk (a : Nat) : Int := if nan a then 0 else key a
def c4 (i j a b : Int) : Int := if i < j then -1 else if j < i then 1 else if a < b then -1 else if b < a then 1 else 0
theorem nan_cls {a : Nat} (h : cls a = 0) : nan a = true := by
  have := cls_nan a
  rw [decide_eq_decide] at this
  unfold nan
  simp only [decide_eq_true_eq]
  exact this.2 h
theorem cmpF_c4 (a b : Nat) : cmpF a b = c4 (cls a) (cls b) (mk a) (mk b) := by
  unfold cmpF cf c4
  split
  · rfl
  · split
    · rfl
    · rename_i h1 h2
      have e : cls a = cls b := by omega
      have hl : L a b = decide (mk a < mk b) := by
        unfold L mk
        rw [lt_tab]
        by_cases c : nan a = true
        · have : nan b = true := nan_cls (by rw [← e]; exact cls_of_nan c)
          rw [c, this]; simp
        · have : ¬ nan b = true := fun d => c (nan_cls (by rw [e]; exact cls_of_nan d))
          simp [c, this]
      have hg : G a b = decide (mk b < mk a) := by
        unfold G mk
        rw [gt_tab]
        by_cases c : nan a = true
        · have : nan b = true := nan_cls (by rw [← e]; exact cls_of_nan c)
          rw [c, this]; simp
        · have : ¬ nan b = true := fun d => c (nan_cls (by rw [e]; exact cls_of_nan d))
          simp [c, this]
      rw [hl, hg]
      simp
theorem cmpF_anti (a b : Nat) : cmpF b a = - cmpF a b := by
  rw [cmpF_c4, cmpF_c4]
  generalize cls a = i; generalize cls b = j; generalize mk a = x; generalize mk b = y
  unfold c4
  repeat' split
  all_goals omega
theorem cmpF_le_trans (a b c : Nat) : 0 < cmpF a b ∨ 0 < cmpF b c ∨ cmpF a c ≤ 0 := by
  rw [cmpF_c4, cmpF_c4, cmpF_c4]
  generalize cls a = i; generalize cls b = j; generalize cls c = k; generalize mk a = x; generalize mk b = y; generalize mk c = z
  unfold c4
  repeat' split
  all_goals omega
theorem cmpF_eq_trans (a b c : Nat) : cmpF a b ≠ 0 ∨ cmpF b c ≠ 0 ∨ cmpF a c = 0 := by
  rw [cmpF_c4, cmpF_c4, cmpF_c4]
  generalize cls a = i; generalize cls b = j; generalize cls c = k; generalize mk a = x; generalize mk b = y; generalize mk c = z
  unfold c4
  repeat' split
  all_goals omega
theorem cmpF_bd (a b : Nat) : -1 ≤ cmpF a b ∧ cmpF a b ≤ 1 := by
  rw [cmpF_c4]
  unfold c4
  repeat' split
  all_goals omega
theorem clampF_lt (x : Nat) (hx : x < 18446744073709551616) : clampF x < 18446744073709551616 := by
  have := clampF_le x hx; omega
set_option maxHeartbeats 8000000 in
theorem order_core (a b c : Nat) (k x y z s : Int) (w : World)
    (HA : Hid (∀ w, Calls Try.prog 14 #[.float .f64 a] w fun e w' => e = .returned (.int .i64 k) ∧ w' = w))
    (HB : Hid (∀ w, Calls Try.prog 13 #[.float .f64 a] w fun e w' => e = .returned (.int .i64 k) ∧ w' = w))
    (HS : Hid (∀ w, Calls Try.prog 16 #[.float .f64 a] w fun e w' => e = .returned (.int .i64 s) ∧ w' = w))
    (HC : Hid (∀ i j w, i < 18446744073709551616 → j < 18446744073709551616 → Calls Try.prog 15 #[.float .f64 i, .float .f64 j] w fun e w' => e = .returned (.int .i64 (cmpF i j)) ∧ w' = w))
    (h1 : Hid (a < 18446744073709551616)) (h2 : Hid (b < 18446744073709551616)) (h3 : Hid (c < 18446744073709551616))
    (hx : Hid (cmpF a b = x)) (hy : Hid (cmpF b c = y)) (hz : Hid (cmpF a c = z)) (hn : Hid (cmpF b a = -x)) (bx : -1 ≤ x) (bx' : x ≤ 1)
    (T1 : (decide (0 < x) = true) ∨ (decide (0 < x) = false ∧ decide (0 < y) = true) ∨ (decide (0 < x) = false ∧ decide (0 < y) = false ∧ decide (z ≤ 0) = true))
    (T2 : ((x != 0) = true) ∨ ((x != 0) = false ∧ (y != 0) = true) ∨ ((x != 0) = false ∧ (y != 0) = false ∧ (z == 0) = true))
    (T3 : (decide (1 ≤ k) = true ∧ decide (k ≤ 3) = true ∧ (k == 0) = false ∧ (k == 4) = false ∧ s = -1) ∨ (decide (1 ≤ k) = false ∧ (k == 0) = true ∧ s = 0) ∨ (decide (1 ≤ k) = true ∧ decide (k ≤ 3) = false ∧ (k == 0) = false ∧ (k == 4) = true ∧ s = 0) ∨ (decide (1 ≤ k) = true ∧ decide (k ≤ 3) = false ∧ (k == 0) = false ∧ (k == 4) = false ∧ s = 1)) :
    Calls Try.prog 4 #[.float .f64 a, .float .f64 b, .float .f64 c] w fun e w' => e = .returned (.bool true) ∧ w' = w.drewN 1 := by
  have HE := Lib.hid (EQ_self (clampF_lt a h1.out))
  rcases T1 with t1 | ⟨t1, t1'⟩ | ⟨t1, t1', t1''⟩ <;> rcases T2 with t2 | ⟨t2, t2'⟩ | ⟨t2, t2', t2''⟩ <;> rcases T3 with ⟨t3, t3', t3'', t3''', rfl⟩ | ⟨t3, t3', rfl⟩ | ⟨t3, t3', t3'', t3''', rfl⟩ | ⟨t3, t3', t3'', t3''', rfl⟩
  all_goals
    go_enter Try.func4, Try.ntmps4
    go_wp2_with (first
      | (go_at_call 7; refine (awake_any _).mono ?_; rintro e w' ⟨rfl, rfl⟩)
      | (go_at_call 14; refine (HA.out _).mono ?_; rintro e w' ⟨rfl, rfl⟩)
      | (go_at_call 13; refine (HB.out _).mono ?_; rintro e w' ⟨rfl, rfl⟩)
      | (go_at_call 16; refine (HS.out _).mono ?_; rintro e w' ⟨rfl, rfl⟩)
      | (go_at_call 17; refine (refCompare_any _ _ h1.out h2.out _).mono ?_; rintro e w' ⟨rfl, rfl⟩; rw [hx.out])
      | (go_at_call 15; refine (HC.out _ _ _ (by first | exact h1.out | exact h2.out | exact h3.out) (by first | exact h1.out | exact h2.out | exact h3.out)).mono ?_; rintro e w' ⟨rfl, rfl⟩; (first | rw [hx.out] | rw [hy.out] | rw [hz.out] | rw [hn.out]))
      | (go_at_call 18; refine (clamp_any _ _).mono ?_; rintro e w' ⟨rfl, rfl⟩)
      | (go_at_call 12; refine (refClamp_any _ _).mono ?_; rintro e w' ⟨rfl, rfl⟩)
      | (go_at_call 9; refine (same_eq _ _ HE.out _).mono ?_; rintro e w' ⟨rfl, rfl⟩))
    go_ret
    exact ⟨by simp, rfl⟩
end Go.Proofs.Ytpjjfkogcfdnkaa
