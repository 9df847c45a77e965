/- Both Class functions answer cls. -/
import Derived.Test.YtpjjfkogcfdnkaaRatB
namespace Go.Proofs.Ytpjjfkogcfdnkaa
set_option maxRecDepth 100000
set_option linter.unusedVariables false
set_option linter.unusedSimpArgs false
open Go.RowKit Flo
theorem cls_nan (x : Nat) : decide (INF < rung x) = decide (cls x = 0) := by
  rw [decide_eq_decide]
  unfold cls
  split
  · simp [*]
  · constructor
    · intro h; omega
    · intro h; revert h; split
      · omega
      · split
        · omega
        · split
          · split <;> omega
          · split <;> omega
theorem cls_lt (x : Nat) : (FloatKind.f64.format.order x 0 == some Ordering.lt) = decide (cls x = 1 ∨ cls x = 2) := by
  have hk : key 0 = 0 := by decide
  have hn : nan 0 = false := by decide
  rw [lt_tab, hn, hk, nan, Bool.eq_iff_iff]
  unfold cls
  by_cases h : INF < rung x
  · simp [h]
  · simp only [h, decide_false, if_false, Bool.not_false, Bool.true_and, decide_eq_true_eq]
    unfold INF at *
    split
    · omega
    · split
      · omega
      · split
        · split <;> omega
        · split <;> omega
theorem cls_gt (x : Nat) : (FloatKind.f64.format.order x 0 == some Ordering.gt) = decide (cls x = 5 ∨ cls x = 6) := by
  have hk : key 0 = 0 := by decide
  have hn : nan 0 = false := by decide
  rw [gt_tab, hn, hk, nan, Bool.eq_iff_iff]
  unfold cls
  by_cases h : INF < rung x
  · simp [h]
  · simp only [h, decide_false, if_false, Bool.not_false, Bool.true_and, decide_eq_true_eq]
    unfold INF at *
    split
    · omega
    · split
      · omega
      · split
        · split <;> omega
        · split <;> omega
theorem cls_eq (x : Nat) : (FloatKind.f64.format.order x 0 == some Ordering.eq) = decide (cls x = 3 ∨ cls x = 4) := by
  have hk : key 0 = 0 := by decide
  have hn : nan 0 = false := by decide
  rw [eq_tab, hn, hk, nan, Bool.eq_iff_iff]
  unfold cls
  by_cases h : INF < rung x
  · simp [h]
  · simp only [h, decide_false, if_false, Bool.not_false, Bool.true_and, decide_eq_true_eq]
    unfold INF at *
    split
    · omega
    · split
      · omega
      · split
        · split <;> omega
        · split <;> omega
theorem cls_down (x : Nat) : (FloatKind.f64.format.order x 18442240474082181119 == some Ordering.lt) = decide (cls x = 1) := by
  have hk : key 18442240474082181119 = -9218868437227405311 := by decide
  have hn : nan 18442240474082181119 = false := by decide
  rw [lt_tab, hn, hk, Bool.eq_iff_iff]
  by_cases h : nan x = true
  · have : cls x = 0 := by unfold cls nan at *; simp at h; simp [h]
    rw [h, this]; simp
  · simp only [Bool.not_eq_true] at h
    have b := key_le h
    have h' : ¬ INF < rung x := by unfold nan at h; simpa using h
    rw [h]
    unfold cls
    rw [if_neg h']
    unfold INF at *
    simp only [Bool.not_false, Bool.true_and, decide_eq_true_eq]
    split
    · omega
    · split
      · omega
      · split
        · split <;> omega
        · split <;> omega
theorem cls_any (x : Nat) : cls x = 0 ∨ cls x = 1 ∨ cls x = 2 ∨ cls x = 3 ∨ cls x = 4 ∨ cls x = 5 ∨ cls x = 6 := by
  unfold cls
  split
  · omega
  · split
    · omega
    · split
      · omega
      · split
        · split <;> omega
        · split <;> omega
theorem cls_neg (x : Nat) (h : cls x = 3 ∨ cls x = 4) : neg x = decide (cls x = 3) := by
  unfold cls at *
  split at h
  · omega
  · rename_i h1
    rw [if_neg h1]
    split at h
    · omega
    · rename_i h2
      rw [if_neg h2]
      split at h
      · omega
      · rename_i h3
        rw [if_neg h3]
        split at h
        · rename_i h4
          rw [if_pos h4]
          cases neg x <;> simp
        · split at h <;> omega
theorem cls_zero (x : Nat) (hx : x < 18446744073709551616) (h : cls x = 3 ∨ cls x = 4) : x = 0 ∨ x = 9223372036854775808 := by
  refine key_zero hx ?_
  unfold cls at h
  split at h
  · omega
  · split at h
    · omega
    · split at h
      · omega
      · split at h
        · assumption
        · split at h <;> omega
def ic (k s : Int) : Bool := if s < 0 then decide (k = 1) else decide (k = 6)
theorem isInf_any (x : Nat) (hx : x < 18446744073709551616) (s : Int) (hs : s = 1 ∨ s = -1) (w : World) : Calls Try.prog 28 #[.float .f64 x, .int .i64 s] w fun e w' => e = .returned (.bool (ic (cls x) s)) ∧ w' = w := by
  rcases hs with rfl | rfl
  · exact isInf_up x w
  · exact isInf_down x w hx
set_option maxHeartbeats 1000000 in
theorem class_any (x : Nat) (hx : x < 18446744073709551616) (w : World) : Calls Try.prog 13 #[.float .f64 x] w fun e w' => e = .returned (.int .i64 (cls x)) ∧ w' = w := by
  have hq := cls_any x
  have hlt := cls_lt x
  have heq := cls_eq x
  have HN := Lib.hid (isNaN_any x)
  have HI := Lib.hid (isInf_any x hx)
  have HG := Lib.hid (cls_neg x)
  have HS := Lib.hid (fun w => signbit_any x w hx)
  rw [cls_nan x] at HN
  generalize hk : cls x = k at *
  have HK := Lib.hid hk
  clear hk
  have hi1 : ic k 1 = decide (k = 6) := rfl
  have hi2 : ic k (-1) = decide (k = 1) := rfl
  rcases hq with rfl | rfl | rfl | rfl | rfl | rfl | rfl
  all_goals
    simp only [Int.reduceEq, decide_false, decide_true, or_true, or_false, false_or, true_or, forall_const, true_implies] at hlt heq HN HG hi1 hi2
  all_goals
    go_enter Try.func13, Try.ntmps13
  all_goals
    go_wp2_with (first
      | (go_at_call 27; refine (HN.out _).mono ?_; rintro e w' ⟨rfl, rfl⟩)
      | (go_at_call 28; refine (HI.out _ (by decide) _).mono ?_; rintro e w' ⟨rfl, rfl⟩; first | rw [hi1] | rw [hi2])
      | (go_at_call 29; refine (HS.out _).mono ?_; rintro e w' ⟨rfl, rfl⟩; rw [HG.out]))
  all_goals
    go_ret
    exact ⟨rfl, rfl⟩
end Go.Proofs.Ytpjjfkogcfdnkaa
