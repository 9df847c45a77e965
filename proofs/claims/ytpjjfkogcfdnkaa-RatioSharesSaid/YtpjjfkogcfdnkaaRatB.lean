/- The plain classes of floats, their tests, and the sign's turn. -/
import Derived.Test.YtpjjfkogcfdnkaaRatA
namespace Go.Proofs.Ytpjjfkogcfdnkaa
set_option maxRecDepth 100000
set_option linter.unusedVariables false
set_option linter.unusedSimpArgs false
open Go.RowKit Flo
namespace Flo
def nan (x : Nat) : Bool := decide (INF < rung x)
def cls (x : Nat) : Int := if INF < rung x then 0 else if key x = -(INF : Int) then 1 else if key x < 0 then 2 else if key x = 0 then (if neg x then 3 else 4) else if key x = (INF : Int) then 6 else 5
theorem lt_tab (x c : Nat) : (FloatKind.f64.format.order x c == some Ordering.lt) = (!nan x && !nan c && decide (key x < key c)) := by
  change (Ieee.double.order x c == some Ordering.lt) = _
  unfold nan
  by_cases h1 : INF < rung x
  · rw [order_nan (.inl h1)]; simp [h1]
  · by_cases h2 : INF < rung c
    · rw [order_nan (.inr h2)]; simp [h2]
    · rw [order_key (by omega) (by omega)]
      simp only [h1, h2]
      rcases Int.lt_trichotomy (key x) (key c) with h | h | h
      · rw [Int.compare_eq_lt.2 h]; simp [h]
      · rw [Int.compare_eq_eq.2 h]; simp [h]
      · rw [Int.compare_eq_gt.2 h]; simp; omega
theorem gt_tab (x c : Nat) : (FloatKind.f64.format.order x c == some Ordering.gt) = (!nan x && !nan c && decide (key c < key x)) := by
  change (Ieee.double.order x c == some Ordering.gt) = _
  unfold nan
  by_cases h1 : INF < rung x
  · rw [order_nan (.inl h1)]; simp [h1]
  · by_cases h2 : INF < rung c
    · rw [order_nan (.inr h2)]; simp [h2]
    · rw [order_key (by omega) (by omega)]
      simp only [h1, h2]
      rcases Int.lt_trichotomy (key x) (key c) with h | h | h
      · rw [Int.compare_eq_lt.2 h]; simp; omega
      · rw [Int.compare_eq_eq.2 h]; simp [h]
      · rw [Int.compare_eq_gt.2 h]; simp [h]
theorem eq_tab (x c : Nat) : (FloatKind.f64.format.order x c == some Ordering.eq) = (!nan x && !nan c && decide (key x = key c)) := by
  change (Ieee.double.order x c == some Ordering.eq) = _
  unfold nan
  by_cases h1 : INF < rung x
  · rw [order_nan (.inl h1)]; simp [h1]
  · by_cases h2 : INF < rung c
    · rw [order_nan (.inr h2)]; simp [h2]
    · rw [order_key (by omega) (by omega)]
      simp only [h1, h2]
      rcases Int.lt_trichotomy (key x) (key c) with h | h | h
      · rw [Int.compare_eq_lt.2 h]; simp; omega
      · rw [Int.compare_eq_eq.2 h]; simp [h]
      · rw [Int.compare_eq_gt.2 h]; simp; omega
theorem rung_neg (x : Nat) : rung (Op.negFloat .f64 x) = rung x := by
  unfold rung Op.negFloat SGN
  change (x ^^^ 2 ^ 63) % 2 ^ 63 = x % 2 ^ 63
  rw [Nat.xor_mod_two_pow]
  simp
theorem neg_neg (x : Nat) (hx : x < 18446744073709551616) : neg (Op.negFloat .f64 x) = !neg x := by
  unfold neg Op.negFloat SGN
  change ((x ^^^ 2 ^ 63) / 2 ^ 63 % 2 == 1) = !(x / 2 ^ 63 % 2 == 1)
  rw [Nat.xor_div_two_pow]
  have : x / 2 ^ 63 = 0 ∨ x / 2 ^ 63 = 1 := by omega
  rcases this with h | h <;> rw [h] <;> decide
theorem key_neg (x : Nat) (hx : x < 18446744073709551616) : key (Op.negFloat .f64 x) = - key x := by
  unfold key
  rw [rung_neg, neg_neg x hx]
  cases neg x <;> simp
theorem nan_neg (x : Nat) : nan (Op.negFloat .f64 x) = nan x := by
  unfold nan; rw [rung_neg]
theorem key_le {x : Nat} (h : nan x = false) : -(INF : Int) ≤ key x ∧ key x ≤ INF := by
  unfold nan at h
  have h' : ¬ INF < rung x := by simpa using h
  unfold key
  split <;> omega
theorem key_zero {x : Nat} (hx : x < 18446744073709551616) (h : key x = 0) : x = 0 ∨ x = 9223372036854775808 := by
  unfold key rung SGN at h
  split at h <;> omega
end Flo
def MAX : Nat := 9218868437227405311
theorem inf_up (x : Nat) : (FloatKind.f64.format.order x 9218868437227405311 == some Ordering.gt) = decide (cls x = 6) := by
  have hk : key 9218868437227405311 = 9218868437227405311 := by decide
  have hn : nan 9218868437227405311 = false := by decide
  rw [gt_tab, hn, hk]
  by_cases h : nan x = true
  · have : cls x = 0 := by unfold cls nan at *; simp at h; simp [h]
    rw [h, this]; rfl
  · simp only [Bool.not_eq_true] at h
    have b := key_le h
    have h' : ¬ INF < rung x := by unfold nan at h; simpa using h
    rw [h]
    unfold cls
    rw [if_neg h']
    unfold INF at *
    simp only [Bool.not_false, Bool.true_and, decide_eq_decide]
    split
    · omega
    · split
      · omega
      · split
        · split <;> omega
        · split <;> omega
theorem inf_down (x : Nat) (hx : x < 18446744073709551616) : (FloatKind.f64.format.order (Op.negFloat .f64 x) 9218868437227405311 == some Ordering.gt) = decide (cls x = 1) := by
  have hk : key 9218868437227405311 = 9218868437227405311 := by decide
  have hn : nan 9218868437227405311 = false := by decide
  rw [gt_tab, hn, hk, nan_neg, key_neg x hx]
  by_cases h : nan x = true
  · have : cls x = 0 := by unfold cls nan at *; simp at h; simp [h]
    rw [h, this]; rfl
  · simp only [Bool.not_eq_true] at h
    have b := key_le h
    have h' : ¬ INF < rung x := by unfold nan at h; simpa using h
    rw [h]
    unfold cls
    rw [if_neg h']
    unfold INF at *
    simp only [Bool.not_false, Bool.true_and, decide_eq_decide]
    split
    · omega
    · split
      · omega
      · split
        · split <;> omega
        · split <;> omega
theorem neg_run (x : Nat) (w : World) : (Op.unary .neg (.float .f64 x)).run Try.prog w = .ok (.float .f64 (Op.negFloat .f64 x)) w := rfl
theorem isInf_up (x : Nat) (w : World) : Calls Try.prog 28 #[.float .f64 x, .int .i64 1] w fun e w' => e = .returned (.bool (decide (cls x = 6))) ∧ w' = w := by
  have H := Lib.hid (inf_up x)
  go_enter Try.func28, Try.ntmps28
  go_wp2
  rw [H.out]
  exact bodyPost_ret (v := .bool (decide (cls x = 6))) (by simp [results, Try.results28, go_sem]) rfl ⟨rfl, rfl⟩
theorem isInf_down (x : Nat) (w : World) (hx : x < 18446744073709551616) : Calls Try.prog 28 #[.float .f64 x, .int .i64 (-1)] w fun e w' => e = .returned (.bool (decide (cls x = 1))) ∧ w' = w := by
  have H := Lib.hid (inf_down x hx)
  have hn := neg_run x w
  go_enter Try.func28, Try.ntmps28
  go_wp2
  rw [H.out]
  exact bodyPost_ret (v := .bool (decide (cls x = 1))) (by simp [results, Try.results28, go_sem]) rfl ⟨rfl, rfl⟩
end Go.Proofs.Ytpjjfkogcfdnkaa
