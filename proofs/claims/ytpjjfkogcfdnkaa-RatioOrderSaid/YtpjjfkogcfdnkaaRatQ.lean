/- Plain: a hundred times a float from 0 to 1 is a float below TOP. -/
import Derived.Test.YtpjjfkogcfdnkaaRatP
namespace Go.Proofs.Ytpjjfkogcfdnkaa
set_option maxRecDepth 100000
set_option linter.unusedVariables false
set_option linter.unusedSimpArgs false
open Go.RowKit Flo
theorem more_le (b : Bool) : b.toNat ≤ 1 := by cases b <;> decide
theorem cut_le (s : Bool) (m d : Nat) : (Ieee.Toward.even).cut s m d ≤ m / 2 ^ min d (m.log2 + 2) + 1 := by
  unfold Ieee.Toward.cut
  simp only
  rw [Nat.shiftLeft_eq, Nat.one_mul]
  have := more_le (decide (2 ^ min d (m.log2 + 2) < 2 * (m % 2 ^ min d (m.log2 + 2))) || (2 ^ min d (m.log2 + 2) == 2 * (m % 2 ^ min d (m.log2 + 2)) && m / 2 ^ min d (m.log2 + 2) % 2 == 1))
  omega
theorem kept_le (s : Bool) (m : Nat) (p last : Int) (h : p + m.log2 - 52 ≤ last) : (Ieee.Toward.even).cut s (m <<< (p - last).toNat) (last - p).toNat ≤ 2 ^ 53 := by
  have hl : m < 2 ^ (m.log2 + 1) := Nat.lt_log2_self
  by_cases c : last ≤ p
  · rw [show (last - p).toNat = 0 by omega, cut_even0, Nat.shiftLeft_eq]
    have h1 : m * 2 ^ (p - last).toNat < 2 ^ (m.log2 + 1) * 2 ^ (p - last).toNat := Nat.mul_lt_mul_of_pos_right hl (Nat.pow_pos (by decide))
    rw [← Nat.pow_add] at h1
    have h2 : 2 ^ (m.log2 + 1 + (p - last).toNat) ≤ 2 ^ 53 := Nat.pow_le_pow_right (by decide) (by omega)
    omega
  · rw [show (p - last).toNat = 0 by omega, show m <<< 0 = m from rfl]
    refine Nat.le_trans (cut_le _ _ _) ?_
    rcases Nat.le_total (last - p).toNat (m.log2 + 2) with h1 | h1
    · rw [Nat.min_eq_left h1]
      have : m / 2 ^ (last - p).toNat < 2 ^ 53 := by
        rw [Nat.div_lt_iff_lt_mul (Nat.pow_pos (by decide)), ← Nat.pow_add]
        exact Nat.lt_of_lt_of_le hl (Nat.pow_le_pow_right (by decide) (by omega))
      omega
    · rw [Nat.min_eq_right h1, Nat.div_eq_of_lt (Nat.lt_of_lt_of_le hl (Nat.pow_le_pow_right (by decide) (by omega)))]
      decide
theorem near_lt (m : Nat) (p : Int) (h : p + m.log2 ≤ 7) : Ieee.double.nearest false m p < TOP := by
  unfold Ieee.Format.nearest
  by_cases h0 : m = 0
  · rw [if_pos h0]; decide
  · rw [if_neg h0]
    have e1 : Ieee.double.leastPlace = -1074 := by decide
    have e2 : Ieee.double.binade = 4503599627370496 := by decide
    have e3 : ((Ieee.double.fractionBits : Nat) : Int) = 52 := by decide
    have e4 : Ieee.double.infRung = 9218868437227405312 := by decide
    simp only [e1, e2, e3, e4]
    have hk := kept_le false m p (max (p + m.log2 - 52) (-1074)) (by omega)
    generalize (Ieee.Toward.even).cut false (m <<< (p - max (p + m.log2 - 52) (-1074)).toNat) (max (p + m.log2 - 52) (-1074) - p).toNat = k at *
    have hl : (max (p + m.log2 - 52) (-1074) - -1074).toNat ≤ 1029 := by omega
    generalize (max (p + m.log2 - 52) (-1074) - -1074).toNat = q at *
    unfold Ieee.Format.word TOP
    simp only [Bool.false_eq_true, if_false]
    omega
theorem mul_any {c : Nat} (h : c ≤ 4607182418800017408) : ∃ r, floatBits .mul .f64 4636737291354636288 c = some r ∧ r < TOP := by
  have hc : c < TOP := by unfold TOP; omega
  have e1 : Ieee.double.read 4636737291354636288 = .number false 7036874417766400 (-46) := by decide
  have e2 : Ieee.double.read c = .number false (mR c) (LP + eR c) := read_of hc
  have he : floatBits .mul .f64 4636737291354636288 c = some (Ieee.double.nearest false (7036874417766400 * mR c) (-46 + (LP + eR c))) := by
    change (Ieee.Datum.product (Ieee.double.read 4636737291354636288) (Ieee.double.read c)).map Ieee.double.write = _
    rw [e1, e2]
    rfl
  refine ⟨_, he, near_lt _ _ ?_⟩
  have hm := mR_lt c
  have hl : (7036874417766400 * mR c).log2 ≤ 105 := log2_lt (Nat.lt_of_lt_of_le (Nat.mul_lt_mul_of_pos_left hm (by decide)) (by decide))
  have hq : eR c ≤ 1022 := by unfold eR B52; omega
  unfold LP
  omega
theorem clampF_le (x : Nat) (hx : x < 18446744073709551616) : clampF x ≤ 4607182418800017408 := by
  unfold clampF
  by_cases h1 : G x 4607182418800017408 = true
  · rw [if_pos h1]; omega
  · rw [if_neg h1]
    by_cases h2 : G x 0 = true
    · rw [if_pos h2]
      unfold G at h1 h2
      rw [gt_tab] at h1 h2
      have k1 : key 4607182418800017408 = 4607182418800017408 := by decide
      have k2 : key 0 = 0 := by decide
      have n1 : nan 4607182418800017408 = false := by decide
      have n2 : nan 0 = false := by decide
      rw [k1, n1] at h1
      rw [k2, n2] at h2
      simp only [Bool.not_false, Bool.and_true, Bool.and_eq_true, decide_eq_true_eq] at h1 h2
      have h3 : key x ≤ 4607182418800017408 := Int.not_lt.1 (fun c => h1 ⟨h2.1, c⟩)
      have h4 := h2.2
      unfold key rung neg SGN at h3 h4
      split at h4
      · omega
      · rename_i c
        rw [if_neg c] at h3
        simp at c
        omega
    · rw [if_neg h2]; omega
end Go.Proofs.Ytpjjfkogcfdnkaa
