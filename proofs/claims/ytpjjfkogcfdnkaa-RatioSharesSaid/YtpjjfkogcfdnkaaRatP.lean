/- Plain: a float from 0 to about 100, its floor, and both as integers. -/
import Derived.Test.YtpjjfkogcfdnkaaRatG
namespace Go.Proofs.Ytpjjfkogcfdnkaa
set_option maxRecDepth 100000
set_option linter.unusedVariables false
set_option linter.unusedSimpArgs false
open Go.RowKit Flo
def ex (x : Nat) : Nat := x / 4503599627370496 - 1023
def fl (x : Nat) : Nat := FloatKind.f64.encode ((FloatKind.f64.decode x).integral .down)
def TOP : Nat := 4841369599423283200
theorem rung_of {x : Nat} (h : x < TOP) : rung x = x := by unfold rung SGN; unfold TOP at h; omega
theorem neg_of {x : Nat} (h : x < TOP) : neg x = false := by
  unfold neg SGN; unfold TOP at h; simp; omega
theorem read_of {x : Nat} (h : x < TOP) : FloatKind.f64.decode x = .number false (mR x) (LP + eR x) := by
  change Ieee.double.read x = _
  rw [read_num (by rw [rung_of h]; unfold INF; unfold TOP at h; omega), rung_of h, neg_of h]
theorem log2_lt {n k : Nat} (h : n < 2 ^ (k + 1)) : n.log2 ≤ k := by
  by_cases h0 : n = 0
  · subst h0; simp
  · have := (Nat.log2_lt h0).2 h; omega
theorem mR_lt (x : Nat) : mR x < 2 ^ 53 := by
  unfold mR B52
  split
  · omega
  · have := Nat.mod_lt x (show 4503599627370496 > 0 by decide); omega
theorem small_int {x : Nat} (h : x < 4607182418800017408) : (FloatKind.f64.decode x).toInt .zero = some 0 := by
  have ht : x < TOP := by unfold TOP; omega
  rw [read_of ht]
  have he : eR x ≤ 1021 := by unfold eR B52; omega
  have hm := mR_lt x
  unfold Ieee.Datum.toInt Ieee.Datum.integral Ieee.Toward.cut LP
  simp only
  have e1 : (-1074 + (eR x : Int)).toNat = 0 := by omega
  have e2 : 53 ≤ (-(-1074 + (eR x : Int))).toNat := by omega
  rw [e1]
  have e3 : mR x / (1 <<< min (-(-1074 + (eR x : Int))).toNat ((mR x).log2 + 2)) = 0 := by
    refine Nat.div_eq_of_lt ?_
    rw [Nat.shiftLeft_eq, Nat.one_mul]
    rcases Nat.le_total (-(-1074 + (eR x : Int))).toNat ((mR x).log2 + 2) with h1 | h1
    · rw [Nat.min_eq_left h1]
      exact Nat.lt_of_lt_of_le hm (Nat.pow_le_pow_right (by decide) e2)
    · rw [Nat.min_eq_right h1]
      exact Nat.lt_of_lt_of_le Nat.lt_log2_self (Nat.pow_le_pow_right (by decide) (by omega))
  rw [show mR x <<< 0 = mR x from rfl, e3]
  rfl
theorem big_int {x : Nat} (h1 : 4607182418800017408 ≤ x) (h : x < TOP) (he : ex x < 52) : (FloatKind.f64.decode x).toInt .zero = some ((mR x / 2 ^ (52 - ex x) : Nat) : Int) := by
  rw [read_of h]
  have hq : eR x = ex x + 1022 := by unfold eR ex B52; unfold ex at he; omega
  have hm : 2 ^ 52 ≤ mR x := by unfold mR B52; rw [if_neg (by omega)]; omega
  unfold Ieee.Datum.toInt Ieee.Datum.integral Ieee.Toward.cut LP
  simp only
  have e1 : (-1074 + (eR x : Int)).toNat = 0 := by omega
  have e2 : (-(-1074 + (eR x : Int))).toNat = 52 - ex x := by omega
  have hl : 52 ≤ (mR x).log2 := (Nat.le_log2 (by omega)).2 hm
  rw [e1, e2, show mR x <<< 0 = mR x from rfl, Nat.min_eq_left (by omega), Nat.shiftLeft_eq, Nat.one_mul]
  simp [Ieee.signed]
theorem rng {z : Nat} (h : z < 9223372036854775808) : IntKind.min .i64 ≤ (z : Int) ∧ (z : Int) ≤ IntKind.max .i64 := by
  have a1 : IntKind.min .i64 = -9223372036854775808 := by decide
  have a2 : IntKind.max .i64 = 9223372036854775807 := by decide
  rw [a1, a2]; omega
theorem int_any {x : Nat} (h : x < TOP) : ∃ n : Nat, n < 2 ^ 52 ∧ (FloatKind.f64.decode x).toInt .zero = some (n : Int) := by
  by_cases h1 : x < 4607182418800017408
  · exact ⟨0, by decide, small_int h1⟩
  · have he : ex x < 52 := by unfold ex; unfold TOP at h; omega
    refine ⟨_, ?_, big_int (by omega) h he⟩
    have hm := mR_lt x
    rw [Nat.div_lt_iff_lt_mul (Nat.pow_pos (by decide)), ← Nat.pow_add]
    exact Nat.lt_of_lt_of_le hm (Nat.pow_le_pow_right (by decide) (by omega))
theorem cut_down (m d : Nat) : (Ieee.Toward.down).cut false m d = (Ieee.Toward.zero).cut false m d := by
  unfold Ieee.Toward.cut; simp
theorem fl_eq {x n : Nat} (h : x < TOP) (hn : (FloatKind.f64.decode x).toInt .zero = some (n : Int)) : fl x = Ieee.double.nearest false n 0 := by
  unfold fl
  rw [read_of h] at *
  unfold Ieee.Datum.toInt Ieee.Datum.integral at hn
  unfold Ieee.Datum.integral
  simp only at *
  rw [cut_down]
  generalize (Ieee.Toward.zero).cut false (mR x <<< (LP + (eR x : Int)).toNat) (-(LP + (eR x : Int))).toNat = z at *
  unfold Ieee.signed at hn
  simp at hn
  have : z = n := by omega
  subst this
  rfl
theorem cut_even0 (s : Bool) (m : Nat) : (Ieee.Toward.even).cut s m 0 = m := by
  unfold Ieee.Toward.cut
  simp [Nat.mod_one]
theorem nearest_int {n : Nat} (h0 : n ≠ 0) (hn : n < 2 ^ 52) : Ieee.double.nearest false n 0 = (n.log2 + 1022) * 4503599627370496 + n * 2 ^ (52 - n.log2) := by
  have hl : n.log2 < 52 := (Nat.log2_lt h0).2 hn
  unfold Ieee.Format.nearest
  rw [if_neg h0]
  have e1 : Ieee.double.leastPlace = -1074 := by decide
  have e2 : Ieee.double.binade = 4503599627370496 := by decide
  have e3 : ((Ieee.double.fractionBits : Nat) : Int) = 52 := by decide
  have e4 : Ieee.double.infRung = 9218868437227405312 := by decide
  simp only [e1, e2, e3, e4]
  have e5 : max (0 + (n.log2 : Int) - 52) (-1074) = (n.log2 : Int) - 52 := by omega
  rw [e5, show ((n.log2 : Int) - 52 - 0).toNat = 0 by omega, cut_even0, show (0 - ((n.log2 : Int) - 52)).toNat = 52 - n.log2 by omega, show ((n.log2 : Int) - 52 - -1074).toNat = n.log2 + 1022 by omega, Nat.shiftLeft_eq]
  have hb : n * 2 ^ (52 - n.log2) < 2 ^ (n.log2 + 1) * 2 ^ (52 - n.log2) := Nat.mul_lt_mul_of_pos_right Nat.lt_log2_self (Nat.pow_pos (by decide))
  rw [← Nat.pow_add, show n.log2 + 1 + (52 - n.log2) = 53 by omega] at hb
  unfold Ieee.Format.word
  simp only [Bool.false_eq_true, if_false]
  rw [Nat.min_eq_left (by omega)]
theorem near_back {n : Nat} (hn : n < 2 ^ 52) : (FloatKind.f64.decode (Ieee.double.nearest false n 0)).toInt .zero = some (n : Int) := by
  by_cases h0 : n = 0
  · subst h0; decide
  · rw [nearest_int h0 hn]
    have hl : n.log2 < 52 := (Nat.log2_lt h0).2 hn
    have hb : n * 2 ^ (52 - n.log2) < 2 ^ (n.log2 + 1) * 2 ^ (52 - n.log2) := Nat.mul_lt_mul_of_pos_right Nat.lt_log2_self (Nat.pow_pos (by decide))
    rw [← Nat.pow_add, show n.log2 + 1 + (52 - n.log2) = 53 by omega] at hb
    have hc : 2 ^ n.log2 * 2 ^ (52 - n.log2) ≤ n * 2 ^ (52 - n.log2) := Nat.mul_le_mul_right _ (Nat.log2_self_le h0)
    rw [← Nat.pow_add, show n.log2 + (52 - n.log2) = 52 by omega] at hc
    have hk : n * 2 ^ (52 - n.log2) / 2 ^ (52 - n.log2) = n := Nat.mul_div_cancel _ (Nat.pow_pos (by decide))
    generalize n * 2 ^ (52 - n.log2) = k at *
    generalize hq : n.log2 = l at *
    have hx : ex ((l + 1022) * 4503599627370496 + k) = l := by unfold ex; omega
    have hm : mR ((l + 1022) * 4503599627370496 + k) = k := by unfold mR B52; rw [if_neg (by omega)]; omega
    rw [big_int (by omega) (by unfold TOP; omega) (by omega), hx, hm, hk]
theorem fti {x : Nat} (h : x < TOP) : ∃ n, floatToIntVal .f64 x .i64 = some n ∧ floatToIntVal .f64 (fl x) .i64 = some n := by
  obtain ⟨n, hn, he⟩ := int_any h
  have hf := fl_eq h he
  refine ⟨n, ?_, ?_⟩
  · unfold floatToIntVal
    rw [he]
    simp only [if_pos (rng (show n < 9223372036854775808 by omega))]
  · unfold floatToIntVal
    rw [hf, near_back hn]
    simp only [if_pos (rng (show n < 9223372036854775808 by omega))]
end Go.Proofs.Ytpjjfkogcfdnkaa
