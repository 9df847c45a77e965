/- Floats in order: the order of words is the order of their signed rungs. -/
import Ieee.Arith
namespace Go.Proofs.Ytpjjfkogcfdnkaa.Flo
set_option maxRecDepth 100000
set_option linter.unusedVariables false
set_option linter.unusedSimpArgs false
def B52 : Nat := 4503599627370496
def INF : Nat := 9218868437227405312
def SGN : Nat := 9223372036854775808
def rung (x : Nat) : Nat := x % SGN
def neg (x : Nat) : Bool := x / SGN % 2 == 1
def key (x : Nat) : Int := if neg x then -(rung x : Int) else rung x
def eR (r : Nat) : Nat := r / B52 - 1
def mR (r : Nat) : Nat := if r < B52 then r else B52 + r % B52
def M (r : Nat) : Nat := mR r * 2 ^ eR r
theorem M_succ (r : Nat) : M r < M (r + 1) := by
  unfold M mR eR
  by_cases h1 : r + 1 < B52
  · have h2 : r < B52 := by omega
    rw [if_pos h1, if_pos h2, Nat.div_eq_of_lt h1, Nat.div_eq_of_lt h2]
    simp
  · rw [if_neg h1]
    by_cases h2 : r < B52
    · have e : r + 1 = B52 := by omega
      rw [if_pos h2, Nat.div_eq_of_lt h2, e]
      unfold B52 at *
      simp
      omega
    · rw [if_neg h2]
      by_cases h3 : (r + 1) % B52 = 0
      · have e1 : (r + 1) / B52 = r / B52 + 1 := by unfold B52 at *; omega
        have e2 : r % B52 = B52 - 1 := by unfold B52 at *; omega
        have e3 : 1 ≤ r / B52 := by unfold B52 at *; omega
        obtain ⟨q, hq⟩ : ∃ q, r / B52 = q + 1 := ⟨r / B52 - 1, by omega⟩
        rw [e1, e2, h3, hq, show q + 1 + 1 - 1 = q + 1 from rfl, show q + 1 - 1 = q from rfl, Nat.pow_succ, Nat.add_zero, ← Nat.mul_assoc, Nat.mul_right_comm]
        refine Nat.mul_lt_mul_of_pos_right ?_ (Nat.pow_pos (by decide))
        unfold B52
        omega
      · have e1 : (r + 1) / B52 = r / B52 := by unfold B52 at *; omega
        have e2 : (r + 1) % B52 = r % B52 + 1 := by unfold B52 at *; omega
        rw [e1, e2]
        refine Nat.mul_lt_mul_of_pos_right (by omega) (Nat.pow_pos (by decide))
theorem M_mono {a b : Nat} (h : a < b) : M a < M b := by
  induction b with
  | zero => omega
  | succ b ih =>
    by_cases e : a = b
    · subst e; exact M_succ a
    · exact Nat.lt_trans (ih (by omega)) (M_succ b)
theorem M_zero : M 0 = 0 := by decide
theorem M_lt {a b : Nat} : M a < M b ↔ a < b := by
  constructor
  · intro h
    rcases Nat.lt_trichotomy a b with h1 | h1 | h1
    · exact h1
    · subst h1; omega
    · have := M_mono h1; omega
  · exact M_mono
def sM (s : Bool) (r : Nat) : Int := if s then -(M r : Int) else M r
def sK (s : Bool) (r : Nat) : Int := if s then -(r : Int) else r
theorem sM_lt (s t : Bool) (a b : Nat) : sM s a < sM t b ↔ sK s a < sK t b := by
  have h1 := @M_lt a b
  have h2 := @M_lt b a
  have h3 := @M_lt 0 a
  have h4 := @M_lt 0 b
  rw [M_zero] at h3 h4
  unfold sM sK
  cases s <;> cases t <;> simp <;> omega
theorem cmp_of {a b c d : Int} (h1 : a < b ↔ c < d) (h2 : b < a ↔ d < c) : compare a b = compare c d := by
  rcases Int.lt_trichotomy c d with h | h | h
  · rw [Int.compare_eq_lt.2 h, Int.compare_eq_lt.2 (h1.2 h)]
  · have e : a = b := by
      have n1 : ¬ a < b := fun x => by have := h1.1 x; omega
      have n2 : ¬ b < a := fun x => by have := h2.1 x; omega
      omega
    rw [Int.compare_eq_eq.2 h, Int.compare_eq_eq.2 e]
  · rw [Int.compare_eq_gt.2 h, Int.compare_eq_gt.2 (h2.2 h)]
theorem signed_mul (s : Bool) (r b : Nat) (hb : b ≤ eR r) : Ieee.signed s (mR r) (eR r - b) * ((2 ^ b : Nat) : Int) = sM s r := by
  have e : (mR r <<< (eR r - b)) * 2 ^ b = M r := by
    rw [Nat.shiftLeft_eq, Nat.mul_assoc, ← Nat.pow_add, Nat.sub_add_cancel hb]; rfl
  unfold Ieee.signed sM
  cases s
  · simp only [Bool.false_eq_true, if_false]
    rw [← e]; exact (Int.natCast_mul _ _).symm
  · simp only [if_true]
    rw [← e, Int.neg_mul]; congr 1
theorem signed_lt (s t : Bool) (a c : Nat) : Ieee.signed s (mR a) (eR a - min (eR a) (eR c)) < Ieee.signed t (mR c) (eR c - min (eR a) (eR c)) ↔ sK s a < sK t c := by
  rw [← sM_lt, ← signed_mul s a (min (eR a) (eR c)) (Nat.min_le_left _ _), ← signed_mul t c (min (eR a) (eR c)) (Nat.min_le_right _ _)]
  have hp : (0 : Int) < ((2 ^ min (eR a) (eR c) : Nat) : Int) := by
    have : 0 < 2 ^ min (eR a) (eR c) := Nat.pow_pos (by decide)
    omega
  exact (Int.mul_lt_mul_right hp).symm
def LP : Int := -1074
theorem read_num {x : Nat} (h : rung x < INF) : Ieee.double.read x = .number (neg x) (mR (rung x)) (LP + eR (rung x)) := by
  have e1 : Ieee.double.signWeight = SGN := by decide
  have e2 : Ieee.double.binade = B52 := by decide
  have e3 : Ieee.double.infRung = INF := by decide
  have e4 : Ieee.double.leastPlace = LP := by decide
  unfold Ieee.Format.read
  simp only [e1, e2, e3, e4]
  change (if rung x < B52 then _ else _) = _
  by_cases hb : rung x < B52
  · rw [if_pos hb]
    have q : eR (rung x) = 0 := by unfold eR; rw [Nat.div_eq_of_lt hb]
    rw [q]
    unfold mR neg
    rw [if_pos hb]
    simp [rung]
  · rw [if_neg hb]
    change (if rung x < INF then _ else _) = _
    rw [if_pos h]
    unfold mR neg eR
    rw [if_neg hb]
    rfl
theorem read_inf {x : Nat} (h : rung x = INF) : Ieee.double.read x = .infinity (neg x) := by
  have e1 : Ieee.double.signWeight = SGN := by decide
  have e2 : Ieee.double.binade = B52 := by decide
  have e3 : Ieee.double.infRung = INF := by decide
  unfold Ieee.Format.read
  simp only [e1, e2, e3]
  change (if rung x < B52 then _ else if rung x < INF then _ else if rung x = INF then _ else _) = _
  rw [if_neg (by rw [h]; decide), if_neg (by rw [h]; decide), if_pos h]
  rfl
theorem read_nan {x : Nat} (h : INF < rung x) : ∃ s f, Ieee.double.read x = .nan s f := by
  have e1 : Ieee.double.signWeight = SGN := by decide
  have e2 : Ieee.double.binade = B52 := by decide
  have e3 : Ieee.double.infRung = INF := by decide
  unfold Ieee.Format.read
  simp only [e1, e2, e3]
  change ∃ s f, (if rung x < B52 then _ else if rung x < INF then _ else if rung x = INF then _ else _) = _
  have h1 : B52 < INF := by decide
  rw [if_neg (by omega), if_neg (by omega), if_neg (by omega)]
  exact ⟨_, _, rfl⟩
theorem key_sK (x : Nat) : key x = sK (neg x) (rung x) := rfl
theorem order_key {x y : Nat} (hx : rung x ≤ INF) (hy : rung y ≤ INF) : Ieee.double.order x y = some (compare (key x) (key y)) := by
  unfold Ieee.Format.order
  rw [key_sK, key_sK]
  by_cases h1 : rung x < INF
  · rw [read_num h1]
    by_cases h2 : rung y < INF
    · rw [read_num h2]
      unfold Ieee.Datum.order
      simp only
      have e1 : (LP + (eR (rung x) : Int) - min (LP + (eR (rung x) : Int)) (LP + (eR (rung y) : Int))).toNat = eR (rung x) - min (eR (rung x)) (eR (rung y)) := by omega
      have e2 : (LP + (eR (rung y) : Int) - min (LP + (eR (rung x) : Int)) (LP + (eR (rung y) : Int))).toNat = eR (rung y) - min (eR (rung x)) (eR (rung y)) := by omega
      rw [e1, e2, cmp_of (signed_lt _ _ _ _) (by
        have := signed_lt (neg y) (neg x) (rung y) (rung x)
        rw [Nat.min_comm] at this
        exact this)]
    · have h2' : rung y = INF := by omega
      rw [read_inf h2']
      unfold Ieee.Datum.order sK
      simp only
      congr 1
      cases neg y <;> cases neg x <;> simp <;> first | (symm; rw [Int.compare_eq_lt]; omega) | (symm; rw [Int.compare_eq_gt]; omega)
  · have h1' : rung x = INF := by omega
    rw [read_inf h1']
    by_cases h2 : rung y < INF
    · rw [read_num h2]
      unfold Ieee.Datum.order sK
      simp only
      congr 1
      cases neg y <;> cases neg x <;> simp <;> first | (symm; rw [Int.compare_eq_lt]; omega) | (symm; rw [Int.compare_eq_gt]; omega)
    · have h2' : rung y = INF := by omega
      rw [read_inf h2', h1', h2']
      unfold Ieee.Datum.order sK
      cases neg y <;> cases neg x <;> decide
theorem order_nan {x y : Nat} (h : INF < rung x ∨ INF < rung y) : Ieee.double.order x y = none := by
  unfold Ieee.Format.order
  rcases h with h | h
  · obtain ⟨s, f, e⟩ := read_nan h
    rw [e]; rfl
  · obtain ⟨s, f, e⟩ := read_nan h
    rw [e]
    cases Ieee.double.read x <;> rfl
end Go.Proofs.Ytpjjfkogcfdnkaa.Flo
