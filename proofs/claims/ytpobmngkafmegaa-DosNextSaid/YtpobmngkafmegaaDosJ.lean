/- The plain law of DosNext: nothing lies between a time and the next one. -/
import Derived.Test.YtpobmngkafmegaaDosI
namespace Go.Proofs.Ytpobmngkafmegaa
def posN (y m d h i s : Int) : Int := dateOf y m d * 65536 + clockOf h i s
def okN (N : Int) : Bool := rightB (1980 + N / 65536 / 512) (N / 65536 / 32 % 16) (N / 65536 % 32) (N % 65536 / 2048) (N % 65536 / 32 % 64) (N % 65536 % 32 * 2)
theorem wi_true {v a b : Int} (h : a ≤ v ∧ v ≤ b) : wi v a b = true := decide_eq_true h
theorem right_mk {y m d h i s : Int} (h0 : 1980 ≤ y ∧ y ≤ 2107 ∧ 1 ≤ m ∧ m ≤ 12 ∧ 1 ≤ d ∧ d ≤ days y m ∧ 0 ≤ h ∧ h ≤ 23 ∧ 0 ≤ i ∧ i ≤ 59 ∧ 0 ≤ s ∧ s ≤ 58 ∧ s % 2 = 0) : rightB y m d h i s = true := by
  have e : s.tmod 2 = s % 2 := Int.tmod_eq_emod_of_nonneg (by omega)
  unfold rightB
  rw [wi_true (by omega), wi_true (by omega), wi_true (by omega), wi_true (by omega), wi_true (by omega), wi_true (by omega), e, h0.2.2.2.2.2.2.2.2.2.2.2.2]
  rfl
theorem days_pos {y m : Int} (h : 1 ≤ m ∧ m ≤ 12) : 28 ≤ days y m := by
  unfold days
  split
  · omega
  · split
    · split <;> omega
    · rw [if_pos (by omega)]; omega
theorem okN_pos {N : Int} (h0 : 0 ≤ N) (h : okN N = true) : ∃ y m d h i s, rightB y m d h i s = true ∧ posN y m d h i s = N := by
  refine ⟨_, _, _, _, _, _, h, ?_⟩
  unfold posN dateOf clockOf
  omega
theorem posN_ok {y m d h i s : Int} (h0 : rightB y m d h i s = true) : okN (posN y m d h i s) = true ∧ 0 ≤ posN y m d h i s ∧ posN y m d h i s < 65536 * 65536 := by
  have e := right_elim h0
  have q := days_le y m
  have f1 : posN y m d h i s / 65536 = dateOf y m d := by unfold posN dateOf clockOf; omega
  have f2 : posN y m d h i s % 65536 = clockOf h i s := by unfold posN dateOf clockOf; omega
  refine ⟨?_, by unfold posN dateOf clockOf; omega, by unfold posN dateOf clockOf; omega⟩
  have e1 : 1980 + dateOf y m d / 512 = y := by unfold dateOf; omega
  have e2 : dateOf y m d / 32 % 16 = m := by unfold dateOf; omega
  have e3 : dateOf y m d % 32 = d := by unfold dateOf; omega
  have e4 : clockOf h i s / 2048 = h := by unfold clockOf; omega
  have e5 : clockOf h i s / 32 % 64 = i := by unfold clockOf; omega
  have e6 : clockOf h i s % 32 * 2 = s := by unfold clockOf; omega
  unfold okN
  rw [f1, f2, e1, e2, e3, e4, e5, e6]
  exact h0
theorem clock_bd {h i s : Int} (e : 0 ≤ h ∧ h ≤ 23 ∧ 0 ≤ i ∧ i ≤ 59 ∧ 0 ≤ s ∧ s ≤ 58) : 0 ≤ clockOf h i s ∧ clockOf h i s ≤ 65535 := by
  unfold clockOf; omega
theorem clock_lex {h i s h2 i2 s2 : Int} (e : 0 ≤ h ∧ h ≤ 23 ∧ 0 ≤ i ∧ i ≤ 59 ∧ 0 ≤ s ∧ s ≤ 58 ∧ s % 2 = 0) (f : 0 ≤ h2 ∧ h2 ≤ 23 ∧ 0 ≤ i2 ∧ i2 ≤ 59 ∧ 0 ≤ s2 ∧ s2 ≤ 58 ∧ s2 % 2 = 0) :
    clockOf h i s < clockOf h2 i2 s2 ↔ h < h2 ∨ h = h2 ∧ (i < i2 ∨ i = i2 ∧ s < s2) := by
  unfold clockOf
  rcases Int.lt_trichotomy h h2 with a | a | a
  · exact iff_of_true (by omega) (.inl a)
  · subst a
    rcases Int.lt_trichotomy i i2 with a | a | a
    · exact iff_of_true (by omega) (.inr ⟨rfl, .inl a⟩)
    · subst a
      rcases Int.lt_trichotomy s s2 with a | a | a
      · exact iff_of_true (by omega) (.inr ⟨rfl, .inr ⟨rfl, a⟩⟩)
      · subst a; exact iff_of_false (by omega) (by omega)
      · exact iff_of_false (by omega) (by omega)
    · exact iff_of_false (by omega) (by omega)
  · exact iff_of_false (by omega) (by omega)
theorem date_lex {y m d y2 m2 d2 : Int} (e : 1 ≤ m ∧ m ≤ 12 ∧ 1 ≤ d ∧ d ≤ 31) (f : 1 ≤ m2 ∧ m2 ≤ 12 ∧ 1 ≤ d2 ∧ d2 ≤ 31) :
    (dateOf y m d < dateOf y2 m2 d2 ↔ y < y2 ∨ y = y2 ∧ (m < m2 ∨ m = m2 ∧ d < d2)) ∧ (dateOf y m d = dateOf y2 m2 d2 ↔ y = y2 ∧ m = m2 ∧ d = d2) := by
  unfold dateOf
  rcases Int.lt_trichotomy y y2 with a | a | a
  · exact ⟨iff_of_true (by omega) (.inl a), iff_of_false (by omega) (by omega)⟩
  · subst a
    rcases Int.lt_trichotomy m m2 with a | a | a
    · exact ⟨iff_of_true (by omega) (.inr ⟨rfl, .inl a⟩), iff_of_false (by omega) (by omega)⟩
    · subst a
      rcases Int.lt_trichotomy d d2 with a | a | a
      · exact ⟨iff_of_true (by omega) (.inr ⟨rfl, .inr ⟨rfl, a⟩⟩), iff_of_false (by omega) (by omega)⟩
      · subst a; exact ⟨iff_of_false (by omega) (by omega), iff_of_true rfl ⟨rfl, rfl, rfl⟩⟩
      · exact ⟨iff_of_false (by omega) (by omega), iff_of_false (by omega) (by omega)⟩
    · exact ⟨iff_of_false (by omega) (by omega), iff_of_false (by omega) (by omega)⟩
  · exact ⟨iff_of_false (by omega) (by omega), iff_of_false (by omega) (by omega)⟩
def Lex (y m d h i s y2 m2 d2 h2 i2 s2 : Int) : Prop := (y < y2 ∨ y = y2 ∧ (m < m2 ∨ m = m2 ∧ d < d2)) ∨ (y = y2 ∧ m = m2 ∧ d = d2) ∧ (h < h2 ∨ h = h2 ∧ (i < i2 ∨ i = i2 ∧ s < s2))
theorem pos_lex {y m d h i s y2 m2 d2 h2 i2 s2 : Int} (h0 : rightB y m d h i s = true) (h1 : rightB y2 m2 d2 h2 i2 s2 = true) :
    posN y m d h i s < posN y2 m2 d2 h2 i2 s2 ↔ Lex y m d h i s y2 m2 d2 h2 i2 s2 := by
  have e0 := right_elim h0
  have e1 := right_elim h1
  have q0 := days_le y m
  have q1 := days_le y2 m2
  obtain ⟨d1, d2⟩ := @date_lex y m d y2 m2 d2 (by omega) (by omega)
  have c1 := @clock_lex h i s h2 i2 s2 (by omega) (by omega)
  have b1 := @clock_bd h i s (by omega)
  have b2 := @clock_bd h2 i2 s2 (by omega)
  unfold Lex
  rw [← d1, ← d2, ← c1]
  clear d1 d2 c1 e0 e1 q0 q1 h0 h1
  unfold posN
  generalize clockOf h i s = C at *
  generalize clockOf h2 i2 s2 = C2 at *
  generalize dateOf y m d = D at *
  generalize dateOf y2 m2 d2 = D2 at *
  omega
theorem gap_0 {y m d h i s : Int} (h0 : rightB y m d h i s = true) (c0 : s + 2 < 60) : rightB y m d h i (s + 2) = true ∧ posN y m d h i s < posN y m d h i (s + 2) ∧ ∀ y2 m2 d2 h2 i2 s2, rightB y2 m2 d2 h2 i2 s2 = true → posN y m d h i s < posN y2 m2 d2 h2 i2 s2 → posN y2 m2 d2 h2 i2 s2 < posN y m d h i (s + 2) → False := by
  have e0 := right_elim h0
  have h1 : rightB y m d h i (s + 2) = true := by
    have := @days_pos y m (by omega)
    exact right_mk (by omega)
  refine ⟨h1, (pos_lex h0 h1).2 (by unfold Lex; omega), fun y2 m2 d2 h2 i2 s2 h2 a b => ?_⟩
  have a := (pos_lex h0 h2).1 a
  have b := (pos_lex h2 h1).1 b
  have e2 := right_elim h2
  unfold Lex at a b
  omega
theorem gap_1 {y m d h i s : Int} (h0 : rightB y m d h i s = true) (n0 : 60 ≤ s + 2) (c1 : i + 1 < 60) : rightB y m d h (i + 1) 0 = true ∧ posN y m d h i s < posN y m d h (i + 1) 0 ∧ ∀ y2 m2 d2 h2 i2 s2, rightB y2 m2 d2 h2 i2 s2 = true → posN y m d h i s < posN y2 m2 d2 h2 i2 s2 → posN y2 m2 d2 h2 i2 s2 < posN y m d h (i + 1) 0 → False := by
  have e0 := right_elim h0
  have h1 : rightB y m d h (i + 1) 0 = true := by
    have := @days_pos y m (by omega)
    exact right_mk (by omega)
  refine ⟨h1, (pos_lex h0 h1).2 (by unfold Lex; omega), fun y2 m2 d2 h2 i2 s2 h2 a b => ?_⟩
  have a := (pos_lex h0 h2).1 a
  have b := (pos_lex h2 h1).1 b
  have e2 := right_elim h2
  unfold Lex at a b
  omega
theorem gap_2 {y m d h i s : Int} (h0 : rightB y m d h i s = true) (n0 : 60 ≤ s + 2) (n1 : 60 ≤ i + 1) (c2 : h + 1 < 24) : rightB y m d (h + 1) 0 0 = true ∧ posN y m d h i s < posN y m d (h + 1) 0 0 ∧ ∀ y2 m2 d2 h2 i2 s2, rightB y2 m2 d2 h2 i2 s2 = true → posN y m d h i s < posN y2 m2 d2 h2 i2 s2 → posN y2 m2 d2 h2 i2 s2 < posN y m d (h + 1) 0 0 → False := by
  have e0 := right_elim h0
  have h1 : rightB y m d (h + 1) 0 0 = true := by
    have := @days_pos y m (by omega)
    exact right_mk (by omega)
  refine ⟨h1, (pos_lex h0 h1).2 (by unfold Lex; omega), fun y2 m2 d2 h2 i2 s2 h2 a b => ?_⟩
  have a := (pos_lex h0 h2).1 a
  have b := (pos_lex h2 h1).1 b
  have e2 := right_elim h2
  unfold Lex at a b
  omega
theorem gap_3 {y m d h i s : Int} (h0 : rightB y m d h i s = true) (n0 : 60 ≤ s + 2) (n1 : 60 ≤ i + 1) (n2 : 24 ≤ h + 1) (c3 : d + 1 ≤ days y m) : rightB y m (d + 1) 0 0 0 = true ∧ posN y m d h i s < posN y m (d + 1) 0 0 0 ∧ ∀ y2 m2 d2 h2 i2 s2, rightB y2 m2 d2 h2 i2 s2 = true → posN y m d h i s < posN y2 m2 d2 h2 i2 s2 → posN y2 m2 d2 h2 i2 s2 < posN y m (d + 1) 0 0 0 → False := by
  have e0 := right_elim h0
  have h1 : rightB y m (d + 1) 0 0 0 = true := by
    have := @days_pos y m (by omega)
    exact right_mk (by omega)
  refine ⟨h1, (pos_lex h0 h1).2 (by unfold Lex; omega), fun y2 m2 d2 h2 i2 s2 h2 a b => ?_⟩
  have a := (pos_lex h0 h2).1 a
  have b := (pos_lex h2 h1).1 b
  have e2 := right_elim h2
  unfold Lex at a b
  omega
theorem gap_4 {y m d h i s : Int} (h0 : rightB y m d h i s = true) (n0 : 60 ≤ s + 2) (n1 : 60 ≤ i + 1) (n2 : 24 ≤ h + 1) (n3 : days y m < d + 1) (c4 : m + 1 ≤ 12) : rightB y (m + 1) 1 0 0 0 = true ∧ posN y m d h i s < posN y (m + 1) 1 0 0 0 ∧ ∀ y2 m2 d2 h2 i2 s2, rightB y2 m2 d2 h2 i2 s2 = true → posN y m d h i s < posN y2 m2 d2 h2 i2 s2 → posN y2 m2 d2 h2 i2 s2 < posN y (m + 1) 1 0 0 0 → False := by
  have e0 := right_elim h0
  have h1 : rightB y (m + 1) 1 0 0 0 = true := by
    have := @days_pos y (m + 1) (by omega)
    exact right_mk (by omega)
  refine ⟨h1, (pos_lex h0 h1).2 (by unfold Lex; omega), fun y2 m2 d2 h2 i2 s2 h2 a b => ?_⟩
  have a := (pos_lex h0 h2).1 a
  have b := (pos_lex h2 h1).1 b
  have e2 := right_elim h2
  unfold Lex at a b
  by_cases c : y2 = y ∧ m2 = m
  · obtain ⟨rfl, rfl⟩ := c
    omega
  · omega
theorem gap_5 {y m d h i s : Int} (h0 : rightB y m d h i s = true) (n0 : 60 ≤ s + 2) (n1 : 60 ≤ i + 1) (n2 : 24 ≤ h + 1) (n3 : days y m < d + 1) (n4 : 12 < m + 1) (c5 : y + 1 ≤ 2107) : rightB (y + 1) 1 1 0 0 0 = true ∧ posN y m d h i s < posN (y + 1) 1 1 0 0 0 ∧ ∀ y2 m2 d2 h2 i2 s2, rightB y2 m2 d2 h2 i2 s2 = true → posN y m d h i s < posN y2 m2 d2 h2 i2 s2 → posN y2 m2 d2 h2 i2 s2 < posN (y + 1) 1 1 0 0 0 → False := by
  have e0 := right_elim h0
  have h1 : rightB (y + 1) 1 1 0 0 0 = true := by
    have := @days_pos (y + 1) 1 (by omega)
    exact right_mk (by omega)
  refine ⟨h1, (pos_lex h0 h1).2 (by unfold Lex; omega), fun y2 m2 d2 h2 i2 s2 h2 a b => ?_⟩
  have a := (pos_lex h0 h2).1 a
  have b := (pos_lex h2 h1).1 b
  have e2 := right_elim h2
  unfold Lex at a b
  by_cases c : y2 = y ∧ m2 = m
  · obtain ⟨rfl, rfl⟩ := c
    omega
  · omega
theorem gap_6 {y m d h i s : Int} (h0 : rightB y m d h i s = true) (n0 : 60 ≤ s + 2) (n1 : 60 ≤ i + 1) (n2 : 24 ≤ h + 1) (n3 : days y m < d + 1) (n4 : 12 < m + 1) (n5 : 2107 < y + 1) : ∀ y2 m2 d2 h2 i2 s2, rightB y2 m2 d2 h2 i2 s2 = true → posN y m d h i s < posN y2 m2 d2 h2 i2 s2 → False := by
  have e0 := right_elim h0
  intro y2 m2 d2 h2 i2 s2 h2 a
  have a := (pos_lex h0 h2).1 a
  have e2 := right_elim h2
  have q2 := days_le y2 m2
  unfold Lex at a
  by_cases c : y2 = y ∧ m2 = m
  · obtain ⟨rfl, rfl⟩ := c
    omega
  · omega
end Go.Proofs.Ytpobmngkafmegaa
