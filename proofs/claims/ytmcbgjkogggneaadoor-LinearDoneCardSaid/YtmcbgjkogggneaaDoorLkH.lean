/- Both ways of saying that an order fits are one (plain). -/
import Derived.Test.YtmcbgjkogggneaaDoorLkG
namespace Go.Proofs.YtmcbgjkogggneaaDoor
set_option maxRecDepth 100000
set_option linter.unusedVariables false
set_option linter.unusedSimpArgs false
open Go.RowKit
theorem placeF_from (f : Nat → Int) (m : Nat) (x : Int) : ∀ k, k ≤ m → (placeF f m x k = -1 ∧ ∀ i, m - k ≤ i → i < m → f i ≠ x) ∨ ∃ i, m - k ≤ i ∧ i < m ∧ placeF f m x k = i ∧ f i = x ∧ ∀ q, m - k ≤ q → q < i → f q ≠ x := by
  intro k
  induction k with
  | zero => intro _; exact .inl ⟨rfl, fun i h1 h2 => by omega⟩
  | succ k ih =>
    intro hk
    by_cases h : f (m - (k + 1)) = x
    · refine .inr ⟨m - (k + 1), Nat.le_refl _, by omega, ?_, h, fun q h1 h2 => by omega⟩
      rw [placeF, if_pos h]
    · have e : placeF f m x (k + 1) = placeF f m x k := by rw [placeF, if_neg h]
      rcases ih (by omega) with ⟨h1, h2⟩ | ⟨i, h1, h2, h3, h4, h5⟩
      · refine .inl ⟨by rw [e, h1], fun i h3 h4 => ?_⟩
        by_cases hi : i = m - (k + 1)
        · subst hi; exact h
        · exact h2 i (by omega) h4
      · refine .inr ⟨i, by omega, h2, by rw [e, h3], h4, fun q h6 h7 => ?_⟩
        by_cases hi : q = m - (k + 1)
        · subst hi; exact h
        · exact h5 q (by omega) h7
theorem placeF_spec (f : Nat → Int) (m : Nat) (x : Int) : (placeF f m x m = -1 ∧ ∀ i, i < m → f i ≠ x) ∨ ∃ i, i < m ∧ placeF f m x m = i ∧ f i = x ∧ ∀ q, q < i → f q ≠ x := by
  rcases placeF_from f m x m (Nat.le_refl _) with ⟨h1, h2⟩ | ⟨i, h1, h2, h3, h4, h5⟩
  · exact .inl ⟨h1, fun i hi => h2 i (by omega) hi⟩
  · exact .inr ⟨i, h2, h3, h4, fun q hq => h5 q (by omega) hq⟩
/-- No call stands behind one that it was ahead of. -/
def Tm (cv : Nat → CallV) (o : Nat → Nat) (m : Nat) : Prop := ∀ p q, p < q → q < m → ¬ befB (cv (o q)) (cv (o p)) = true
theorem fits_iff (n m : Nat) (cv : Nat → CallV) (nm : Nat → List ByteArray) (f : Nat → Int) :
    RefFits n m cv nm f ↔ Whole n m cv f ∧ Tm cv (natO f) m ∧ (st cv nm (natO f) m).2 = true := by
  have hbf : ∀ c d : CallV, befB c d = true → 0 ≤ c.fin := by
    intro c d h
    unfold befB at h
    rw [Bool.and_eq_true] at h
    exact of_decide_eq_true h.1
  constructor
  · rintro ⟨h1, h2, h3⟩
    have hdis : ∀ i, i < m → ∀ q, q < i → f q ≠ f i := by
      intro i hi q hq he
      have hp := (h1 i hi).2.2.1
      rcases placeF_spec f m (f i) with ⟨e1, e2⟩ | ⟨t, e1, e2, e3, e4⟩
      · exact e2 i hi rfl
      · have : t = i := by omega
        subst this
        exact e4 q hq he
    refine ⟨⟨fun i hi => ?_, fun k hk hf => ?_⟩, fun p q hpq hqm hb => ?_, h2⟩
    · obtain ⟨a1, a2, _, a4, _⟩ := h1 i hi
      exact ⟨a1, a2, hdis i hi, a4⟩
    · have hp := h3 k hk hf
      rcases placeF_spec f m k with ⟨e1, _⟩ | ⟨t, e1, _, e3, _⟩
      · omega
      · exact ⟨t, e1, e3⟩
    · obtain ⟨a1, a2, a3, a4, a5⟩ := h1 p (by omega)
      obtain ⟨b1, b2, b3, _, _⟩ := h1 q hqm
      have eo : ((f q).toNat : Int) = f q := Int.toNat_of_nonneg b1
      have := a5 (f q).toNat (by omega) (by rw [eo]; exact fun e => hdis q hqm p hpq e.symm) (hbf _ _ hb) hb
      rw [eo, b3] at this
      omega
  · rintro ⟨⟨h1, h2⟩, h3, h4⟩
    have hpl : ∀ i, i < m → placeF f m (f i) m = i := by
      intro i hi
      rcases placeF_spec f m (f i) with ⟨_, e2⟩ | ⟨t, e1, e2, e3, e4⟩
      · exact absurd rfl (e2 i hi)
      · rw [e2]
        by_cases hti : t = i
        · rw [hti]
        · exfalso
          rcases Nat.lt_or_gt_of_ne hti with h | h
          · exact (h1 i hi).2.2.1 t h e3
          · exact e4 i h rfl
    refine ⟨fun i hi => ?_, h4, fun k hk hf => ?_⟩
    · obtain ⟨a1, a2, a3, a4⟩ := h1 i hi
      refine ⟨a1, a2, hpl i hi, a4, fun k hk hne hf hb => ?_⟩
      obtain ⟨q, hq, hqe⟩ := h2 k hk hf
      rw [← hqe, hpl q hq]
      refine ⟨by omega, ?_⟩
      by_cases hqi : q ≤ i
      · omega
      · exfalso
        refine h3 i q (by omega) hq ?_
        show befB (cv (f q).toNat) (cv (f i).toNat) = true
        rw [hqe, Int.toNat_natCast]
        exact hb
    · obtain ⟨q, hq, hqe⟩ := h2 k hk hf
      rw [← hqe, hpl q hq]
      omega
end Go.Proofs.YtmcbgjkogggneaaDoor
