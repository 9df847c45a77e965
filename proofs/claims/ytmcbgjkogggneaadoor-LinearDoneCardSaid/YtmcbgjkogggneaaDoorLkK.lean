/- linear.isTimely answers Tm; linear.Fits. -/
import Derived.Test.YtmcbgjkogggneaaDoorLkJ
namespace Go.Proofs.YtmcbgjkogggneaaDoor
set_option maxRecDepth 100000
set_option linter.unusedVariables false
set_option linter.unusedSimpArgs false
open Go.RowKit Go.Shelf
attribute [local go_sem] Oper.semAt_some
/-- What stands in isTimely's state when the last k places have come. -/
structure TmI (cv : Nat → CallV) (o : Nat → Nat) (m k : Nat) (s : Bool × Bool × Int) : Prop where
  no : s.2.1 = false → ∀ q, m - k ≤ q → q < m → ¬ 0 ≤ (cv (o q)).fin
  lo : s.2.1 = true → ∀ q, m - k ≤ q → q < m → 0 ≤ (cv (o q)).fin → s.2.2 ≤ (cv (o q)).fin
  at_ : s.2.1 = true → ∃ q, m - k ≤ q ∧ q < m ∧ 0 ≤ (cv (o q)).fin ∧ (cv (o q)).fin = s.2.2
  ok : s.1 = true ↔ ∀ p q, m - k ≤ p → p < q → q < m → ¬ befB (cv (o q)) (cv (o p)) = true
theorem befB_iff (c d : CallV) : befB c d = true ↔ 0 ≤ c.fin ∧ c.fin < d.beg := by
  unfold befB
  rw [Bool.and_eq_true, decide_eq_true_iff, decide_eq_true_iff]
theorem tmI_step (cv : Nat → CallV) (o : Nat → Nat) (m k : Nat) (hk : k < m) (s : Bool × Bool × Int) (h : TmI cv o m k s) :
    TmI cv o m (k + 1) (s.1 && !badT s.2.1 s.2.2 (cv (o (m - 1 - k))), updT s.2.1 s.2.2 (cv (o (m - 1 - k)))) := by
  obtain ⟨p0, hp0⟩ : ∃ p0, m - 1 - k = p0 := ⟨_, rfl⟩
  have e1 : m - (k + 1) = p0 := by omega
  have e2 : m - k = p0 + 1 := by omega
  rw [hp0]
  obtain ⟨h1, h2, h3, h4⟩ := h
  rw [e2] at h1 h2 h3 h4
  obtain ⟨ok, en, le⟩ := s
  dsimp only at h1 h2 h3 h4 ⊢
  have hbad : (badT en le (cv (o p0)) = true) ↔ ∃ q, p0 < q ∧ q < m ∧ befB (cv (o q)) (cv (o p0)) = true := by
    unfold badT
    constructor
    · intro hb
      rw [Bool.and_eq_true, decide_eq_true_iff] at hb
      obtain ⟨q, q1, q2, q3, q4⟩ := h3 hb.1
      exact ⟨q, by omega, q2, (befB_iff _ _).2 ⟨q3, by rw [q4]; exact hb.2⟩⟩
    · rintro ⟨q, q1, q2, q3⟩
      obtain ⟨q4, q5⟩ := (befB_iff _ _).1 q3
      cases en with
      | false => exact absurd q4 (h1 rfl q (by omega) q2)
      | true =>
        have := h2 rfl q (by omega) q2 q4
        rw [Bool.and_eq_true, decide_eq_true_iff]
        exact ⟨rfl, by omega⟩
  have hok : (ok && !badT en le (cv (o p0))) = true ↔ ∀ p q, p0 ≤ p → p < q → q < m → ¬ befB (cv (o q)) (cv (o p)) = true := by
    rw [Bool.and_eq_true, h4]
    constructor
    · rintro ⟨a1, a2⟩ p q b1 b2 b3 b4
      by_cases hp : p = p0
      · subst hp
        rw [hbad.2 ⟨q, b2, b3, b4⟩] at a2
        cases a2
      · exact a1 p q (by omega) b2 b3 b4
    · intro a
      refine ⟨fun p q b1 b2 b3 => a p q (by omega) b2 b3, ?_⟩
      cases hb : badT en le (cv (o p0)) with
      | false => rfl
      | true =>
        obtain ⟨q, b1, b2, b3⟩ := hbad.1 hb
        exact absurd b3 (a p0 q (Nat.le_refl _) b1 b2)
  by_cases hu : 0 ≤ (cv (o p0)).fin ∧ (en = false ∨ (cv (o p0)).fin < le)
  · have eu : updT en le (cv (o p0)) = (true, (cv (o p0)).fin) := by unfold updT; rw [if_pos hu]
    rw [eu]
    refine ⟨?_, fun _ q a1 a2 a3 => ?_, fun _ => ⟨p0, by omega, by omega, hu.1, rfl⟩, by rw [e1]; exact hok⟩
    · intro h; cases h
    · dsimp only
      by_cases hq : q = p0
      · subst hq; omega
      · cases en with
        | false => exact absurd a3 (h1 rfl q (by omega) a2)
        | true =>
          have := h2 rfl q (by omega) a2 a3
          rcases hu.2 with h | h
          · cases h
          · omega
  · have eu : updT en le (cv (o p0)) = (en, le) := by unfold updT; rw [if_neg hu]
    rw [eu]
    refine ⟨fun he q a1 a2 => ?_, fun he q a1 a2 a3 => ?_, fun he => ?_, by rw [e1]; exact hok⟩
    · dsimp only at he
      by_cases hq : q = p0
      · subst hq; intro h; exact hu ⟨h, .inl he⟩
      · exact h1 he q (by omega) a2
    · dsimp only at he ⊢
      by_cases hq : q = p0
      · subst hq
        by_cases hl : le ≤ (cv (o q)).fin
        · exact hl
        · exact absurd ⟨a3, .inr (by omega)⟩ hu
      · exact h2 he q (by omega) a2 a3
    · obtain ⟨q, a1, a2, a3, a4⟩ := h3 he
      exact ⟨q, by omega, a2, a3, a4⟩
theorem tmI_all {n m : Nat} (cv : Nat → CallV) (o : Nat → Nat) (L : List (At n)) (hL : IsBw n m o L) : ∀ k, k ≤ m → TmI cv o m k (tmS cv (L.take k)) := by
  intro k
  induction k with
  | zero =>
    intro _
    refine ⟨fun _ q a1 a2 => by omega, ?_, ?_, ?_⟩
    · intro h; cases h
    · intro h; cases h
    · refine ⟨fun _ p q a1 a2 a3 => by omega, fun _ => rfl⟩
  | succ k ih =>
    intro hk
    obtain ⟨x, hx, hx1⟩ := hL.2 k (by omega)
    have htk : L.take (k + 1) = L.take k ++ [x] := by rw [List.take_add_one, hx]; rfl
    rw [htk, tmS_snoc]
    have := tmI_step cv o m k (by omega) _ (ih (by omega))
    unfold stepT
    rw [hx1]
    exact this
theorem tmS_iff {n m : Nat} (cv : Nat → CallV) (o : Nat → Nat) (L : List (At n)) (hL : IsBw n m o L) : (tmS cv L).1 = true ↔ Tm cv o m := by
  have h := (tmI_all cv o L hL m (Nat.le_refl _)).ok
  rw [List.take_of_length_le (by rw [hL.1]; exact Nat.le_refl _)] at h
  rw [h]
  unfold Tm
  constructor
  · intro a p q b1 b2; exact a p q (by omega) b1 b2
  · intro a p q _ b1 b2; exact a p q b1 b2
theorem isBw_ex (n m : Nat) (o : Nat → Nat) (h : ∀ i, i < m → o i < n) : ∃ L : List (At n), IsBw n m o L := by
  refine ⟨(List.range m).pmap (fun k (hk : k < m) => (⟨(m - 1 - k, o (m - 1 - k)), h _ (by omega)⟩ : At n)) (fun k hk => List.mem_range.1 hk), by simp, fun k hk => ?_⟩
  refine ⟨⟨(m - 1 - k, o (m - 1 - k)), h _ (by omega)⟩, ?_, rfl⟩
  rw [List.getElem?_pmap]
  simp [hk]
theorem isTimely_any (n m : Nat) (cv : Nat → CallV) (o : Nat → Nat) (v u : Value) (B : Nat) (w : World) (h : Sl w B 6 v n (ccells n cv)) (hu : Sl w B 1 u m (icells m o)) (hB : B ≤ w.heap.size) (hn : n ≤ 20) (hm : m ≤ 30) (ho : ∀ i, i < m → o i < n) :
    Calls Tryd.prog 22 #[v, u] w (IsB (Tm cv o m) w) := by
  obtain ⟨L, hL⟩ := isBw_ex n m o ho
  refine (callsIn_wide.1 (isTimely_in n m cv o L hL v u B w h hu hB hn hm)).mono ?_
  rintro e w' ⟨rfl, hb⟩
  exact ⟨_, rfl, tmS_iff cv o L hL, hb⟩
end Go.Proofs.YtmcbgjkogggneaaDoor
