/- The moves are right, and keep each byte. Plain. -/
import Derived.Test.YtfnaoekkdgndkaaCpD
import Derived.Test.YtfnaoekkdgndkaaCpK
namespace Go.Proofs.Ytfnaoekkdgndkaa
set_option maxRecDepth 100000
set_option linter.unusedVariables false
set_option linter.unusedSimpArgs false
def toMI (m : Mv) : MvI := ⟨m.f, m.t, m.l⟩
theorem mvI_eq (l : List Mv) : lc mvI (l.map toMI) = lc mvC l := by
  unfold lc
  rw [List.flatMap_map]
  rfl
theorem atM_map {l : List Mv} {k : Nat} (h : k < l.length) : atM (l.map toMI) k = toMI (l[k]) := by
  unfold atM
  rw [List.getD_eq_getElem?_getD, List.getElem?_map, List.getElem?_eq_getElem h]
  rfl
theorem atM_pre {l m : List Mv} {k : Nat} (h : k < l.length) : atM ((l ++ m).map toMI) k = atM (l.map toMI) k := by
  unfold atM
  rw [List.getD_eq_getElem?_getD, List.getD_eq_getElem?_getD, List.map_append, List.getElem?_append_left (by simpa using h)]
theorem atM_last (l : List Mv) (m : Mv) : atM ((l ++ [m]).map toMI) l.length = toMI m := by
  unfold atM
  rw [List.getD_eq_getElem?_getD, List.map_append, List.getElem?_append_right (by simp)]
  simp
theorem RightP.pre {l : List Mv} {m : List Mv} {k : Nat} (hk : k ≤ l.length) (h : RightP (l.map toMI) k) : RightP ((l ++ m).map toMI) k := by
  intro i hi
  obtain ⟨h1, h2⟩ := h i hi
  rw [atM_pre (by omega)]
  refine ⟨h1, ?_⟩
  rcases h2 with h2 | h2
  · exact .inl h2
  · by_cases e : i = 0
    · exact .inl e
    · rw [atM_pre (by omega)]
      exact .inr h2
section
variable {ls : Nat → List Sp} {n : Nat}
theorem PL_right (h : WF ls n) : ∀ k, k ≤ sumL ls n → RightP ((PL ls n k).mv.map toMI) (PL ls n k).mv.length ∧ ∀ y, (PL ls n k).mv.getLast? = some y → y.t + y.l ≤ lenN (atP (pcs ls n)) k ∧ (k < sumL ls n → y.f + y.l ≤ (atP (pcs ls n) k).a)
  | 0, _ => ⟨fun i hi => by simp [PL, planN] at hi, fun y hy => by simp [PL, planN] at hy⟩
  | k + 1, hk => by
    obtain ⟨h1, h2⟩ := PL_right h k (by omega)
    have hle := PL_le h (show k < sumL ls n by omega)
    have hlen : lenN (atP (pcs ls n)) (k + 1) = lenN (atP (pcs ls n)) k + (atP (pcs ls n) k).l := rfl
    have hend : k + 1 < sumL ls n → (atP (pcs ls n) k).a + (atP (pcs ls n) k).l ≤ (atP (pcs ls n) (k + 1)).a := fun hlt => ends_at h.ends (show k < k + 1 by omega) (by rw [pcs_len]; exact hlt)
    obtain ⟨s1, s2⟩ := PL_step ls n k _ rfl
    by_cases e : (atP (pcs ls n) k).a = lenN (atP (pcs ls n)) k
    · rw [s1 e]
      refine ⟨h1, fun y hy => ?_⟩
      obtain ⟨h3, h4⟩ := h2 y hy
      have h5 := h4 (by omega)
      refine ⟨by omega, fun hlt => ?_⟩
      have := hend hlt
      omega
    · rw [s2 e]
      have hpos : (atP (pcs ls n) k).l ≠ 0 := h.posP _ ((insL_perm _).mem_iff.1 (atP_mem (show k < (pcs ls n).length by rw [pcs_len]; omega)))
      simp only
      refine ⟨?_, fun y hy => ?_⟩
      · rw [List.length_append]
        refine (RightP.pre (Nat.le_refl _) h1).step ?_ ?_
        · rw [atM_last]
          unfold OkM toMI
          simp only
          omega
        · rcases snoc_cases (PL ls n k).mv with h0 | ⟨i, y, h0⟩
          · left; rw [h0]; rfl
          · right
            obtain ⟨h3, h4⟩ := h2 y (by rw [h0]; simp)
            have h5 := h4 (by omega)
            rw [atM_last, h0]
            rw [show (i ++ [y]).length - 1 = i.length by simp, atM_pre (by simp), atM_last]
            unfold StM toMI
            simp only
            omega
      · have hy' : y = ⟨(atP (pcs ls n) k).a, lenN (atP (pcs ls n)) k, (atP (pcs ls n) k).l⟩ := by
          simp at hy
          exact hy.symm
        subst hy'
        simp only
        exact ⟨by omega, hend⟩
/-- A move done. -/
def doMv (D : Nat → Nat) (m : Mv) : Nat → Nat := fun x => if m.t ≤ x ∧ x < m.t + m.l then D (m.f + (x - m.t)) else D x
def runMv (D : Nat → Nat) (l : List Mv) : Nat → Nat := l.foldl doMv D
theorem runMv_snoc (D : Nat → Nat) (l : List Mv) (m : Mv) : runMv D (l ++ [m]) = doMv (runMv D l) m := by unfold runMv; simp
theorem run_keeps (h : WF ls n) (D : Nat → Nat) : ∀ k, k ≤ sumL ls n → (∀ j, j < k → ∀ q, q < (atP (pcs ls n) j).l → runMv D (PL ls n k).mv (lenN (atP (pcs ls n)) j + q) = D ((atP (pcs ls n) j).a + q)) ∧ ∀ x, (∀ j, j < k → (atP (pcs ls n) j).a + (atP (pcs ls n) j).l ≤ x) → runMv D (PL ls n k).mv x = D x
  | 0, _ => ⟨fun j hj => by omega, fun x _ => rfl⟩
  | k + 1, hk => by
    obtain ⟨h1, h2⟩ := run_keeps h D k (by omega)
    have hle := PL_le h (show k < sumL ls n by omega)
    have hahead : ∀ j, j < k → (atP (pcs ls n) j).a + (atP (pcs ls n) j).l ≤ (atP (pcs ls n) k).a := fun j hj => ends_at h.ends hj (by rw [pcs_len]; omega)
    have hl : ∀ j, j < k → lenN (atP (pcs ls n)) j + (atP (pcs ls n) j).l ≤ lenN (atP (pcs ls n)) k := fun j hj => lenN_mono (atP (pcs ls n)) (show j + 1 ≤ k by omega)
    obtain ⟨s1, s2⟩ := PL_step ls n k _ rfl
    by_cases e : (atP (pcs ls n) k).a = lenN (atP (pcs ls n)) k
    · rw [s1 e]
      refine ⟨fun j hj q hq => ?_, fun x hx => h2 x fun j hj => hx j (by omega)⟩
      by_cases ej : j = k
      · subst ej
        rw [← e]
        exact h2 _ fun i hi => by have := hahead i hi; omega
      · exact h1 j (by omega) q hq
    · rw [s2 e]
      simp only
      rw [runMv_snoc]
      refine ⟨fun j hj q hq => ?_, fun x hx => ?_⟩
      · unfold doMv
        simp only
        by_cases ej : j = k
        · subst ej
          rw [if_pos ⟨by omega, by omega⟩, show lenN (atP (pcs ls n)) j + q - lenN (atP (pcs ls n)) j = q by omega]
          exact h2 _ fun i hi => by have := hahead i hi; omega
        · have := hl j (by omega)
          rw [if_neg (by omega)]
          exact h1 j (by omega) q hq
      · have h3 := hx k (by omega)
        unfold doMv
        simp only
        rw [if_neg (by omega)]
        exact h2 x fun j hj => hx j (by omega)
/-- Each byte is where its chain looks for it. -/
theorem run_byte (h : WF ls n) (D : Nat → Nat) {x : Nat} (hx : x ∈ allB ls n) : runMv D (PL ls n (sumL ls n)).mv (rkA ls n x) = D x := by
  have hb : x ∈ bytesP (pcs ls n) := by
    have := (bytesP_perm (insL_perm (allP ls n))).mem_iff (a := x)
    rw [bytesP_all] at this
    exact this.2 hx
  unfold bytesP at hb
  rw [List.mem_flatMap] at hb
  obtain ⟨p, hp, hxp⟩ := hb
  obtain ⟨k, hk, rfl⟩ := mem_atP hp
  rw [pcs_len] at hk
  have h1 := mem_bts.1 hxp
  simp only at h1
  have e : x = (atP (pcs ls n) k).a + (x - (atP (pcs ls n) k).a) := by omega
  have h2 := rank_at h.ends (k := k) (q := x - (atP (pcs ls n) k).a) (by rw [pcs_len]; exact hk) (by omega)
  rw [← e] at h2
  rw [rkA_pcs, h2, (run_keeps h D (sumL ls n) (Nat.le_refl _)).1 k hk _ (by omega), ← e]
end
end Go.Proofs.Ytfnaoekkdgndkaa
