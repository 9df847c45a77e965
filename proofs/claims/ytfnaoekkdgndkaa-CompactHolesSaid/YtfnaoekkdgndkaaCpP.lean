/- Plan's moves, one by one. Plain. -/
import Derived.Test.YtfnaoekkdgndkaaCpU
namespace Go.Proofs.Ytfnaoekkdgndkaa
set_option maxRecDepth 100000
set_option linter.unusedVariables false
set_option linter.unusedSimpArgs false
section
variable {ls : Nat → List Sp} {n : Nat}
theorem PL_mem : ∀ (k : Nat), ∀ m ∈ (PL ls n k).mv, ∃ q, q < k ∧ m = ⟨(atP (pcs ls n) q).a, lenN (atP (pcs ls n)) q, (atP (pcs ls n) q).l⟩
  | 0, m, hm => by cases hm
  | k + 1, m, hm => by
    obtain ⟨h1, h2⟩ := PL_step ls n k _ rfl
    by_cases e : (atP (pcs ls n) k).a = lenN (atP (pcs ls n)) k
    · rw [h1 e] at hm
      obtain ⟨q, hq, h3⟩ := PL_mem k m hm
      exact ⟨q, by omega, h3⟩
    · rw [h2 e] at hm
      rcases List.mem_append.1 hm with hm | hm
      · obtain ⟨q, hq, h3⟩ := PL_mem k m hm
        exact ⟨q, by omega, h3⟩
      · exact ⟨k, by omega, List.mem_singleton.1 hm⟩
theorem PL_cost : ∀ (k : Nat), costL (PL ls n k).mv ≤ lenN (atP (pcs ls n)) k
  | 0 => Nat.le_refl _
  | k + 1 => by
    obtain ⟨h1, h2⟩ := PL_step ls n k _ rfl
    have ih := PL_cost k
    have hs : lenN (atP (pcs ls n)) (k + 1) = lenN (atP (pcs ls n)) k + (atP (pcs ls n) k).l := rfl
    by_cases e : (atP (pcs ls n) k).a = lenN (atP (pcs ls n)) k
    · rw [h1 e]
      show costL (PL ls n k).mv ≤ _
      omega
    · rw [h2 e]
      show costL ((PL ls n k).mv ++ [_]) ≤ _
      rw [costL_snoc, hs]
      exact Nat.add_le_add_right ih _
theorem PL_nth {k : Nat} (hk : k < sumL ls n) (hne : (atP (pcs ls n) k).a ≠ lenN (atP (pcs ls n)) k) : (PL ls n (sumL ls n)).mv[(PL ls n k).mv.length]? = some ⟨(atP (pcs ls n) k).a, lenN (atP (pcs ls n)) k, (atP (pcs ls n) k).l⟩ := by
  obtain ⟨_, h2⟩ := PL_step ls n k _ rfl
  obtain ⟨rest, h3⟩ : ∃ rest, (PL ls n (sumL ls n)).mv = (PL ls n (k + 1)).mv ++ rest := planN_pre _ _ (by omega)
  rw [h3, h2 hne]
  simp
end
theorem mv_row {w : World} {base e cap g n : Nat} {l : List Mv} (h : Row base e 3 w (.slice (some ⟨g, 0, none⟩) n cap) n (lc mvC l)) {j : Nat} {x : Mv} (hn : n = l.length) (hj : l[j]? = some x) :
    w.cell? ⟨g, j * 3, none⟩ = some (.int .i64 (x.f : Nat)) ∧ w.cell? ⟨g, j * 3 + 1, none⟩ = some (.int .i64 (x.t : Nat)) ∧ w.cell? ⟨g, j * 3 + 2, none⟩ = some (.int .i64 (x.l : Nat)) := by
  have := mv_cells h.sl hn hj
  simpa only [Nat.zero_add] using this
end Go.Proofs.Ytfnaoekkdgndkaa
