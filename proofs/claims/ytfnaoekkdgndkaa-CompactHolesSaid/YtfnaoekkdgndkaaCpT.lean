/- What Made makes: chains that lie apart. Plain. -/
import Derived.Test.YtfnaoekkdgndkaaCpS
namespace Go.Proofs.Ytfnaoekkdgndkaa
set_option maxRecDepth 100000
set_option linter.unusedVariables false
set_option linter.unusedSimpArgs false
/-- Where the next span begins, and the spans of each chain. -/
def madeN (G : Nat → Nat × Nat × Nat) (tn : Nat) : Nat → Nat × (Nat → List Sp)
  | 0 => (0, fun _ => [])
  | k + 1 => ((madeN G tn k).1 + (G k).1 % 8 + (G k).2.1 % 8, updA (madeN G tn k).2 ((G k).2.2 % 3) (if tn / 2 ^ ((G k).2.2 % 3) % 2 = 1 then ((madeN G tn k).1 + (G k).1 % 8, (G k).2.1 % 8) :: (madeN G tn k).2 ((G k).2.2 % 3) else (madeN G tn k).2 ((G k).2.2 % 3) ++ [((madeN G tn k).1 + (G k).1 % 8, (G k).2.1 % 8)]))
theorem bts_nodup (a n : Nat) : (bts (a, n)).Nodup := by
  unfold bts
  exact nodup_map List.nodup_range fun x _ y _ h => by simp at h; exact h
theorem bytes_cons (x : Sp) (l : List Sp) : bytes (x :: l) = bts x ++ bytes l := by unfold bytes; simp
theorem allB3 (f : Nat → List Sp) : allB f 3 = bytes (f 0) ++ bytes (f 1) ++ bytes (f 2) := by
  show (([] ++ bytes (f 0)) ++ bytes (f 1)) ++ bytes (f 2) = _
  rw [List.nil_append]
theorem sumL3 (f : Nat → List Sp) : sumL f 3 = (f 0).length + (f 1).length + (f 2).length := by
  show 0 + (f 0).length + (f 1).length + (f 2).length = _
  omega
theorem upd_allB (f : Nat → List Sp) (o : Nat) (ho : o < 3) (x : Sp) (l : List Sp) (hl : (bytes l).Perm (bts x ++ bytes (f o))) : (allB (updA f o l) 3).Perm (bts x ++ allB f 3) := by
  rw [List.perm_iff_count]
  intro z
  have h := (List.perm_iff_count.1 hl) z
  rw [allB3, allB3]
  simp only [List.count_append] at h ⊢
  rcases (show o = 0 ∨ o = 1 ∨ o = 2 by omega) with rfl | rfl | rfl
  · rw [updA_at, updA_ne _ _ _ (show 1 ≠ 0 by omega), updA_ne _ _ _ (show 2 ≠ 0 by omega)]; omega
  · rw [updA_at, updA_ne _ _ _ (show 0 ≠ 1 by omega), updA_ne _ _ _ (show 2 ≠ 1 by omega)]; omega
  · rw [updA_at, updA_ne _ _ _ (show 0 ≠ 2 by omega), updA_ne _ _ _ (show 1 ≠ 2 by omega)]; omega
theorem upd_sumL (f : Nat → List Sp) (o : Nat) (ho : o < 3) (l : List Sp) (hl : l.length = (f o).length + 1) : sumL (updA f o l) 3 = sumL f 3 + 1 := by
  rw [sumL3, sumL3]
  rcases (show o = 0 ∨ o = 1 ∨ o = 2 by omega) with rfl | rfl | rfl
  · rw [updA_at, updA_ne _ _ _ (show 1 ≠ 0 by omega), updA_ne _ _ _ (show 2 ≠ 0 by omega)]; omega
  · rw [updA_at, updA_ne _ _ _ (show 0 ≠ 1 by omega), updA_ne _ _ _ (show 2 ≠ 1 by omega)]; omega
  · rw [updA_at, updA_ne _ _ _ (show 0 ≠ 2 by omega), updA_ne _ _ _ (show 1 ≠ 2 by omega)]; omega
structure MadeI (k : Nat) (s : Nat × (Nat → List Sp)) : Prop where
  at_le : s.1 ≤ 14 * k
  bd : ∀ o, ∀ x ∈ s.2 o, x.1 + x.2 ≤ s.1
  nd : (allB s.2 3).Nodup
  lt : ∀ x ∈ allB s.2 3, x < s.1
  sum : sumL s.2 3 = k
theorem made_inv (G : Nat → Nat × Nat × Nat) (tn : Nat) : ∀ k, MadeI k (madeN G tn k)
  | 0 => ⟨Nat.le_refl _, fun o x hx => (by cases hx), by rw [allB3]; exact List.Pairwise.nil, fun x hx => (by rw [allB3] at hx; cases hx), by rw [sumL3]; rfl⟩
  | k + 1 => by
    have h := made_inv G tn k
    have ho : (G k).2.2 % 3 < 3 := Nat.mod_lt _ (by omega)
    have h8 : (G k).1 % 8 < 8 := Nat.mod_lt _ (by omega)
    have h9 : (G k).2.1 % 8 < 8 := Nat.mod_lt _ (by omega)
    unfold madeN
    generalize madeN G tn k = s at *
    generalize (G k).2.2 % 3 = o at *
    generalize (G k).1 % 8 = a at *
    generalize (G k).2.1 % 8 = n at *
    obtain ⟨l, hl⟩ : ∃ l, (if tn / 2 ^ o % 2 = 1 then (s.1 + a, n) :: s.2 o else s.2 o ++ [(s.1 + a, n)]) = l := ⟨_, rfl⟩
    have hmem : ∀ x ∈ l, x = (s.1 + a, n) ∨ x ∈ s.2 o := by
      intro x hx
      rw [← hl] at hx
      split at hx
      · rcases List.mem_cons.1 hx with h | h
        · exact .inl h
        · exact .inr h
      · rcases List.mem_append.1 hx with h | h
        · exact .inr h
        · exact .inl (List.mem_singleton.1 h)
    have hlen : l.length = (s.2 o).length + 1 := by
      rw [← hl]
      split <;> simp
    have hby : (bytes l).Perm (bts (s.1 + a, n) ++ bytes (s.2 o)) := by
      rw [← hl]
      split
      · rw [bytes_cons]
      · rw [bytes_app, bytes_one]; exact List.perm_append_comm
    rw [hl]
    have hp := upd_allB s.2 o ho (s.1 + a, n) l hby
    refine ⟨?_, ?_, ?_, ?_, ?_⟩
    · have := h.at_le
      show s.1 + a + n ≤ _
      omega
    · intro q x hx
      show x.1 + x.2 ≤ s.1 + a + n
      replace hx : x ∈ updA s.2 o l q := hx
      by_cases e : q = o
      · subst e
        rw [updA_at] at hx
        rcases hmem x hx with rfl | hx
        · exact Nat.le_refl _
        · have := h.bd q x hx; omega
      · rw [updA_ne _ _ _ e] at hx
        have := h.bd q x hx
        omega
    · refine hp.nodup_iff.2 ?_
      rw [List.nodup_append]
      refine ⟨bts_nodup _ _, h.nd, fun x hx y hy e => ?_⟩
      have h1 := (mem_bts.1 hx).1
      have h2 := h.lt y hy
      simp only at h1
      omega
    · intro x hx
      show x < s.1 + a + n
      rcases List.mem_append.1 (hp.mem_iff.1 hx) with hx | hx
      · have := (mem_bts.1 hx).2
        simp only at this
        omega
      · have := h.lt x hx
        omega
    · show sumL (updA s.2 o l) 3 = k + 1
      rw [upd_sumL _ _ ho _ hlen, h.sum]
/-- The chains of what Made makes. -/
def madeL (G : Nat → Nat × Nat × Nat) (tn k : Nat) : Nat → List Sp := fun o => joinL ((madeN G tn k).2 o)
theorem made_wf (G : Nat → Nat × Nat × Nat) (tn k : Nat) : WF (madeL G tn k) 3 := by
  refine ⟨fun o _ => pos_join _, ?_⟩
  have h := (made_inv G tn k).nd
  rw [allB3] at h ⊢
  unfold madeL
  rw [bytes_join, bytes_join, bytes_join]
  exact h
theorem made_sum (G : Nat → Nat × Nat × Nat) (tn k : Nat) : sumL (madeL G tn k) 3 ≤ k := by
  have h := (made_inv G tn k).sum
  rw [sumL3] at h ⊢
  have h0 := join_len ((madeN G tn k).2 0)
  have h1 := join_len ((madeN G tn k).2 1)
  have h2 := join_len ((madeN G tn k).2 2)
  unfold madeL
  omega
theorem made_bd (G : Nat → Nat × Nat × Nat) (tn k : Nat) (hk : k ≤ 40) (o : Nat) : BdS ((madeN G tn k).2 o) := fun x hx => by
  have h1 := (made_inv G tn k).bd o x hx
  have h2 := (made_inv G tn k).at_le
  omega
theorem made_len (G : Nat → Nat × Nat × Nat) (tn k : Nat) (o : Nat) (ho : o < 3) : ((madeN G tn k).2 o).length ≤ k := by
  have h := (made_inv G tn k).sum
  rw [sumL3] at h
  rcases (show o = 0 ∨ o = 1 ∨ o = 2 by omega) with rfl | rfl | rfl <;> omega
theorem made_allB_lt (G : Nat → Nat × Nat × Nat) (tn k : Nat) (x : Nat) (hx : x ∈ allB (madeL G tn k) 3) : x < 14 * k := by
  have h := made_inv G tn k
  have h2 : x ∈ allB (madeN G tn k).2 3 := by
    rw [allB3] at hx ⊢
    unfold madeL at hx
    rw [bytes_join, bytes_join, bytes_join] at hx
    exact hx
  have := h.lt x h2
  have := h.at_le
  omega
end Go.Proofs.Ytfnaoekkdgndkaa
