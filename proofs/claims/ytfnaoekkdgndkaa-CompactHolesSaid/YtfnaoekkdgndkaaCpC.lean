/- What Plan does, what Holes says: plain. -/
import Derived.Test.YtfnaoekkdgndkaaCpB
namespace Go.Proofs.Ytfnaoekkdgndkaa
set_option maxRecDepth 100000
set_option linter.unusedVariables false
set_option linter.unusedSimpArgs false
/-- A move: from, to, how long. -/
structure Mv where
  f : Nat
  t : Nat
  l : Nat
structure PlS where
  to : Nat
  mv : List Mv
  ls : Nat → List Sp
def setL (ls : Nat → List Sp) (o i t : Nat) : Nat → List Sp := fun k => if k = o then (ls o).set i (t, (atS (ls o) i).2) else ls k
def pstep (s : PlS) (p : Pc) : PlS := ⟨s.to + p.l, if p.a = s.to then s.mv else s.mv ++ [⟨p.a, s.to, p.l⟩], setL s.ls p.o p.i s.to⟩
def planN (ls : Nat → List Sp) (g : Nat → Pc) : Nat → PlS
  | 0 => ⟨0, [], ls⟩
  | k + 1 => pstep (planN ls g k) (g k)
/-- How long the first ones are. -/
def lenN (g : Nat → Pc) : Nat → Nat
  | 0 => 0
  | k + 1 => lenN g k + (g k).l
theorem planN_to (ls : Nat → List Sp) (g : Nat → Pc) (k : Nat) : (planN ls g k).to = lenN g k := by
  induction k with
  | zero => rfl
  | succ k ih => unfold planN lenN pstep; rw [ih]
theorem planN_congr {ls : Nat → List Sp} {g h : Nat → Pc} (k : Nat) (e : ∀ j, j < k → g j = h j) : planN ls g k = planN ls h k := by
  induction k with
  | zero => rfl
  | succ k ih => unfold planN; rw [ih (fun j hj => e j (by omega)), e k (by omega)]
theorem lenN_mono (g : Nat → Pc) {j k : Nat} (h : j ≤ k) : lenN g j ≤ lenN g k := by
  induction k with
  | zero => rw [show j = 0 by omega]; exact Nat.le_refl _
  | succ k ih =>
    by_cases e : j = k + 1
    · rw [e]; exact Nat.le_refl _
    · have := ih (by omega)
      show lenN g j ≤ lenN g k + (g k).l
      omega
/-- What was planned stays ahead. -/
theorem planN_pre (ls : Nat → List Sp) (g : Nat → Pc) {j k : Nat} (h : j ≤ k) : ∃ rest, (planN ls g k).mv = (planN ls g j).mv ++ rest := by
  induction k with
  | zero => rw [show j = 0 by omega]; exact ⟨[], by simp⟩
  | succ k ih =>
    by_cases e : j = k + 1
    · rw [e]; exact ⟨[], by simp⟩
    · obtain ⟨r, hr⟩ := ih (by omega)
      show ∃ rest, (pstep (planN ls g k) (g k)).mv = (planN ls g j).mv ++ rest
      unfold pstep
      by_cases e2 : (g k).a = (planN ls g k).to
      · simp only [e2, if_true]; exact ⟨r, hr⟩
      · simp only [e2, if_false]
        rw [hr]
        exact ⟨r ++ [_], by rw [List.append_assoc]⟩
theorem planN_len (ls : Nat → List Sp) (g : Nat → Pc) (k : Nat) : (planN ls g k).mv.length ≤ k := by
  induction k with
  | zero => exact Nat.le_refl _
  | succ k ih =>
    unfold planN pstep
    split
    · simp only; omega
    · simp only [List.length_append, List.length_singleton]; omega
theorem setL_len (ls : Nat → List Sp) (o i t k : Nat) : (setL ls o i t k).length = (ls k).length := by
  unfold setL
  split
  · rename_i e; subst e; simp
  · rfl
theorem planN_lens (ls : Nat → List Sp) (g : Nat → Pc) (k o : Nat) : ((planN ls g k).ls o).length = (ls o).length := by
  induction k with
  | zero => rfl
  | succ k ih => unfold planN pstep; simp only; rw [setL_len, ih]
theorem atS_setL (ls : Nat → List Sp) (o i t k j : Nat) : atS (setL ls o i t k) j = if k = o ∧ j = i ∧ j < (ls k).length then (t, (atS (ls k) j).2) else atS (ls k) j := by
  unfold setL
  by_cases e : k = o
  · subst e
    rw [if_pos rfl]
    unfold atS
    rw [List.getD_eq_getElem?_getD, List.getElem?_set]
    by_cases e2 : i = j
    · subst e2
      by_cases h : i < (ls k).length
      · rw [if_pos rfl, if_pos h, if_pos ⟨rfl, rfl, h⟩]; rfl
      · rw [if_pos rfl, if_neg h, if_neg (fun hh => h hh.2.2)]
        rw [List.getD_eq_getElem?_getD, List.getElem?_eq_none (by omega)]
    · rw [if_neg e2, if_neg (fun hh => e2 hh.2.1.symm), List.getD_eq_getElem?_getD]
  · rw [if_neg e, if_neg (fun hh => e hh.1)]
theorem planN_snd (ls : Nat → List Sp) (g : Nat → Pc) (k o j : Nat) : (atS ((planN ls g k).ls o) j).2 = (atS (ls o) j).2 := by
  induction k with
  | zero => rfl
  | succ k ih =>
    unfold planN pstep
    simp only
    rw [atS_setL]
    split
    · exact ih
    · exact ih
/-- Where a piece goes. -/
theorem planN_put (ls : Nat → List Sp) (g : Nat → Pc) (K m : Nat) (hm : m < K) (hi : (g m).i < (ls (g m).o).length) (hd : ∀ k, k < K → k ≠ m → ¬ ((g k).o = (g m).o ∧ (g k).i = (g m).i)) : (atS ((planN ls g K).ls (g m).o) (g m).i).1 = lenN g m := by
  induction K with
  | zero => omega
  | succ K ih =>
    unfold planN pstep
    simp only
    rw [atS_setL]
    by_cases e : m = K
    · subst e
      rw [if_pos ⟨rfl, rfl, by rw [planN_lens]; exact hi⟩]
      exact planN_to _ _ _
    · rw [if_neg (fun hh => hd K (by omega) (fun e2 => e e2.symm) ⟨hh.1.symm, hh.2.1.symm⟩)]
      exact ih (by omega) (fun k hk => hd k (by omega))
theorem planN_first (ls : Nat → List Sp) (g : Nat → Pc) (K o j : Nat) (hd : ∀ k, k < K → ¬ ((g k).o = o ∧ (g k).i = j)) : atS ((planN ls g K).ls o) j = atS (ls o) j := by
  induction K with
  | zero => rfl
  | succ K ih =>
    unfold planN pstep
    simp only
    rw [atS_setL, if_neg (fun hh => hd K (by omega) ⟨hh.1.symm, hh.2.1.symm⟩)]
    exact ih (fun k hk => hd k (by omega))
/-- Each piece is in the list once. -/
theorem allP_pairs (ls : Nat → List Sp) (n : Nat) : (allP ls n).Pairwise fun p q => ¬ (p.o = q.o ∧ p.i = q.i) := by
  have hrow : ∀ o l j, (rowN o l j).Pairwise fun p q => ¬ (p.o = q.o ∧ p.i = q.i) := by
    intro o l j
    induction j with
    | zero => exact List.Pairwise.nil
    | succ j ih =>
      unfold rowN
      refine List.pairwise_append.2 ⟨ih, List.pairwise_singleton _ _, fun p hp q hq => ?_⟩
      obtain ⟨k, hk, rfl⟩ := mem_rowN.1 hp
      rw [List.mem_singleton.1 hq]
      rintro ⟨_, h⟩
      have : k = j := h
      omega
  induction n with
  | zero => exact List.Pairwise.nil
  | succ n ih =>
    unfold allP
    refine List.pairwise_append.2 ⟨ih, hrow _ _ _, fun p hp q hq => ?_⟩
    obtain ⟨o, j, h1, h2, rfl⟩ := mem_allP.1 hp
    obtain ⟨k, hk, rfl⟩ := mem_rowN.1 hq
    rintro ⟨h, _⟩
    have : o = n := h
    omega
theorem pcs_pairs (ls : Nat → List Sp) (n : Nat) : (pcs ls n).Pairwise fun p q => ¬ (p.o = q.o ∧ p.i = q.i) :=
  ((insL_perm (allP ls n)).pairwise_iff (fun h e => h ⟨e.1.symm, e.2.symm⟩)).2 (allP_pairs ls n)
theorem pcs_ne (ls : Nat → List Sp) (n : Nat) {k m : Nat} (hk : k < sumL ls n) (hm : m < sumL ls n) (h : k ≠ m) : ¬ ((atP (pcs ls n) k).o = (atP (pcs ls n) m).o ∧ (atP (pcs ls n) k).i = (atP (pcs ls n) m).i) := by
  have hl := pcs_len ls n
  have hp := List.pairwise_iff_getElem.1 (pcs_pairs ls n)
  have e : ∀ {j} (hj : j < (pcs ls n).length), atP (pcs ls n) j = (pcs ls n)[j] := fun hj => by
    have := atP_get hj
    rw [List.getElem?_eq_getElem hj] at this
    exact (Option.some.inj this).symm
  rw [e (by omega : k < _), e (by omega : m < _)]
  rcases Nat.lt_or_gt_of_ne h with h | h
  · exact hp k m (by omega) (by omega) h
  · rintro ⟨h1, h2⟩
    exact hp m k (by omega) (by omega) h ⟨h1.symm, h2.symm⟩
theorem pcs_is (ls : Nat → List Sp) (n : Nat) {k : Nat} (hk : k < sumL ls n) : ∃ o j, o < n ∧ j < (ls o).length ∧ atP (pcs ls n) k = pcOf o (ls o) j := by
  have hl := pcs_len ls n
  exact mem_allP.1 ((insL_perm _).mem_iff.1 (atP_mem (show k < (pcs ls n).length by omega)))
theorem pcs_has (ls : Nat → List Sp) (n : Nat) {o j : Nat} (ho : o < n) (hj : j < (ls o).length) : ∃ k, k < sumL ls n ∧ atP (pcs ls n) k = pcOf o (ls o) j := by
  have hl := pcs_len ls n
  obtain ⟨k, hk, e⟩ := mem_atP ((insL_perm (allP ls n)).mem_iff.2 (mem_allP.2 ⟨o, j, ho, hj, rfl⟩))
  exact ⟨k, by have : (insL (allP ls n)).length = sumL ls n := hl; omega, e.symm⟩
/-- Where Plan leaves a span. -/
theorem plan_at (ls : Nat → List Sp) (n : Nat) {k o j : Nat} (hk : k < sumL ls n) (hj : j < (ls o).length) (e : atP (pcs ls n) k = pcOf o (ls o) j) : atS ((planN ls (atP (pcs ls n)) (sumL ls n)).ls o) j = (lenN (atP (pcs ls n)) k, (atS (ls o) j).2) := by
  have h1 := planN_put ls (atP (pcs ls n)) (sumL ls n) k hk (by rw [e]; exact hj) (fun q hq hne => pcs_ne ls n hq hk hne)
  rw [e] at h1
  have h2 := planN_snd ls (atP (pcs ls n)) (sumL ls n) o j
  exact Prod.ext h1 h2
theorem lenN_bytes (l : List Pc) (k : Nat) (h : k ≤ l.length) : lenN (atP l) k = (bytesP (l.take k)).length := by
  induction k with
  | zero => rfl
  | succ k ih =>
    unfold lenN
    rw [ih (by omega), List.take_add_one, atP_get (by omega), bytesP_app, List.length_append]
    congr 1
    simp [bytesP, bts_len]
theorem lenN_total (ls : Nat → List Sp) (n : Nat) : lenN (atP (pcs ls n)) (sumL ls n) = (allB ls n).length := by
  have hl := pcs_len ls n
  rw [lenN_bytes _ _ (by omega), List.take_of_length_le (by omega), ← bytesP_all]
  exact (bytesP_perm (insL_perm _)).length_eq
/-- Pieces behind one another leave room ahead. -/
theorem ends_at {l : List Pc} (h : l.Pairwise fun p q => p.a + p.l ≤ q.a) {i j : Nat} (hij : i < j) (hj : j < l.length) : (atP l i).a + (atP l i).l ≤ (atP l j).a := by
  have hp := List.pairwise_iff_getElem.1 h i j (by omega) hj hij
  have e : ∀ {j} (hj : j < l.length), atP l j = l[j] := fun hj => by
    have := atP_get hj
    rw [List.getElem?_eq_getElem hj] at this
    exact (Option.some.inj this).symm
  rw [e hj, e (by omega : i < _)]
  exact hp
theorem lenN_le {l : List Pc} (h : l.Pairwise fun p q => p.a + p.l ≤ q.a) (k : Nat) (hk : k < l.length) : lenN (atP l) k ≤ (atP l k).a := by
  induction k with
  | zero => exact Nat.zero_le _
  | succ k ih =>
    have h1 := ih (by omega)
    have h2 := ends_at h (show k < k + 1 by omega) hk
    show lenN (atP l) k + (atP l k).l ≤ _
    omega
/-- Pieces that fill all have no room ahead. -/
theorem lenN_eq {l : List Pc} (h : l.Pairwise fun p q => p.a + p.l ≤ q.a) (T : Nat) (hT : lenN (atP l) l.length = T) (hb : ∀ p ∈ l, p.a + p.l ≤ T) (k : Nat) (hk : k < l.length) : (atP l k).a = lenN (atP l) k := by
  have hge := lenN_le h k hk
  have key : ∀ d k, k + d + 1 = l.length → (atP l k).a ≤ lenN (atP l) k := by
    intro d
    induction d with
    | zero =>
      intro k hk
      have h1 := hb _ (atP_mem (show k < l.length by omega))
      have h2 : lenN (atP l) (k + 1) = lenN (atP l) k + (atP l k).l := rfl
      rw [show k + 1 = l.length by omega] at h2
      omega
    | succ d ih =>
      intro k hk
      have h1 := ih (k + 1) (by omega)
      have h2 := ends_at h (show k < k + 1 by omega) (by omega)
      have h3 : lenN (atP l) (k + 1) = lenN (atP l) k + (atP l k).l := rfl
      omega
  have := key (l.length - k - 1) k (by omega)
  omega
end Go.Proofs.Ytfnaoekkdgndkaa
