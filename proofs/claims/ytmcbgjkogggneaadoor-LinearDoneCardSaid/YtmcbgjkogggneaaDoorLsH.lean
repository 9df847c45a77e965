/- Short names search alike. -/
import Derived.Test.YtmcbgjkogggneaaDoorLsG
namespace Go.Proofs.YtmcbgjkogggneaaDoor
set_option maxRecDepth 100000
set_option linter.unusedVariables false
set_option linter.unusedSimpArgs false
open Go.RowKit Go.Maps Go.WideMaps
theorem hasL_ren {K l : List ByteArray} {s : ByteArray} (hK : K.length < 100) (hl : ∀ t ∈ l, hasL K t = true) (hs : hasL K s = true) : hasL (l.map fun s => dgs (ixL K s)) (dgs (ixL K s)) = hasL l s := by
  induction l with
  | nil => rfl
  | cons a r ih =>
    rw [List.map_cons, hasL_cons, hasL_cons, ih (fun t ht => hl t (List.mem_cons_of_mem _ ht))]
    have ha := hl a List.mem_cons_self
    congr 1
    refine decide_eq_decide.2 ⟨fun h => ?_, fun h => by rw [h]⟩
    have h1 := ixL_lt ha
    have h2 := ixL_lt hs
    exact ixL_inj ha hs (dgs_inj (by omega) (by omega) h)
theorem map_ren {K l ns : List ByteArray} (hK : K.length < 100) (hl : ∀ t ∈ l, hasL K t = true) (hn : ∀ t ∈ ns, hasL K t = true) : ((l.map fun s => dgs (ixL K s)) = ns.map fun s => dgs (ixL K s)) ↔ l = ns := by
  constructor
  · intro h
    induction l generalizing ns with
    | nil =>
      cases ns with
      | nil => rfl
      | cons a r => cases h
    | cons a r ih =>
      cases ns with
      | nil => cases h
      | cons b q =>
        rw [List.map_cons, List.map_cons] at h
        injection h with h1 h2
        have ha := hl a List.mem_cons_self
        have hb := hn b List.mem_cons_self
        have e1 := ixL_lt ha
        have e2 := ixL_lt hb
        rw [ixL_inj ha hb (dgs_inj (by omega) (by omega) h1), ih (fun t ht => hl t (List.mem_cons_of_mem _ ht)) (fun t ht => hn t (List.mem_cons_of_mem _ ht)) h2]
  · intro h; rw [h]
theorem tells_ren {K l ns ns' : List ByteArray} {c c' : CallV} (hK : K.length < 100) (hl : ∀ t ∈ l, hasL K t = true) (hll : l.length ≤ 8) (h : ShortOf K c c' ns ns') :
    tells (l.map fun s => dgs (ixL K s)) c' ns' = ((tells l c ns).1.map fun s => dgs (ixL K s), (tells l c ns).2) ∧ ∀ t ∈ (tells l c ns).1, hasL K t = true := by
  obtain ⟨h1, h2, h3, h4, h5, h6, h7, h8⟩ := h
  unfold tells
  rw [h2, h3, h4, h6, hasL_ren hK hl h1]
  by_cases k1 : c.kind = 1
  · rw [if_pos k1, if_pos k1]
    by_cases hh : hasL l c.name = true
    · rw [if_pos hh, if_pos hh]
      exact ⟨rfl, hl⟩
    · rw [if_neg hh, if_neg hh]
      refine ⟨by simp, fun t ht => ?_⟩
      rcases List.mem_append.1 ht with ht | ht
      · exact hl t ht
      · simp at ht; rw [ht]; exact h1
  rw [if_neg k1, if_neg k1]
  by_cases k2 : c.kind = 2
  · rw [if_pos k2, if_pos k2]
    exact ⟨rfl, hl⟩
  rw [if_neg k2, if_neg k2]
  by_cases k3 : c.kind = 3
  · rw [if_pos k3, if_pos k3]
    refine ⟨?_, hl⟩
    congr 1
    rcases h8 with ⟨a1, a2, a3⟩ | ⟨a1, a2⟩
    · rw [a3]
      exact decide_eq_decide.2 (map_ren hK hl a2)
    · rw [a2]
      refine decide_eq_decide.2 ⟨fun h => ?_, fun h => ?_⟩
      · have := congrArg List.length h
        rw [List.length_map] at this
        omega
      · rw [h] at hll; omega
  rw [if_neg k3, if_neg k3]
  exact ⟨rfl, hl⟩
section
variable {n : Nat} {K : List ByteArray} {cv cv' : Nat → CallV} {nm nm' : Nat → List ByteArray}
theorem st_ren (hK : K.length < 100) (h : ∀ k, k < n → ShortOf K (cv k) (cv' k) (nm k) (nm' k)) {f : Nat → Nat} : ∀ m, m ≤ 8 → (∀ i, i < m → f i < n) →
    st cv' nm' f m = ((st cv nm f m).1.map fun s => dgs (ixL K s), (st cv nm f m).2) ∧ ∀ t ∈ (st cv nm f m).1, hasL K t = true := by
  intro m
  induction m with
  | zero => exact fun _ _ => ⟨rfl, fun t ht => by cases ht⟩
  | succ m ih =>
    intro hm hf
    obtain ⟨i1, i2⟩ := ih (by omega) (fun i hi => hf i (by omega))
    have hlen := st_len cv nm f m
    obtain ⟨t1, t2⟩ := tells_ren hK i2 (by omega) (h (f m) (hf m (by omega)))
    rw [st_succ, st_succ, i1]
    refine ⟨?_, t2⟩
    simp only
    rw [t1]
theorem stL_ren (hK : K.length < 100) (h : ∀ k, k < n → ShortOf K (cv k) (cv' k) (nm k) (nm' k)) {o : List Nat} (ho : o.length ≤ 8) (hx : ∀ x ∈ o, x < n) :
    stL cv' nm' o = ((stL cv nm o).1.map fun s => dgs (ixL K s), (stL cv nm o).2) ∧ ∀ t ∈ (stL cv nm o).1, hasL K t = true :=
  st_ren hK h _ ho fun i hi => hx _ (at0_mem hi)
theorem goB_ren (hK : K.length < 100) (h : ∀ k, k < n → ShortOf K (cv k) (cv' k) (nm k) (nm' k)) {o : List Nat} (ho : o.length ≤ 8) (hx : ∀ x ∈ o, x < n) {i : Nat} (hi : i < n) : goB n cv' nm' o i = goB n cv nm o i := by
  have hc : ∀ k, k < n → canB (cv' k) = canB (cv k) := fun k hk => by
    obtain ⟨_, _, h3, _, h5, h6, _⟩ := h k hk
    unfold canB
    rw [h3, h6]
  have hb : ∀ j k, j < n → k < n → befB (cv' j) (cv' k) = befB (cv j) (cv k) := fun j k hj hk => by
    obtain ⟨_, _, _, _, _, h6, _⟩ := h j hj
    obtain ⟨_, _, _, _, g5, _, _⟩ := h k hk
    unfold befB
    rw [h6, g5]
  unfold goB
  congr 1
  · unfold nxB
    rw [hc i hi]
    congr 1
    rw [Bool.eq_iff_iff, List.all_eq_true, List.all_eq_true]
    refine forall_congr' fun j => ?_
    refine imp_congr_right fun hj => ?_
    have hj := List.mem_range.1 hj
    unfold nxJ
    rw [hb j i hj hi, (h j hj).2.2.2.2.2.1]
  · unfold tlB
    obtain ⟨s1, s2⟩ := stL_ren hK h ho hx
    have hlen := stL_len cv nm o
    rw [s1]
    simp only
    rw [(tells_ren hK s2 (by omega) (h i hi)).1]
theorem mustN_ren (h : ∀ k, k < n → ShortOf K (cv k) (cv' k) (nm k) (nm' k)) (o : List Nat) : mustN n cv' o = mustN n cv o := by
  unfold mustN
  refine cntN_congr fun k hk => ?_
  unfold muB
  rw [(h k hk).2.2.2.2.2.1]
theorem find_congr {α : Type} {f g : Nat → Option α} : ∀ {l : List Nat}, (∀ x ∈ l, f x = g x) → l.findSome? f = l.findSome? g := by
  intro l
  induction l with
  | nil => intro _; rfl
  | cons a r ih =>
    intro h
    rw [List.findSome?_cons, List.findSome?_cons, h a List.mem_cons_self, ih fun x hx => h x (List.mem_cons_of_mem _ hx)]
theorem srch_ren (hK : K.length < 100) (h : ∀ k, k < n → ShortOf K (cv k) (cv' k) (nm k) (nm' k)) : ∀ k o, o.length + k ≤ 8 → (∀ x ∈ o, x < n) → srch n cv' nm' k o = srch n cv nm k o := by
  intro k
  induction k with
  | zero => intro o _ _; unfold srch; rw [mustN_ren h]
  | succ k ih =>
    intro o ho hx
    unfold srch
    rw [mustN_ren h]
    congr 1
    refine find_congr fun i hi => ?_
    have hi := List.mem_range.1 hi
    rw [goB_ren hK h (by omega) hx hi, ih (o ++ [i]) (by rw [List.length_append]; simp; omega) (fun x hxx => by
      rcases List.mem_append.1 hxx with hxx | hxx
      · exact hx x hxx
      · simp at hxx; omega)]
end
end Go.Proofs.YtmcbgjkogggneaaDoor
