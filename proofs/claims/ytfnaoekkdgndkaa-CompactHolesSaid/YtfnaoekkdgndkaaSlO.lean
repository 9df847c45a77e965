/- An argument that is a slice reads as a slice of cells. -/
import Derived.Test.YtfnaoekkdgndkaaLaw
import Derived.Test.YtfnaoekkdgndkaaSls
import Derived.Deep.Slices
import Derived.ChangeArms
import Derived.ChangeSlices
namespace Go.Proofs.Ytfnaoekkdgndkaa
set_option maxRecDepth 100000
set_option linter.unusedVariables false
set_option linter.unusedSimpArgs false
open Go.RowKit Go.ChangeShapes Go.WideShapes Go.Deep
theorem spot_none {w : World} {a : Addr} {u : Value} (h : w.cell? (a.add 0) = some u) : a = ⟨a.block, a.off, none⟩ := by
  have ha0 : a.add 0 = a := by simp [Addr.add]
  rw [ha0] at h
  have hsp : a.spot = none := by
    unfold World.cell? at h
    cases hs : a.spot with
    | none => rfl
    | some s =>
      exfalso
      simp only [hs] at h
      split at h <;> simp at h
  cases a; simp_all
theorem sl_open {H : Type} {enc : TypeId × Value → H} {w : World} {base : Nat} {spare : Nat → Bool} {held : Bool} {fuel size : Nat} {t e : TypeId} {v : Value} {x : DataW H × List MemPlace} (ht : Try.prog.underlying t = some (.slice e)) (hc : Try.prog.cellsOf e = size) (hs : 0 < size)
    (h : DataW.trod enc Try.prog w base spare held fuel t [v] = some x) :
    ∃ n cs, Sl w w.heap.size size v n cs ∧ n ≤ maxLen ∧ ∀ i, i < n → ∃ f y, DataW.trod enc Try.prog w base spare held f e ((cs.drop (i * size)).take size) = some y := by
  rcases open_slice ht h with ⟨h0, _⟩ | ⟨a, len, cap, m, n, D, Pl, hcs, hb, hl, hm, hmm, hx, hall⟩
  · injection h0 with h0
    subst h0
    exact ⟨0, [], Sl.nil, Nat.zero_le _, fun i hi => by omega⟩
  · injection hcs with hv
    subst hv
    have hlm : len ≤ m := by rw [hmm]; split <;> omega
    rw [hc] at hall
    by_cases hz : len = 0
    · subst hz
      exact ⟨0, [], ⟨by simp, some a, cap, rfl, Nat.zero_le _, .inl ⟨rfl, fun h => by cases h⟩⟩, Nat.zero_le _, fun i hi => by omega⟩
    have hcell : ∀ i, i < len → ∀ j, j < size → ∃ c, w.cell? ((a.add (i * size)).add j) = some c := by
      intro i hi j hj
      obtain ⟨cs', h1, _⟩ := hall i (by omega)
      obtain ⟨_, h2, h3⟩ := World.cells?_some h1
      exact ⟨cs'[j]'(by omega), by rw [h3 j hj, List.getElem?_eq_getElem (by omega)]⟩
    have hpl : a = ⟨a.block, a.off, none⟩ := by
      obtain ⟨c, hc0⟩ := hcell 0 (by omega) 0 hs
      rw [Nat.zero_mul] at hc0
      have e0 : (a.add 0).add 0 = a.add 0 := by simp [Addr.add]
      rw [e0] at hc0
      exact spot_none hc0
    generalize a.block = b at hpl
    generalize a.off = off at hpl
    subst hpl
    have hadd : ∀ i j, ((⟨b, off, none⟩ : Addr).add (i * size)).add j = ⟨b, off + (i * size + j), none⟩ := by
      intro i j
      rw [add_plain, add_plain, Nat.add_assoc]
    simp only [hadd] at hcell
    have hj : ∀ j, j < len * size → ∃ c, w.cell? ⟨b, off + j, none⟩ = some c := by
      intro j hj
      have := hcell (j / size) (Nat.div_lt_of_lt_mul (by rw [Nat.mul_comm]; exact hj)) (j % size) (Nat.mod_lt _ hs)
      rwa [Nat.mul_comm, Nat.div_add_mod] at this
    have hbl : b < w.heap.size := by
      obtain ⟨c, hc0⟩ := hj 0 (Nat.mul_pos (by omega) hs)
      exact World.block_lt_of_cell? w _ hc0
    refine ⟨len, (List.range (len * size)).map fun j => (w.cell? ⟨b, off + j, none⟩).getD undef, ⟨by simp, some ⟨b, off, none⟩, cap, rfl, hl, .inr ⟨b, off, rfl, hbl, fun j u hu => ?_⟩⟩, by omega, fun i hi => ?_⟩
    · have hjl : j < len * size := by
        have := (List.getElem?_eq_some_iff.1 hu).1
        simpa using this
      rw [List.getElem?_map, List.getElem?_range hjl] at hu
      obtain ⟨c, hc0⟩ := hj j hjl
      simp only [Option.map_some, hc0, Option.getD_some, Option.some.injEq] at hu
      subst hu
      exact hc0
    · obtain ⟨cs', h1, h2⟩ := hall i (by omega)
      obtain ⟨_, h3, h4⟩ := World.cells?_some h1
      refine ⟨n, (D i, Pl i), ?_⟩
      rw [show ((((List.range (len * size)).map fun j => (w.cell? ⟨b, off + j, none⟩).getD undef).drop (i * size)).take size) = cs' from ?_]
      · exact h2
      · refine List.ext_getElem? fun j => ?_
        by_cases hjs : j < size
        · have hlt : i * size + j < len * size := by
            have : (i + 1) * size ≤ len * size := Nat.mul_le_mul_right _ hi
            rw [Nat.add_mul, Nat.one_mul] at this
            omega
          rw [List.getElem?_take, if_pos hjs, List.getElem?_drop, List.getElem?_map, List.getElem?_range hlt]
          have h5 := h4 j hjs
          rw [hadd] at h5
          obtain ⟨c, hc0⟩ := hcell i hi j hjs
          rw [hc0] at h5
          simp only [Option.map_some, hc0, Option.getD_some]
          exact h5
        · rw [List.getElem?_eq_none (by simp; omega), List.getElem?_eq_none (by omega)]
end Go.Proofs.Ytfnaoekkdgndkaa
