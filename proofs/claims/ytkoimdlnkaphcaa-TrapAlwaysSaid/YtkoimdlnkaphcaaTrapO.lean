/- An argument that is a slice of steps reads as a list of steps. -/
import Derived.Test.YtkoimdlnkaphcaaTrapE
import Derived.Deep.Slices
import Derived.Deep.Fields
import Derived.ChangeSame
namespace Go.Proofs.Ytkoimdlnkaphcaa
open Go.RowKit Plain Go.ChangeShapes Go.WideShapes Go.Deep
section
variable {H : Type} {enc : TypeId × Value → H} {w : World} {base : Nat} {spare : Nat → Bool} {held : Bool}
theorem steps_cell {fuel : Nat} {cs : List Value} {x : DataW H × List MemPlace} (h : DataW.trod enc Try.prog w base spare held fuel 38 cs = some x) : ∃ k c : Int, cs = [.int .i64 k, .int .i64 c] := by
  obtain ⟨ys, n', hn', hy, hlen, hyl, hf⟩ := DataW.trod_struct Try.underlying38 h
  have hl : cs.length = 2 := hlen.trans (by kernel_rfl)
  match cs, hl with
  | [c0, c1], _ =>
    have h0 := hf 0 _ rfl
    have h1 := hf 1 _ rfl
    obtain ⟨k, e0, _⟩ := DataW.trod_int Try.underlying3 (h0.trans (List.getElem?_eq_getElem (by rw [hyl]; decide)))
    obtain ⟨c, e1, _⟩ := DataW.trod_int Try.underlying3 (h1.trans (List.getElem?_eq_getElem (by rw [hyl]; decide)))
    have c2 : Try.prog.cellsOf 3 = 1 := by kernel_rfl
    simp [c2] at e0 e1
    exact ⟨k, c, by rw [e0, e1]⟩
theorem lst_open {fuel : Nat} {v : Value} {x : DataW H × List MemPlace} (h : DataW.trod enc Try.prog w base spare held fuel 22 [v] = some x) : ∃ l, Lst w w.heap.size v l := by
  have c2 : Try.prog.cellsOf 38 = 2 := by kernel_rfl
  rcases open_slice Try.underlying22 h with ⟨h0, _⟩ | ⟨a, len, cap, m, n, D, Pl, hcs, hb, hl, hm, hmm, hx, hi⟩
  · injection h0 with h0
    exact ⟨[], .inl ⟨none, 0, h0, rfl⟩⟩
  · injection hcs with hv
    have hlm : len ≤ m := by rw [hmm]; split <;> omega
    have key : ∀ i, i < len → ∃ k c : Int, w.cell? (a.add (i * 2)) = some (.int .i64 k) ∧ w.cell? (a.add (i * 2 + 1)) = some (.int .i64 c) := by
      intro i hil
      obtain ⟨cs', hc, ht⟩ := hi i (by omega)
      rw [c2] at hc
      obtain ⟨k, c, rfl⟩ := steps_cell ht
      obtain ⟨_, _, hat⟩ := World.cells?_some hc
      have h0 := hat 0 (by omega)
      have h1 := hat 1 (by omega)
      rw [Go.Deep.add_add] at h0 h1
      exact ⟨k, c, h0, h1⟩
    by_cases hz : len = 0
    · exact ⟨[], .inl ⟨some a, cap, by rw [hv, hz], rfl⟩⟩
    · have hsp : a.spot = none := by
        obtain ⟨k, c, h0, _⟩ := key 0 (by omega)
        simp only [Nat.zero_mul, Addr.add] at h0
        unfold World.cell? at h0
        cases hs : a.spot with
        | none => rfl
        | some s =>
          exfalso
          simp only [if_true, hs] at h0
          split at h0 <;> simp at h0
      have hbl : a.block < w.heap.size := by
        obtain ⟨k, c, h0, _⟩ := key 0 (by omega)
        simp only [Nat.zero_mul, Addr.add] at h0
        exact World.block_lt_of_cell? w _ h0
      have hadd : ∀ n, a.add n = ⟨a.block, a.off + n, none⟩ := by
        intro n
        unfold Addr.add
        split
        · rename_i h; subst h; cases a; simp_all
        · rfl
      have build : ∀ n, n ≤ len → ∃ l : List St, l.length = n ∧ ∀ j, j < n → w.cell? ⟨a.block, a.off + j * 2, none⟩ = some (.int .i64 (l.getD j (0, 0)).1) ∧ w.cell? ⟨a.block, a.off + j * 2 + 1, none⟩ = some (.int .i64 (l.getD j (0, 0)).2) := by
        intro n
        induction n with
        | zero => intro _; exact ⟨[], rfl, fun j hj => by omega⟩
        | succ n ih =>
          intro hn
          obtain ⟨l, hl1, hl2⟩ := ih (by omega)
          obtain ⟨k, c, h0, h1⟩ := key n (by omega)
          refine ⟨l ++ [(k, c)], by simp [hl1], fun j hj => ?_⟩
          by_cases hjn : j < n
          · have := hl2 j hjn
            rw [show (l ++ [(k, c)]).getD j (0, 0) = l.getD j (0, 0) from by simp [List.getElem?_append, hl1, hjn]]
            exact this
          · obtain rfl : j = n := by omega
            rw [show (l ++ [(k, c)]).getD j (0, 0) = (k, c) from by simp [← hl1]]
            rw [hadd] at h0 h1
            exact ⟨h0, h1⟩
      obtain ⟨l, hl1, hl2⟩ := build len (Nat.le_refl _)
      refine ⟨l, .inr ⟨a.block, a.off, cap, ?_, by omega, hbl, fun j hj => hl2 j (by omega)⟩⟩
      rw [hv, hl1]
      cases a
      simp only at hsp
      rw [hsp]
end
end Go.Proofs.Ytkoimdlnkaphcaa
