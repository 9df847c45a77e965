/- Regions that draw their order and store into blocks that they made. -/
import Derived.Test.YtodjoccdjmmilaaMono
import Derived.Test.YtodjoccdjmmilaaCells
namespace Go.Proofs.Ytodjoccdjmmilaa.Mono
open Go Go.RowKit
/-- Blocks of cells keep their form. -/
def Shape (W W' : World) : Prop := ∀ (k : Nat) (cs : Array Value) (t : TypeId), W.heap[k]? = some (.cells cs t (0, 0)) → ∃ cs' : Array Value, W'.heap[k]? = some (.cells cs' t (0, 0)) ∧ cs'.size = cs.size
theorem Shape.refl (W : World) : Shape W W := fun _ cs _ h => ⟨cs, h, rfl⟩
theorem Shape.trans {a b c : World} (h : Shape a b) (k : Shape b c) : Shape a c := fun i cs t hi => by
  obtain ⟨cs', h1, h2⟩ := h i cs t hi
  obtain ⟨cs'', h3, h4⟩ := k i cs' t h1
  exact ⟨cs'', h3, h4.trans h2⟩
theorem Shape.of_below {a b : World} (h : Below a.heap.size a b) : Shape a b := fun i cs _ hi => by
  have hlt : i < a.heap.size := by
    rcases Nat.lt_or_ge i a.heap.size with h' | h'
    · exact h'
    · rw [Array.getElem?_eq_none h'] at hi; cases hi
  exact ⟨cs, (h.block i hlt).trans hi, rfl⟩
theorem heap_set {W : World} {b j : Nat} {v : Value} {cs : Array Value} {t : TypeId} {fr : Nat × Nat} (h : W.heap[b]? = some (.cells cs t fr)) : (W.setCell ⟨b, j, none⟩ v).heap[b]? = some (.cells (cs.setIfInBounds j v) t fr) := by
  have hlt : b < W.heap.size := by
    rcases Nat.lt_or_ge b W.heap.size with h' | h'
    · exact h'
    · rw [Array.getElem?_eq_none h'] at h; cases h
  simp only [World.setCell, Array.getElem?_modify, h]
  simp
theorem Shape.setCell {a W : World} (h : Shape a W) (b j : Nat) (v : Value) : Shape a (W.setCell ⟨b, j, none⟩ v) := fun i cs t hi => by
  obtain ⟨cs', h1, h2⟩ := h i cs t hi
  by_cases e : i = b
  · subst e
    exact ⟨_, heap_set h1, by simpa using h2⟩
  · exact ⟨cs', (Below.heap_setCell W _ _ _ e).trans h1, h2⟩
/-- What the region may do: below B nothing changes, and blocks keep their form. -/
def RN (B : Nat) (W W' : World) : Prop := Below B W W' ∧ Shape W W'
theorem rnr (B : Nat) (W : World) : RN B W W := ⟨Below.refl _ _, Shape.refl _⟩
theorem rnt (B : Nat) (a b c : World) (h : RN B a b) (k : RN B b c) : RN B a c := ⟨h.1.trans k.1, h.2.trans k.2⟩
theorem RN.of_below {B : Nat} {a b : World} (h : Below a.heap.size a b) (hB : B ≤ a.heap.size) : RN B a b := ⟨h.mono hB, Shape.of_below h⟩
theorem RN.setCell {B : Nat} {a W : World} (h : RN B a W) {b : Nat} (hb : B ≤ b) (j : Nat) (v : Value) : RN B a (W.setCell ⟨b, j, none⟩ v) := ⟨h.1.setCell (p := ⟨b, j, none⟩) hb v, h.2.setCell b j v⟩
/-- A pointer to a block of n cells that the region made. -/
def NewS (B n : Nat) (v : Value) (W : World) : Prop := ∃ b cs t, v = .pointer (some ⟨b, 0, none⟩) ∧ B ≤ b ∧ W.heap[b]? = some (.cells cs t (0, 0)) ∧ cs.size = n
theorem hstNewS {B n : Nat} : ∀ v W W', (fun v W => NewS B n v W) v W → RN B W W' → (fun v W => NewS B n v W) v W' := by
  rintro v W W' ⟨b, cs, t, h1, h2, h3, h4⟩ hR
  obtain ⟨cs', h5, h6⟩ := hR.2 b cs t h3
  exact ⟨b, cs', t, h1, h2, h5, h6.trans h4⟩
theorem NewS.new {B : Nat} {W : World} (hB : B ≤ W.heap.size) (cs : Array Value) (t : TypeId) (n : Nat) (hn : cs.size = n) : NewS B n (.pointer (some ⟨W.heap.size, 0, none⟩)) (W.alloc (.cells cs t)) :=
  ⟨_, cs, t, rfl, hB, heap_alloc_new _ _, hn⟩
theorem NewS.own {B n : Nat} {v : Value} {W : World} (h : NewS B n v W) : ∃ b, v = .pointer (some ⟨b, 0, none⟩) ∧ B ≤ b ∧ ∃ cs : List Value, cs.length = n ∧ Own W b cs := by
  obtain ⟨b, cs, t, h1, h2, h3, h4⟩ := h
  refine ⟨b, h1, h2, cs.toList, by simpa using h4, fun j v hj => ?_, fun j => frozen_of_row W b j cs t h3⟩
  rw [cell_of_row W b j cs t (0, 0) h3]
  simpa using hj
section
variable {P : Program} {l : List Oper} {a0 : Act} {w : World} {R : World → World → Prop} {Q : Exit → Act → World → Prop} {Φr : List (Value → World → Prop)}
/-- An operation that leaves no value. -/
theorem rgl_store {o : Oper} {todo : List Oper} (hg : o.guard = none)
    (h : ∀ (ρ : Nat → Value) (a : Act) (W : World), R w W → DepsR l Φr ρ W → FindsR l a0 Φr ρ a → ∃ x W', ((execOp a.eval o).run P W = .ok .skip W' ∨ (execOp a.eval o).run P W = .ok (.value x) W') ∧ R W W')
    (rest : RGL P l a0 w R Q ((fun _ _ => True) :: Φr) todo) : RGL P l a0 w R Q Φr (o :: todo) := by
  refine rgl_step (fun _ _ => True) (fun _ _ _ _ _ => trivial) (fun ρ a W hR hd hf => ?_) rest
  rw [hg]
  obtain ⟨x, W', h1 | h1, h2⟩ := h ρ a W hR hd hf
  · simp only [h1, YieldM]; exact ⟨h2, trivial⟩
  · simp only [h1, YieldM]; exact ⟨h2, trivial⟩
theorem region_new {id : Nat} {l : List Oper} {a : Act} {w : World} (B : Nat) (hm : P.follows .mixedOrders = true) (hB : soloB l.toArray = true) (hn : boundB l.toArray a.tmps.size = true)
    (h : RGL P l a w (RN B) Q [] l) : (Code.region id l.toArray true).wp P Q a w :=
  region_mono (RN B) hm hB hn (rnr B) (rnt B) (RG.world (w := w) (R := RN B) (fun _ hR => ⟨⟨hR.1.os, hR.1.tape, hR.1.output, hR.1.size, hR.1.block⟩, hR.2⟩) (h rfl))
end
end Go.Proofs.Ytodjoccdjmmilaa.Mono
