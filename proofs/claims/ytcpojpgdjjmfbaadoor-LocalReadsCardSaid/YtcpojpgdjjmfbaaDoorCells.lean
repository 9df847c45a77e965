/- Cells of a block. -/
import Derived.Test.YtcpojpgdjjmfbaaDoorRows
import Derived.WalkKit
import Derived.Lib.Hide
import Derived.Deep.QuietTactic
namespace Go.Proofs.YtcpojpgdjjmfbaaDoor
set_option linter.unusedVariables false
set_option linter.unusedSimpArgs false
open Go.RowKit
/-- The cells of a block, from its head on. -/
def Cells (w : World) (b : Nat) (cs : List Value) : Prop := ∀ j v, cs[j]? = some v → w.cell? ⟨b, j, none⟩ = some v
theorem Cells.below {w w' : World} {b B : Nat} {cs : List Value} (h : Cells w b cs) (hb : Below B w w') (hB : b < B) : Cells w' b cs :=
  fun j v hj => (hb.cell (p := ⟨b, j, none⟩) hB).trans (h j v hj)
theorem Cells.new (w : World) (cs : List Value) (t : TypeId) : Cells (w.alloc (.cells cs.toArray t)) w.heap.size cs := by
  intro j v hj
  rw [World.cell?_alloc_at _ _ _ _ rfl]; simpa using hj
theorem Cells.new_at (w : World) (cs : List Value) (t : TypeId) (b : Nat) (h : b = w.heap.size) : Cells (w.alloc (.cells cs.toArray t)) b cs := h ▸ Cells.new w cs t
/-- A block's cells, none of them frozen. -/
def Own (w : World) (b : Nat) (cs : List Value) : Prop := Cells w b cs ∧ ∀ j, w.frozen? ⟨b, j, none⟩ = false
theorem Own.new_at (w : World) (cs : List Value) (t : TypeId) (b : Nat) (h : b = w.heap.size) : Own (w.alloc (.cells cs.toArray t)) b cs :=
  ⟨Cells.new_at w cs t b h, fun j => by rw [World.frozen?_alloc_at _ _ _ _ (by subst h; rfl)]⟩
theorem Own.below {w w' : World} {b B : Nat} {cs : List Value} (h : Own w b cs) (hb : Below B w w') (hB : b < B) : Own w' b cs :=
  ⟨h.1.below hb hB, fun j => (hb.frozen (p := ⟨b, j, none⟩) hB).trans (h.2 j)⟩
theorem Own.set {w : World} {b : Nat} {cs : List Value} (h : Own w b cs) (k : Nat) (x : Value) (hk : k < cs.length) : Own (w.setCell ⟨b, k, none⟩ x) b (cs.set k x) := by
  refine ⟨fun j v hj => ?_, fun j => by rw [World.frozen?_setCell]; exact h.2 j⟩
  by_cases e : j = k
  · subst e
    rw [List.getElem?_set_self hk] at hj
    cases hj
    exact World.cell?_setCell_same _ _ _ (h.1 j _ (List.getElem?_eq_getElem hk))
  · rw [List.getElem?_set_ne (fun q => e q.symm)] at hj
    rw [World.cell?_setCell_other _ _ _ _ (by simp <;> omega)]
    exact h.1 j v hj
theorem Own.other {w : World} {b c : Nat} {cs : List Value} (h : Own w b cs) (hc : c ≠ b) (k : Nat) (x : Value) : Own (w.setCell ⟨c, k, none⟩ x) b cs :=
  ⟨fun j v hj => by rw [World.cell?_setCell_other _ _ _ _ (by simp <;> omega)]; exact h.1 j v hj, fun j => by rw [World.frozen?_setCell]; exact h.2 j⟩
theorem below_drewN {B : Nat} {a w : World} (h : Below B a w) (n : Nat) : Below B a (w.drewN n) := ⟨h.os, h.tape, h.output, h.size, h.block⟩
theorem below_new {w w1 w2 : World} {o : Obj} (h : Below w.heap.size w w1) (hb : Below (w1.alloc o).heap.size (w1.alloc o) w2) : Below w.heap.size w w2 :=
  (h.alloc h.size o).trans (hb.mono (by have := h.size; simp; omega))
end Go.Proofs.YtcpojpgdjjmfbaaDoor
