/- Sorting by exchanges, in memory: rows of elements of one cell. -/
import Derived.Test.YtmcbgjkogggneaaDoorSrA
import Derived.Test.YtmcbgjkogggneaaDoorSrE
import Derived.Test.YtmcbgjkogggneaaDoorMono
import Derived.Test.YtmcbgjkogggneaaDoorMonoT
import Derived.Test.YtmcbgjkogggneaaDoorCells
import Derived.Lib.Hide
import Derived.OwnWalk
import Derived.IntWalk
import Derived.BigQuiet
import Derived.BigRegion
import Derived.Laws.Rows
import Derived.Deep.DeepCutAuto
namespace Go.Proofs.YtmcbgjkogggneaaDoor
set_option maxRecDepth 100000
set_option linter.unusedVariables false
set_option linter.unusedSimpArgs false
open Go.RowKit
/-- A row of elements, none of its cells frozen. -/
structure Arr (w : World) (b n : Nat) (f : Nat → El) : Prop where
  cell : ∀ k, k < n → w.cell? ⟨b, k, none⟩ = some (enc (f k))
  free : ∀ k, w.frozen? ⟨b, k, none⟩ = false
  lt : b < w.heap.size
section
variable {w w' : World} {b n : Nat} {f : Nat → El}
theorem Arr.below (h : Arr w b n f) {B : Nat} (hb : Below B w w') (hB : b < B) : Arr w' b n f :=
  ⟨fun k hk => (hb.cell (p := ⟨b, k, none⟩) hB).trans (h.cell k hk), fun k => (hb.frozen (p := ⟨b, k, none⟩) hB).trans (h.free k), Nat.lt_of_lt_of_le h.lt hb.size⟩
theorem Arr.up (h : Arr w b n f) (hb : Below w.heap.size w w') : Arr w' b n f := h.below hb h.lt
theorem Arr.kept (h : Arr w b n f) {row : Option Nat} (hg : w.grownBy w' row) (hne : some b ≠ row) : Arr w' b n f :=
  ⟨fun k hk => hg.cell (h.cell k hk) hne, fun k => (World.frozen?_of_block (hg.block b h.lt hne)).trans (h.free k), Nat.lt_of_lt_of_le h.lt hg.size⟩
theorem Arr.set (h : Arr w b n f) (k : Nat) (x : El) : Arr (w.setCell ⟨b, k, none⟩ (enc x)) b n (updF f k x) := by
  refine ⟨fun j hj => ?_, fun j => by rw [World.frozen?_setCell]; exact h.free j, by simpa using h.lt⟩
  unfold updF
  by_cases e : j = k
  · subst e
    rw [if_pos rfl]
    exact World.cell?_setCell_same _ _ _ (h.cell j hj)
  · rw [if_neg e, World.cell?_setCell_other _ _ _ _ (by simp <;> omega)]
    exact h.cell j hj
theorem updF_swp (f : Nat → El) (i j : Nat) : updF (updF f i (f j)) j (f i) = swp f i j := by
  by_cases e : i = j
  · subst e
    funext k
    unfold updF swp
    split
    · rfl
    · rfl
  · exact (swp_upd f i j e).symm
theorem Arr.swap (h : Arr w b n f) (i j : Nat) : Arr ((w.setCell ⟨b, i, none⟩ (enc (f j))).setCell ⟨b, j, none⟩ (enc (f i))) b n (swp f i j) := by
  rw [← updF_swp]
  exact (h.set i (f j)).set j (f i)
theorem Arr.sub (h : Arr w b n f) {m : Nat} (hm : m ≤ n) : Arr w b m f := ⟨fun k hk => h.cell k (by omega), h.free, h.lt⟩
end
/-- Only the block b of what was there is written. -/
abbrev Gr (b : Nat) (w w' : World) : Prop := w.grownBy w' (some b)
theorem Gr.refl (b : Nat) (w : World) : Gr b w w := World.grownBy.refl w _
theorem Gr.trans {b : Nat} {w w' w'' : World} (h : Gr b w w') (h' : Gr b w' w'') : Gr b w w'' :=
  ⟨h'.os.trans h.os, h'.tape.trans h.tape, h'.output.trans h.output, Nat.le_trans h.size h'.size, fun k hk hne => (h'.block k (Nat.lt_of_lt_of_le hk h.size) hne).trans (h.block k hk hne)⟩
theorem Gr.up {b : Nat} {w w' w'' : World} (h : Gr b w w') (h' : Below w'.heap.size w' w'') : Gr b w w'' :=
  h.trans ⟨h'.os, h'.tape, h'.output, h'.size, fun k hk _ => h'.block k hk⟩
theorem Gr.set {b : Nat} {w w' : World} (h : Gr b w w') (k : Nat) (v : Value) : Gr b w (w'.setCell ⟨b, k, none⟩ v) := by
  have hb : Below b w' (w'.setCell ⟨b, k, none⟩ v) := (Below.refl b w').setCell (p := ⟨b, k, none⟩) (Nat.le_refl _) v
  refine h.trans ⟨hb.os, hb.tape, hb.output, hb.size, fun j hj hne => ?_⟩
  exact heap_setCell_other w' ⟨b, k, none⟩ j v (fun e => hne (by rw [e]))
theorem Gr.below {b B : Nat} {w w' : World} (h : Gr b w w') (hB : B ≤ b) (hB' : B ≤ w.heap.size) : Below B w w' :=
  (Below.refl B w).grown h hB' (fun k hk => by cases hk; exact hB)
end Go.Proofs.YtmcbgjkogggneaaDoor
