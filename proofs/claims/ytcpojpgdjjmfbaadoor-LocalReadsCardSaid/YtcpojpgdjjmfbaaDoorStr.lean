/- A store of a whole struct into a block of the call's own, in one step. -/
import Derived.Test.YtcpojpgdjjmfbaaDoorTrapA
import Derived.Test.YtcpojpgdjjmfbaaDoorCells
import Derived.Deep.MidRow
namespace Go.Proofs.YtcpojpgdjjmfbaaDoor
set_option linter.unusedVariables false
set_option linter.unusedSimpArgs false
set_option maxRecDepth 100000
open Go.RowKit
/-- Where the walk stands still. -/
def Stop (p : Prop) : Prop := p
theorem stop_store {P : Program} {ops : Array Oper} {Q : Exit → Act → World → Prop} {rest : List Oper} {a : Act} {w : World} {d : Option Tmp} {ty t : TypeId} {x y : Operand} {pos : String} {aft : Array Edge} {g : Option (Nat × Bool)}
    (h : Stop (wpList P ops Q (⟨d, .store ty x y, t, pos, aft, g⟩ :: rest) a w)) : wpList P ops Q (⟨d, .store ty x y, t, pos, aft, g⟩ :: rest) a w := h
theorem setCells_keep (b : Nat) : ∀ (vs : List Value) (o : Nat) (w : World), w.grownBy (w.setCells b o vs) (some b) ∧ (w.setCells b o vs).heap.size = w.heap.size ∧ ∀ p : Addr, (w.setCells b o vs).frozen? p = w.frozen? p
  | [], _, w => ⟨only_refl w _, rfl, fun _ => rfl⟩
  | v :: r, o, w => by
    obtain ⟨h1, h2, h3⟩ := setCells_keep b r (o + 1) (w.setCell ⟨b, o, none⟩ v)
    refine ⟨?_, ?_, fun p => ?_⟩
    · exact gr_trans (only_setCell (only_refl w (some b)) (.inl rfl) v) h1 (fun i h => .inl h)
    · rw [World.setCells, h2]; simp [World.setCell]
    · rw [World.setCells, h3 p, World.frozen?_setCell]
theorem Own.gr {w w' : World} {c : Nat} {cs : List Value} {row : Option Nat} (h : Own w c cs) (hg : w.grownBy w' row) (hc : c < w.heap.size) (hne : some c ≠ row) : Own w' c cs :=
  ⟨fun j v hj => (gr_cell hg (p := ⟨c, j, none⟩) hc hne).trans (h.1 j v hj), fun j => (gr_frozen hg (p := ⟨c, j, none⟩) hc hne).trans (h.2 j)⟩
theorem store_own {ops : Array Oper} {rest : List Oper} {a : Act} {w : World} {Q : Exit → Act → World → Prop} {d : Option Tmp} {ty t : TypeId} {x y : Operand} {pos : String} {aft : Array Edge} {b : Nat} {cs : List Value} (vs : List Value) (hown : Own w b cs)
    (hx : a.eval x = .pointer (some ⟨b, 0, none⟩)) (hy : a.eval y = .agg vs.toArray) (hl : vs.length = cs.length) (hi : (Tryd.prog.info? ty).map (·.size) = some vs.length) (h1 : vs.toArray.all (·.oneCell') = true)
    (h : ∀ w', Own w' b vs → w.grownBy w' (some b) → w'.heap.size = w.heap.size → wpList Tryd.prog ops Q rest (a.put d undef) w') : Stop (wpList Tryd.prog ops Q (⟨d, .store ty x y, t, pos, aft, none⟩ :: rest) a w) := by
  have ht : w.there b 0 vs.length := by
    intro j hj
    have hj' : j < cs.length := by omega
    rw [Nat.zero_add]
    exact ⟨by rw [hown.1 j _ (List.getElem?_eq_getElem hj')]; rfl, hown.2 j⟩
  obtain ⟨k1, k2, k3⟩ := setCells_keep b vs 0 w
  refine wpList_store_mid rfl ty x y rfl b 0 vs.toArray hx hy (by simpa using ht) (by simpa using hi) h1 (h _ ⟨fun j v hj => ?_, fun j => ?_⟩ k1 k2)
  · have := World.rangeAt_setCells_same w b 0 vs ht j v hj
    rw [Nat.zero_add] at this
    simpa using this
  · show (w.setCells b 0 _).frozen? _ = false
    rw [(setCells_keep b _ 0 w).2.2 _]
    exact hown.2 j
end Go.Proofs.YtcpojpgdjjmfbaaDoor
