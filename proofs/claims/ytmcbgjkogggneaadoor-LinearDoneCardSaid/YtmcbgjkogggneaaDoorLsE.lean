/- The search's state in memory. -/
import Derived.Test.YtmcbgjkogggneaaDoorLsP
namespace Go.Proofs.YtmcbgjkogggneaaDoor
set_option maxRecDepth 100000
set_option linter.unusedVariables false
set_option linter.unusedSimpArgs false
open Go.RowKit Go.Maps Go.WideMaps
def IntBlk (w : World) (b : Nat) : Prop := ∃ cur, w.heap[b]? = some (.cells cur 3 (0, 0))
/-- What the search's calls leave as it was. -/
structure FrS (mb mm sb base : Nat) (w w' : World) : Prop where
  os : w'.os = w.os
  tape : w'.tape = w.tape
  output : w'.output = w.output
  size : w.heap.size ≤ w'.heap.size
  block : ∀ b, b < w.heap.size → b ≠ mm → b ≠ mb → b ≠ sb → (b < base ∨ (¬ StrBlk w b ∧ ¬ IntBlk w b)) → w'.heap[b]? = w.heap[b]?
section
variable {mb mm sb base : Nat} {w w' w'' : World}
theorem FrS.refl (mb mm sb base : Nat) (w : World) : FrS mb mm sb base w w := ⟨rfl, rfl, rfl, Nat.le_refl _, fun _ _ _ _ _ _ => rfl⟩
theorem FrS.trans (h : FrS mb mm sb base w w') (k : FrS mb mm sb base w' w'') : FrS mb mm sb base w w'' :=
  ⟨k.os.trans h.os, k.tape.trans h.tape, k.output.trans h.output, Nat.le_trans h.size k.size, fun b h1 h2 h3 h4 h5 => by
    have e := h.block b h1 h2 h3 h4 h5
    refine (k.block b (Nat.lt_of_lt_of_le h1 h.size) h2 h3 h4 ?_).trans e
    rcases h5 with h5 | ⟨h5, h6⟩
    · exact .inl h5
    · exact .inr ⟨fun ⟨c, hc⟩ => h5 ⟨c, by rw [← e]; exact hc⟩, fun ⟨c, hc⟩ => h6 ⟨c, by rw [← e]; exact hc⟩⟩⟩
theorem FrS.of_d (h : FrD mb mm base w w') : FrS mb mm sb base w w' := ⟨h.os, h.tape, h.output, h.size, fun b h1 h2 h3 _ h5 => h.block b h1 h2 h3 (h5.imp id fun h => h.1)⟩
theorem FrS.of_below (h : Below w.heap.size w w') : FrS mb mm sb base w w' := FrS.of_d (FrD.of_below h)
theorem FrS.of_mm (h : w.grownBy w' (some mm)) : FrS mb mm sb base w w' := FrS.of_d (FrD.of_mm h)
theorem FrS.of_int {size n : Nat} {v : Value} {xs : List Value} (hr : Row base 3 size w v n xs) (h : w.grownBy w' v.ownBlock) : FrS mb mm sb base w w' := ⟨h.os, h.tape, h.output, h.size, fun b h1 _ _ _ h4 => h.block b h1 (fun e => by
  rcases hr.2 with ⟨hv, _⟩ | ⟨g, cap, cur, hv, hg, hh, _⟩
  · rw [hv] at e; cases e
  · rw [hv] at e
    injection e with e
    subst e
    rcases h4 with h4 | h4
    · omega
    · exact h4.2 ⟨cur, hh⟩)⟩
theorem FrS.setMb (mb mm sb base : Nat) (w : World) (k : Nat) (x : Value) : FrS mb mm sb base w (w.setCell ⟨mb, k, none⟩ x) := FrS.of_d (FrD.setMb _ _ _ _ _ _)
theorem FrS.setSb (mb mm sb base : Nat) (w : World) (k : Nat) (x : Value) : FrS mb mm sb base w (w.setCell ⟨sb, k, none⟩ x) := by
  have h : Below sb w (w.setCell ⟨sb, k, none⟩ x) := (Below.refl sb w).setCell (p := ⟨sb, k, none⟩) (Nat.le_refl _) x
  exact ⟨h.os, h.tape, h.output, h.size, fun b _ _ _ h4 _ => heap_setCell_other w ⟨sb, k, none⟩ b x (fun e => h4 e)⟩
theorem FrS.below (h : FrS mb mm sb base w w') (h1 : mm < mb) (h2 : mb < sb) (h3 : sb < base) (h4 : mm ≤ w.heap.size) : Below mm w w' :=
  ⟨h.os, h.tape, h.output, h.size, fun b hb => h.block b (by omega) (by omega) (by omega) (by omega) (.inl (by omega))⟩
theorem Own.block {b : Nat} {cs : List Value} (h : Own w b cs) (e : w'.heap[b]? = w.heap[b]?) : Own w' b cs :=
  ⟨fun j v hj => (World.cell?_of_block (w := w) (a := ⟨b, j, none⟩) e).trans (h.1 j v hj), fun j => (World.frozen?_of_block (w := w) (a := ⟨b, j, none⟩) e).trans (h.2 j)⟩
theorem Row.block {base e size n : Nat} {v : Value} {xs : List Value} (h : Row base e size w v n xs) (hb : ∀ g, base ≤ g → g < w.heap.size → (∃ cur, w.heap[g]? = some (.cells cur e (0, 0))) → w'.heap[g]? = w.heap[g]?) : Row base e size w' v n xs := by
  have hlt := h.lt
  refine ⟨h.1, ?_⟩
  rcases h.2 with h2 | ⟨g, cap, cur, hv, hg, hh, hr⟩
  · exact .inl h2
  · exact .inr ⟨g, cap, cur, hv, hg, (hb g hg (hlt g (by rw [hv]; rfl)).2 ⟨cur, hh⟩).trans hh, hr⟩
theorem Row.shrink {base e n cap : Nat} {g : Nat} {xs : List Value} {x : Value} (h : Row base e 1 w (.slice (some ⟨g, 0, none⟩) (n + 1) cap) (n + 1) (xs ++ [x])) : Row base e 1 w (.slice (some ⟨g, 0, none⟩) n cap) n xs := by
  have hl := h.1
  simp at hl
  refine ⟨by omega, .inr ?_⟩
  rcases h.2 with ⟨h2, _⟩ | ⟨g', cap', cur, hv, hg, hh, h1, h2, h3, h4⟩
  · cases h2
  · injection hv with hv1 hv2 hv3
    injection hv1 with hv1
    injection hv1 with hv1
    subst hv1 hv3
    refine ⟨g, cap, cur, rfl, hg, hh, by omega, h2, h3, ?_⟩
    have : (cur.toList.take ((n + 1) * 1)).take n = (xs ++ [x]).take n := by rw [h4]
    rw [List.take_take] at this
    rw [show min n ((n + 1) * 1) = n by omega] at this
    rw [Nat.mul_one, this, ← hl, List.take_left']
    rfl
end
/-- The search's memory. -/
structure StA (C n : Nat) (sv : Value) (cv : Nat → CallV) (nm : Nat → List ByteArray) (sb mb mm base : Nat) (w : World) (l : List ByteArray) (o : List Nat) : Prop where
  cm : C ≤ mm
  mbsb : mb < sb
  sbb : sb < base
  mod : ModelAt w mb mm base l
  ov : ∃ ov, Own w sb (scl sv ov o (mustN n cv o) mb) ∧ Row base 3 1 w ov o.length (o.map fun i => .int .i64 (i : Nat))
  calls : CallsAt w C n sv cv nm
section
variable {C n : Nat} {sv : Value} {cv : Nat → CallV} {nm : Nat → List ByteArray} {sb mb mm base : Nat} {w w' : World} {l l' : List ByteArray} {o : List Nat}
theorem str_ne_int {b : Nat} (h : ∃ cur, w.heap[b]? = some (.cells cur 3 (0, 0))) : ¬ StrBlk w b := fun ⟨c, hc⟩ => by
  obtain ⟨d, hd⟩ := h
  rw [hd] at hc
  injection hc with hc
  injection hc with _ hc
  revert hc
  decide
theorem StA.do (h : StA C n sv cv nm sb mb mm base w l o) (hm : ModelAt w' mb mm base l') (hf : FrD mb mm base w w') : StA C n sv cv nm sb mb mm base w' l' o := by
  have h1 := h.mod.lt1
  have h2 := h.mod.lt2
  have h3 := h.mod.lt3
  have h4 := h.mbsb
  have h5 := h.sbb
  obtain ⟨ov, ho, hr⟩ := h.ov
  refine ⟨h.cm, h.mbsb, h.sbb, hm, ⟨ov, ho.block (hf.block sb (by omega) (by omega) (by omega) (.inl (by omega))), hr.block fun g hg hgl hc => hf.block g hgl (by omega) (by omega) (.inr (str_ne_int hc))⟩, ?_⟩
  have := (FrS.of_d (sb := sb) hf).below h1 h4 h5 (by omega)
  exact h.calls.below (this.mono h.cm)
theorem StA.below (h : StA C n sv cv nm sb mb mm base w l o) (hb : Below w.heap.size w w') : StA C n sv cv nm sb mb mm base w' l o := h.do (h.mod.below hb) (FrD.of_below hb)
end
theorem usedC_in {o : List Nat} {i : Nat} (h : i < 8) : (usedC o).set i (.bool true) = usedC (o ++ [i]) := by
  unfold usedC
  refine List.ext_getElem? fun k => ?_
  rw [List.getElem?_set]
  by_cases e : i = k
  · subst e
    simp [h]
  · rw [if_neg e]
    by_cases hk : k < 8
    · rw [List.getElem?_map, List.getElem?_map, List.getElem?_range hk]
      have : ¬ k = i := fun q => e q.symm
      simp [this]
    · rw [List.getElem?_eq_none (by simp; omega), List.getElem?_eq_none (by simp; omega)]
theorem usedC_out {o : List Nat} {i : Nat} (h : i < 8) (ho : i ∉ o) : (usedC (o ++ [i])).set i (.bool false) = usedC o := by
  unfold usedC
  refine List.ext_getElem? fun k => ?_
  rw [List.getElem?_set]
  by_cases e : i = k
  · subst e
    simp [h, ho]
  · rw [if_neg e]
    by_cases hk : k < 8
    · rw [List.getElem?_map, List.getElem?_map, List.getElem?_range hk]
      have : ¬ k = i := fun q => e q.symm
      simp [this]
    · rw [List.getElem?_eq_none (by simp; omega), List.getElem?_eq_none (by simp; omega)]
theorem scl_setO {sv ov ov' : Value} {o : List Nat} {must mb : Nat} : (scl sv ov o must mb).set 1 ov' = scl sv ov' o must mb := rfl
theorem scl_setU {sv ov : Value} {o o' : List Nat} {must mb i : Nat} {x : Value} (h : i < 8) (hu : (usedC o).set i x = usedC o') : (scl sv ov o must mb).set (2 + i) x = scl sv ov o' must mb := by
  unfold scl
  rw [show 2 + i = i + 1 + 1 by omega, List.set_cons_succ, List.set_cons_succ, List.set_append_left _ _ (by rw [usedC_len]; exact h), hu]
theorem scl_setM {sv ov : Value} {o : List Nat} {must must' mb : Nat} : (scl sv ov o must mb).set 10 (.int .i64 (must' : Nat)) = scl sv ov o must' mb := by
  unfold scl
  rw [List.set_cons_succ, List.set_cons_succ, List.set_append_right _ _ (by rw [usedC_len]; omega), usedC_len]
  rfl
theorem scl_len {sv ov : Value} {o : List Nat} {must mb : Nat} : (scl sv ov o must mb).length = 12 := by unfold scl; simp [usedC_len]
theorem mustN_in {n : Nat} {cv : Nat → CallV} {o : List Nat} {i : Nat} (hi : i < n) (ho : i ∉ o) : mustN n cv (o ++ [i]) + (if decide (0 ≤ (cv i).fin) then 1 else 0) = mustN n cv o := by
  unfold mustN
  by_cases h : 0 ≤ (cv i).fin
  · rw [if_pos (by simpa using h)]
    refine cntN_strike hi ?_ ?_ fun k hk => ?_
    · unfold muB; simp [h, ho]
    · unfold muB; simp
    · unfold muB; simp [hk]
  · rw [if_neg (by simpa using h)]
    refine cntN_congr fun k _ => ?_
    unfold muB
    by_cases e : k = i
    · subst e; simp [h]
    · simp [e]
end Go.Proofs.YtmcbgjkogggneaaDoor
