/- What LinearDone's loop builds, in plain words. -/
import Derived.Test.YtmcbgjkogggneaaDoorLsJ
namespace Go.Proofs.YtmcbgjkogggneaaDoor
set_option maxRecDepth 100000
set_option linter.unusedVariables false
set_option linter.unusedSimpArgs false
open Go.RowKit
theorem st_upd {cv cv' : Nat → CallV} {nm nm' : Nat → List ByteArray} {o : Nat → Nat} {m : Nat} (h : ∀ i, i < m → cv (o i) = cv' (o i) ∧ nm (o i) = nm' (o i)) : st cv nm o m = st cv' nm' o m := by
  induction m with
  | zero => rfl
  | succ m ih => unfold st; rw [ih (fun i hi => h i (by omega)), (h m (by omega)).1, (h m (by omega)).2]
theorem tells_new {l : List ByteArray} {name : ByteArray} {na : Option Addr} {nn nc : Nat} {beg fin : Int} {ns : List ByteArray} (h : hasL l name = false) : tells l ⟨1, name, true, na, nn, nc, beg, fin⟩ ns = (l ++ [name], true) := by
  unfold tells; simp [h]
theorem tells_old {l : List ByteArray} {name : ByteArray} {na : Option Addr} {nn nc : Nat} {beg fin : Int} {ns : List ByteArray} (h : hasL l name = true) (hf : 0 ≤ fin) : tells l ⟨1, name, false, na, nn, nc, beg, fin⟩ ns = (l, true) := by
  unfold tells; simp [h, hf]
theorem tells_has {l : List ByteArray} {name : ByteArray} {told : Bool} {na : Option Addr} {nn nc : Nat} {beg fin : Int} {ns : List ByteArray} (h : hasL l name = told) : tells l ⟨2, name, told, na, nn, nc, beg, fin⟩ ns = (l, true) := by
  unfold tells; simp [h]
theorem tells_list {l : List ByteArray} {name : ByteArray} {told : Bool} {na : Option Addr} {nn nc : Nat} {beg fin : Int} : tells l ⟨3, name, told, na, nn, nc, beg, fin⟩ l = (l, true) := by
  unfold tells; simp
structure DnI (base : Nat) (w : World) (j jo : Nat) (nv cl ov : Value) (l : List ByteArray) (cv : Nat → CallV) (nm : Nat → List ByteArray) : Prop where
  nrow : Row base 9 1 w nv l.length (scells l)
  crow : Row base 32 6 w cl j (ccells j cv)
  orow : Row base 3 1 w ov jo (icellsI jo (toI id))
  lsz : ∀ s ∈ l, s.size ≤ maxLen
  llen : l.length ≤ j
  nms : ∀ k, k < j → (nm k).length = (cv k).nn ∧ Row base 9 1 w (.slice (cv k).na (cv k).nn (cv k).nc) (cv k).nn (scells (nm k)) ∧ (∀ s ∈ nm k, s.size ≤ maxLen) ∧ (cv k).name.size ≤ maxLen ∧ (nm k).length ≤ j
  time : ∀ k, k < j → 10 * (k : Int) ≤ (cv k).fin ∧ (cv k).beg ≤ 10 * (k : Int)
  told : st cv nm id j = (l, true)
theorem DnI.nil (base : Nat) (w : World) (cv : Nat → CallV) (nm : Nat → List ByteArray) : DnI base w 0 0 (.slice none 0 0) (.slice none 0 0) (.slice none 0 0) [] cv nm :=
  ⟨Row.nil, Row.nil, Row.nil, fun s hs => (by cases hs), Nat.le_refl _, fun k hk => by omega, fun k hk => by omega, rfl⟩
theorem DnI.below {base j jo : Nat} {w w' : World} {nv cl ov : Value} {l : List ByteArray} {cv : Nat → CallV} {nm : Nat → List ByteArray} (h : DnI base w j jo nv cl ov l cv nm) (hb : Below w.heap.size w w') : DnI base w' j jo nv cl ov l cv nm :=
  ⟨h.nrow.below hb, h.crow.below hb, h.orow.below hb, h.lsz, h.llen, fun k hk => ⟨(h.nms k hk).1, (h.nms k hk).2.1.below hb, (h.nms k hk).2.2⟩, h.time, h.told⟩
theorem DnI.call {base j jo : Nat} {w w' : World} {nv cl ov nv' cl' : Value} {l l' ns : List ByteArray} {cv : Nat → CallV} {nm : Nat → List ByteArray} {c : CallV} (h : DnI base w j jo nv cl ov l cv nm)
    (hn : Row base 9 1 w nv' l'.length (scells l')) (hl : ∀ s ∈ l', s.size ≤ maxLen) (hll : l'.length ≤ j + 1) (hr : Row base 32 6 w' cl' (j + 1) (ccells j cv ++ c.cells)) (hg : w.grownBy w' cl.ownBlock)
    (hc : ns.length = c.nn ∧ Row base 9 1 w (.slice c.na c.nn c.nc) c.nn (scells ns) ∧ (∀ s ∈ ns, s.size ≤ maxLen) ∧ c.name.size ≤ maxLen ∧ ns.length ≤ j + 1)
    (ht : 10 * (j : Int) ≤ c.fin ∧ c.beg ≤ 10 * (j : Int)) (htl : tells l c ns = (l', true)) :
    DnI base w' (j + 1) jo nv' cl' ov l' (fun k => if k = j then c else cv k) (fun k => if k = j then ns else nm k) := by
  refine ⟨hn.kept_ne h.crow hg (by decide), ?_, h.orow.kept_ne h.crow hg (by decide), hl, hll, fun k hk => ?_, fun k hk => ?_, ?_⟩
  · rw [ccells_succ]
    have e : ccells j (fun k => if k = j then c else cv k) = ccells j cv := ccells_congr fun k hk => if_neg (by omega)
    rw [e]
    simpa using hr
  · by_cases e : k = j
    · subst e
      simp only [if_true]
      exact ⟨hc.1, hc.2.1.kept_ne h.crow hg (by decide), hc.2.2⟩
    · simp only [e, if_false]
      obtain ⟨h1, h2, h3, h4, h5⟩ := h.nms k (by omega)
      exact ⟨h1, h2.kept_ne h.crow hg (by decide), h3, h4, by omega⟩
  · by_cases e : k = j
    · subst e; simpa using ht
    · simp only [e, if_false]
      exact h.time k (by omega)
  · have e := st_upd (cv := fun k => if k = j then c else cv k) (cv' := cv) (nm := fun k => if k = j then ns else nm k) (nm' := nm) (o := id) (m := j) (fun i hi => ⟨if_neg (show ¬ i = j by omega), if_neg (show ¬ i = j by omega)⟩)
    rw [st_succ, e, h.told]
    simp [htl]
theorem DnI.ord {base j jo jo' : Nat} {w w' : World} {nv cl ov ov' : Value} {l : List ByteArray} {cv : Nat → CallV} {nm : Nat → List ByteArray} (h : DnI base w j jo nv cl ov l cv nm)
    (hr : Row base 3 1 w' ov' jo' (icellsI jo' (toI id))) (hg : w.grownBy w' ov.ownBlock) : DnI base w' j jo' nv cl ov' l cv nm :=
  ⟨h.nrow.kept_ne h.orow hg (by decide), h.crow.kept_ne h.orow hg (by decide), hr, h.lsz, h.llen, fun k hk => ⟨(h.nms k hk).1, (h.nms k hk).2.1.kept_ne h.orow hg (by decide), (h.nms k hk).2.2⟩, h.time, h.told⟩
theorem DnI.calls {base j jo : Nat} {w : World} {nv cl ov : Value} {l : List ByteArray} {cv : Nat → CallV} {nm : Nat → List ByteArray} (h : DnI base w j jo nv cl ov l cv nm) (hj : j ≤ 8) : CallsAt w w.heap.size j cl cv nm :=
  ⟨h.crow.sl, fun k hk => (h.nms k hk).2.2.2.1, fun k hk => (h.nms k hk).1, fun k hk => (h.nms k hk).2.1.sl, fun k hk => Nat.le_trans (h.nms k hk).2.2.2.2 (by omega)⟩
theorem DnI.whole {base j jo : Nat} {w : World} {nv cl ov : Value} {l : List ByteArray} {cv : Nat → CallV} {nm : Nat → List ByteArray} (h : DnI base w j jo nv cl ov l cv nm) : Whole j j cv (toI id) ∧ Tm cv id j ∧ ∀ i, i ≤ j → (st cv nm id i).2 = true := by
  refine ⟨⟨fun i hi => ⟨by unfold toI; exact Int.natCast_nonneg _, by unfold toI; exact Int.ofNat_lt.2 hi, fun q hq => ?_, ?_⟩, fun k hk hf => ⟨k, hk, rfl⟩⟩, fun p q hpq hq hb => ?_, fun i hi => ?_⟩
  · unfold toI id; omega
  · have := (h.time i hi).1
    show canB (cv ((i : Int).toNat)) = true
    rw [Int.toNat_natCast]
    unfold canB
    rw [decide_eq_true (by omega)]
    rfl
  · have h1 := (befB_iff _ _).1 hb
    have h2 := (h.time q hq).1
    have h3 := (h.time p (by omega)).2
    simp only [id] at h1
    omega
  · cases hb : (st cv nm id i).2 with
    | true => rfl
    | false =>
      have := st_false cv nm id hb j hi
      rw [h.told] at this
      cases this
theorem at0_range {n i : Nat} (h : i < n) : at0 (List.range n) i = i := by
  unfold at0
  rw [List.getD_eq_getElem?_getD, List.getElem?_range h]
  rfl
theorem DnI.found {base j jo : Nat} {w : World} {nv cl ov : Value} {l : List ByteArray} {cv : Nat → CallV} {nm : Nat → List ByteArray} (h : DnI base w j jo nv cl ov l cv nm) : srch j cv nm j [] ≠ none := by
  obtain ⟨h1, h2, h3⟩ := h.whole
  have hl : (List.range j).length = j := List.length_range
  refine srch_complete (p := List.range j) ?_ ?_ ?_ j [] (List.range j) rfl Gd.nil (cntN_le _ _)
  · rw [hl]
    refine ⟨fun i hi => ?_, fun k hk hf => ⟨k, hk, by show ((at0 (List.range j) k : Nat) : Int) = k; rw [at0_range hk]⟩⟩
    obtain ⟨a1, a2, a3, a4⟩ := h1.1 i hi
    have e : ∀ q, q < j → (fun i => ((at0 (List.range j) i : Nat) : Int)) q = toI id q := fun q hq => by
      show ((at0 (List.range j) q : Nat) : Int) = (q : Int)
      rw [at0_range hq]
    rw [e i hi]
    refine ⟨a1, a2, fun q hq => ?_, a4⟩
    rw [e q (by omega)]
    exact a3 q hq
  · rw [hl]
    intro p q hpq hq
    rw [at0_range hq, at0_range (by omega)]
    exact h2 p q hpq hq
  · rw [hl]
    intro i hi
    rw [st_congr cv nm (o := at0 (List.range j)) (o' := id) (m := i) (fun k hk => at0_range (by omega))]
    exact h3 i hi
end Go.Proofs.YtmcbgjkogggneaaDoor
