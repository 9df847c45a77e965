/- linear.isWhole. -/
import Derived.Test.YtmcbgjkogggneaaDoorLkD
namespace Go.Proofs.YtmcbgjkogggneaaDoor
set_option maxRecDepth 100000
set_option linter.unusedVariables false
set_option linter.unusedSimpArgs false
open Go.RowKit
def bc (n : Nat) (s : Nat → Bool) : List Value := (List.range n).map fun k => .bool (s k)
theorem bc_len (n : Nat) (s : Nat → Bool) : (bc n s).length = n := by unfold bc; simp
theorem bc_get {n : Nat} (s : Nat → Bool) {k : Nat} (h : k < n) : (bc n s)[k]? = some (.bool (s k)) := by
  unfold bc
  rw [List.getElem?_map, List.getElem?_range h]
  rfl
theorem bc_set {n : Nat} (s : Nat → Bool) {k : Nat} (x : Bool) (t : Nat → Bool) (ht : ∀ i, t i = if i = k then x else s i) : (bc n s).set k (.bool x) = bc n t := by
  refine List.ext_getElem? fun i => ?_
  by_cases hi : i < n
  · rw [bc_get t hi, ht]
    by_cases e : i = k
    · subst e
      rw [List.getElem?_set_self (by rw [bc_len]; exact hi), if_pos rfl]
    · rw [List.getElem?_set_ne (fun h => e h.symm), bc_get s hi, if_neg e]
  · rw [List.getElem?_eq_none (by simp [bc_len]; omega), List.getElem?_eq_none (by rw [bc_len]; omega)]
theorem info_bool : (Tryd.prog.info? 4).map (fun i => (i.zero, i.size, i.bytes)) = some (some (.bool false), 1, 1) := by kernel_rfl
theorem made_bc (n : Nat) : madeCells (Value.bool false).cells ((((n : Nat) : Int)).toNat * 1) = (bc n (fun _ => false)).toArray := by
  rw [show (((n : Nat) : Int)).toNat * 1 = n by omega]
  refine Array.ext (by simp [size_madeCells, bc_len]) fun i h1 h2 => ?_
  simp [madeCells, Value.cells, Nat.mod_one, bc]
theorem hmk (n : Nat) (W : World) (hn : n ≤ 2000000) : (Instr.makeSlice 60 (.int .i64 ((n : Nat) : Int)) (.int .i64 ((n : Nat) : Int))).run Tryd.prog W = .ok (.slice (some ⟨W.heap.size, 0, none⟩) n n) (W.alloc (.cells (bc n (fun _ => false)).toArray 4)) := by
  obtain ⟨i0, hi, hz0, hz1, hz2⟩ := info_parts info_bool
  have := run_makeSlice (P := Tryd.prog) W 60 4 i0 (.bool false) Tryd.underlying60 hi hz0 .i64 .i64 ((n : Nat) : Int) ((n : Nat) : Int) (by omega) (Int.le_refl _) (by rw [hz1]; omega) (by rw [hz2]; omega) (by omega)
  rw [this, hz1, made_bc]
  rw [show (((n : Nat) : Int)).toNat = n by omega]
/-- Which numbers an order's first ones are. -/
def seen (f : Nat → Int) (j : Nat) : Nat → Bool := fun k => (List.range j).any fun i => f i == (k : Int)
theorem seen_iff {f : Nat → Int} {j k : Nat} : seen f j k = true ↔ ∃ i, i < j ∧ f i = k := by
  unfold seen
  rw [List.any_eq_true]
  constructor
  · rintro ⟨i, h1, h2⟩
    exact ⟨i, List.mem_range.1 h1, by simpa using h2⟩
  · rintro ⟨i, h1, h2⟩
    exact ⟨i, List.mem_range.2 h1, by simpa using h2⟩
theorem seen_succ {f : Nat → Int} {j x : Nat} (h : f j = x) : ∀ i, seen f (j + 1) i = if i = x then true else seen f j i := by
  intro i
  by_cases e : i = x
  · rw [if_pos e, seen_iff]
    exact ⟨j, Nat.lt_succ_self _, by rw [h, e]⟩
  · rw [if_neg e, Bool.eq_iff_iff, seen_iff, seen_iff]
    constructor
    · rintro ⟨q, h1, h2⟩
      exact ⟨q, by
        by_cases hq : q = j
        · subst hq; omega
        · omega, h2⟩
    · rintro ⟨q, h1, h2⟩
      exact ⟨q, by omega, h2⟩
/-- Each at most once, and of those that may be. -/
def Good (n : Nat) (cv : Nat → CallV) (f : Nat → Int) (j : Nat) : Prop := ∀ i, i < j → 0 ≤ f i ∧ f i < n ∧ (∀ q, q < i → f q ≠ f i) ∧ canB (cv (f i).toNat) = true
def Whole (n m : Nat) (cv : Nat → CallV) (f : Nat → Int) : Prop := Good n cv f m ∧ ∀ k, k < n → 0 ≤ (cv k).fin → ∃ i, i < m ∧ f i = k
theorem Good.bad {n m : Nat} {cv : Nat → CallV} {f : Nat → Int} {j : Nat} (hj : j < m) (h : ¬ (0 ≤ f j ∧ f j < n ∧ (∀ q, q < j → f q ≠ f j) ∧ canB (cv (f j).toNat) = true)) : ¬ Whole n m cv f := fun q => h (q.1 j hj)
def IsB (P : Prop) (w : World) (e : Ending) (w' : World) : Prop := ∃ b, e = .returned (.bool b) ∧ (b = true ↔ P) ∧ Below w.heap.size w w'
theorem IsB.no {P : Prop} {w w' : World} (h : ¬ P) (hb : Below w.heap.size w w') : IsB P w (.returned (.bool false)) w' := ⟨false, rfl, ⟨nofun, fun q => absurd q h⟩, hb⟩
theorem IsB.yes {P : Prop} {w w' : World} (h : P) (hb : Below w.heap.size w w') : IsB P w (.returned (.bool true)) w' := ⟨true, rfl, ⟨fun _ => h, fun _ => rfl⟩, hb⟩
set_option maxHeartbeats 8000000 in
theorem isWhole_any (n m : Nat) (cv : Nat → CallV) (f : Nat → Int) (v u : Value) (B : Nat) (w : World) (h : Sl w B 6 v n (ccells n cv)) (hu : Sl w B 1 u m (icellsI m f)) (hB : B ≤ w.heap.size) (hn : n ≤ 20) (hm : m ≤ 30) :
    Calls Tryd.prog 21 #[v, u] w (IsB (Whole n m cv f) w) := by
  obtain ⟨a, cap, rfl, hcap⟩ := h.form
  obtain ⟨a2, cap2, rfl, hcap2⟩ := hu.form
  have HC := Lib.hid (fun (W : World) (hW : Below w.heap.size w W) => h.below (hW.mono hB))
  have HU := Lib.hid (fun (W : World) (hW : Below w.heap.size w W) => hu.below (hW.mono hB))
  have hmk := fun W => hmk n W (by omega)
  have hA := (Below.refl w.heap.size w).alloc (Nat.le_refl _) (.cells (bc n (fun _ => false)).toArray 4)
  obtain ⟨wa, hwa⟩ : ∃ z : World, z = w.alloc (.cells (bc n (fun _ => false)).toArray 4) := ⟨_, rfl⟩
  rw [← hwa] at hA
  have hO : Own wa w.heap.size (bc n (seen f 0)) := by rw [hwa]; exact Own.new_at w (bc n (fun _ => false)) _ _ rfl
  have hsz : w.heap.size < wa.heap.size := by rw [hwa]; simp
  have HA := Lib.hid hA
  have HO := Lib.hid hO
  clear h hu hA hO
  go_enter Tryd.func21, Tryd.ntmps21
  go_wp2_with (fail)
  rw [← hwa]
  clear hwa hmk
  go_loopw [15] (fun i wr => ∃ j : Nat, i = .int .i64 j ∧ j ≤ m ∧ w.heap.size < wr.heap.size ∧ Hid (Good n cv f j) ∧ Hid (Own wr w.heap.size (bc n (seen f j))) ∧ Hid (Below w.heap.size w wr)) (fun i _ => m - (intOf i).toNat)
  case atStart => exact ⟨0, rfl, Nat.zero_le _, hsz, Lib.hid (fun i hi => absurd hi (Nat.not_lt_zero _)), HO, HA⟩
  case round =>
    obtain ⟨j, rfl, hj, hsr, HG, HOW, HB2⟩ := hrel
    obtain ⟨wo, rfl⟩ : ∃ z : World, z = wr := ⟨_, rfl⟩
    by_cases hlt : j < m
    rotate_left
    · have d1 : decide (j < m) = false := decide_eq_false hlt
      have d2 : decide ((j : Int) < (m : Int)) = false := decide_eq_false (by omega)
      obtain rfl : j = m := by omega
      clear hlt HA HO
      go_wp2_with (fail)
      go_loopw [47] (fun i wr => ∃ k : Nat, i = .int .i64 k ∧ k ≤ n ∧ Hid (∀ q, q < k → 0 ≤ (cv q).fin → seen f j q = true) ∧ Hid (Below wo.heap.size wo wr)) (fun i _ => n - (intOf i).toNat)
      case atStart => exact ⟨0, rfl, Nat.zero_le _, Lib.hid (fun q hq => absurd hq (Nat.not_lt_zero _)), Lib.hid (Below.refl _ _)⟩
      case round =>
        obtain ⟨k, rfl, hk, HSE, HB3⟩ := hrel
        obtain ⟨w3, rfl⟩ : ∃ z : World, z = wr := ⟨_, rfl⟩
        have hz3 := HB3.out.size
        have HB4 := Lib.hid (HB2.out.trans (HB3.out.mono HB2.out.size))
        by_cases hlt : k < n
        rotate_left
        · have d1 : decide (k < n) = false := decide_eq_false hlt
          have d2 : decide ((k : Int) < (n : Int)) = false := decide_eq_false (by omega)
          go_wp2_with (fail)
          go_ret
          exact IsB.yes ⟨HG.out, fun q hq hf => seen_iff.1 (HSE.out q (by omega) hf)⟩ HB4.out
        have d1 : decide (k < n) = true := decide_eq_true hlt
        have d2 : decide ((k : Int) < (n : Int)) = true := decide_eq_true (by omega)
        have q1 : IntKind.i64.wrap ((k : Int) + 1) = (k : Int) + 1 := IntWalk.i64_in _ (by omega)
        have hbi : (k : Int) < (n : Int) := by omega
        obtain ⟨b, off, rfl, hk0⟩ := sl_cells (HC.out w3 HB4.out) (by omega)
        obtain ⟨c0, c1, c2, c3, c4, c5⟩ := call_cells (HC.out w3 HB4.out) hlt
        have HM := Lib.hid (must_any (cv k))
        have hA2 := (Below.refl w3.heap.size w3).alloc (Nat.le_refl _) (.cells #[.int .i64 (cv k).kind, .string (cv k).name, .bool (cv k).told, .slice (cv k).na (cv k).nn (cv k).nc, .int .i64 (cv k).beg, .int .i64 (cv k).fin] 32)
        have HA2 := Lib.hid hA2
        have HA2Z := Lib.hid hA2.size
        unfold CallV.agg at HM
        clear hA2 hk0
        go_wp2_with (fail)
        refine (HM.out _).mono ?_
        rintro e w4 ⟨rfl, hb4⟩
        have hb5 : Below w3.heap.size w3 w4 := HA2.out.trans (hb4.mono HA2Z.out)
        have HB5 := Lib.hid (HB3.out.trans (hb5.mono hz3))
        have HB6 := Lib.hid (HB4.out.trans (hb5.mono HB4.out.size))
        have hs0 : w4.cell? ⟨w.heap.size, k, none⟩ = some (.bool (seen f j k)) := (HOW.out.below HB5.out hsr).1 k _ (bc_get _ hlt)
        clear hb4 hb5 HM c0 c1 c2 c3 c4 c5
        by_cases hf : 0 ≤ (cv k).fin
        · have d3 : decide (0 ≤ (cv k).fin) = true := decide_eq_true hf
          rw [d3]
          clear d3
          cases hse : seen f j k with
          | true =>
            rw [hse] at hs0
            have HSE2 : Hid (∀ q, q < k + 1 → 0 ≤ (cv q).fin → seen f j q = true) := Lib.hid (fun q hq hf2 => by
              by_cases e : q = k
              · subst e; exact hse
              · exact HSE.out q (by omega) hf2)
            clear hse hf
            go_wp2_with (fail)
            go_roundw
            case rel => exact ⟨k + 1, rfl, by omega, HSE2, HB5⟩
            case measure => simp [intOf] <;> omega
          | false =>
            rw [hse] at hs0
            have HNO : Hid (¬ Whole n j cv f) := Lib.hid (fun q => by
              have h1 := seen_iff.2 (q.2 k hlt hf)
              rw [hse] at h1
              cases h1)
            clear hse hf
            go_wp2_with (fail)
            go_ret
            exact IsB.no HNO.out HB6.out
        · have d3 : decide (0 ≤ (cv k).fin) = false := decide_eq_false hf
          rw [d3]
          have HSE2 : Hid (∀ q, q < k + 1 → 0 ≤ (cv q).fin → seen f j q = true) := Lib.hid (fun q hq hf2 => by
            by_cases e : q = k
            · subst e; exact absurd hf2 hf
            · exact HSE.out q (by omega) hf2)
          clear d3 hf
          go_wp2_with (fail)
          go_roundw
          case rel => exact ⟨k + 1, rfl, by omega, HSE2, HB5⟩
          case measure => simp [intOf] <;> omega
    have d1 : decide (j < m) = true := decide_eq_true hlt
    have d2 : decide ((j : Int) < (m : Int)) = true := decide_eq_true (by omega)
    have q1 : IntKind.i64.wrap ((j : Int) + 1) = (j : Int) + 1 := IntWalk.i64_in _ (by omega)
    have hbi : (j : Int) < (m : Int) := by omega
    obtain ⟨b1, o1, rfl, hk1⟩ := sl_cells (HU.out wo HB2.out) (by omega)
    have k1 : wo.cell? ⟨b1, o1 + j, none⟩ = some (.int .i64 (f j)) := hk1 j _ (icellsI_get f hlt)
    have HBAD := Lib.hid (fun h => Good.bad (n := n) (m := m) (cv := cv) (f := f) hlt h)
    clear hk1
    by_cases hneg : f j < 0
    · have d3 : decide (f j < 0) = true := decide_eq_true hneg
      have HNO := Lib.hid (HBAD.out (fun h => by omega))
      clear hneg
      generalize f j = x at *
      go_wp2_with (fail)
      go_ret
      exact IsB.no HNO.out HB2.out
    have d3 : decide (f j < 0) = false := decide_eq_false hneg
    by_cases hbig : (n : Int) ≤ f j
    · have d4 : decide ((n : Int) ≤ f j) = true := decide_eq_true hbig
      have HNO := Lib.hid (HBAD.out (fun h => by omega))
      clear hneg hbig
      generalize f j = x at *
      go_wp2_with (fail)
      go_ret
      exact IsB.no HNO.out HB2.out
    have d4 : decide ((n : Int) ≤ f j) = false := decide_eq_false hbig
    obtain ⟨x, hx⟩ : ∃ x : Nat, f j = x := ⟨(f j).toNat, by omega⟩
    have hxn : x < n := by omega
    have hxi : (x : Int) < (n : Int) := by omega
    rw [hx] at k1 d3 d4 HBAD
    have hs0 : wo.cell? ⟨w.heap.size, x, none⟩ = some (.bool (seen f j x)) := HOW.out.1 x _ (bc_get _ hxn)
    have hfz := HOW.out.2 x
    clear hneg hbig
    cases hse : seen f j x with
    | true =>
      rw [hse] at hs0
      have HNO := Lib.hid (HBAD.out (fun h => by
        obtain ⟨q, h1, h2⟩ := seen_iff.1 hse
        exact h.2.2.1 q h1 h2))
      clear hse hx
      go_wp2_with (fail)
      go_ret
      exact IsB.no HNO.out HB2.out
    | false =>
      rw [hse] at hs0
      obtain ⟨b, off, rfl, hk0⟩ := sl_cells (HC.out wo HB2.out) (by omega)
      obtain ⟨c0, c1, c2, c3, c4, c5⟩ := call_cells (HC.out wo HB2.out) hxn
      have HCAN := Lib.hid (can_any (cv x))
      unfold CallV.agg at HCAN
      have HX := Lib.hid hx
      have HSEF := Lib.hid hse
      clear hk0 hse hx
      go_wp2_with (fail)
      refine (HCAN.out _).mono ?_
      rintro e w4 ⟨rfl, hb4⟩
      have HB4 := Lib.hid (HB2.out.trans (hb4.mono HB2.out.size))
      have hO4 := HOW.out.below hb4 hsr
      have s1 := hO4.1 x _ (bc_get _ hxn)
      have s2 := hO4.2 x
      have hs4 : w.heap.size < w4.heap.size := Nat.lt_of_lt_of_le hsr hb4.size
      have HO5 : Hid (Own (w4.setCell ⟨w.heap.size, x, none⟩ (.bool true)) w.heap.size (bc n (seen f (j + 1)))) := Lib.hid (by
        have := hO4.set x (.bool true) (by rw [bc_len]; exact hxn)
        rwa [bc_set (seen f j) true (seen f (j + 1)) (seen_succ HX.out)] at this)
      have HB5 := Lib.hid (HB4.out.setCell (p := ⟨w.heap.size, x, none⟩) (Nat.le_refl _) (.bool true))
      have hs5 : w.heap.size < (w4.setCell ⟨w.heap.size, x, none⟩ (.bool true)).heap.size := by simpa using hs4
      clear hb4 hO4 c0 c1 c2 c3 c4 c5 hs0 hfz
      cases hcan : (decide (0 ≤ (cv x).fin) || (cv x).kind == 1) with
      | true =>
        have HG2 : Hid (Good n cv f (j + 1)) := Lib.hid (fun i hi => by
          by_cases e : i = j
          · subst e
            rw [HX.out]
            refine ⟨by omega, by omega, fun q hq he => ?_, ?_⟩
            · have h1 := seen_iff.2 ⟨q, hq, he⟩
              rw [HSEF.out] at h1
              cases h1
            · unfold canB
              rw [Int.toNat_natCast]
              exact hcan
          · exact HG.out i (by omega))
        clear hcan
        go_wp2_with (fail)
        go_roundw
        case rel => exact ⟨j + 1, rfl, by omega, hs5, HG2, HO5, HB5⟩
        case measure => simp [intOf] <;> omega
      | false =>
        have HNO := Lib.hid (HBAD.out (fun h => by
          have h1 := h.2.2.2
          unfold canB at h1
          rw [Int.toNat_natCast, hcan] at h1
          cases h1))
        clear hcan
        go_wp2_with (fail)
        go_ret
        exact IsB.no HNO.out HB4.out
end Go.Proofs.YtmcbgjkogggneaaDoor
