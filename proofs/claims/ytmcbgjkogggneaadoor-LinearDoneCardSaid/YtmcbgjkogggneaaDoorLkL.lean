/- linear.Fits; the walk of LinearFits. -/
import Derived.Test.YtmcbgjkogggneaaDoorLkK
import Derived.OpenShut
namespace Go.Proofs.YtmcbgjkogggneaaDoor
set_option maxRecDepth 100000
set_option linter.unusedVariables false
set_option linter.unusedSimpArgs false
open Go.RowKit Go.Shelf Go.Maps Go.ChangeShapes Go.WideShapes Go.Deep
attribute [local go_sem] Oper.semAt_some
theorem icellsI_nat {n m : Nat} {cv : Nat → CallV} {f : Nat → Int} (h : Whole n m cv f) : icellsI m f = icells m (natO f) ∧ ∀ i, i < m → natO f i < n := by
  refine ⟨?_, fun i hi => ?_⟩
  · unfold icellsI icells
    refine List.map_congr_left fun k hk => ?_
    have hk := List.mem_range.1 hk
    have := (h.1 k hk).1
    show Value.int .i64 (f k) = Value.int .i64 (((f k).toNat : Nat) : Int)
    rw [Int.toNat_of_nonneg this]
  · have := h.1 i hi
    unfold natO
    omega
set_option maxHeartbeats 2000000 in
theorem fits_any (n m : Nat) (cv : Nat → CallV) (nm : Nat → List ByteArray) (f : Nat → Int) (v u : Value) (B : Nat) (w : World) (h : CallsAt w B n v cv nm) (hu : Sl w B 1 u m (icellsI m f)) (hB : B ≤ w.heap.size) (hn : n ≤ 20) (hm : m ≤ 30) :
    Calls Tryd.prog 15 #[v, u] w (IsB (Whole n m cv f ∧ Tm cv (natO f) m ∧ (st cv nm (natO f) m).2 = true) w) := by
  obtain ⟨a, cap, rfl, hcap⟩ := h.sl.form
  obtain ⟨a2, cap2, rfl, hcap2⟩ := hu.form
  have HC := Lib.hid (fun (W : World) (hW : Below w.heap.size w W) => h.below (hW.mono hB))
  have HU := Lib.hid (fun (W : World) (hW : Below w.heap.size w W) => hu.below (hW.mono hB))
  clear h hu
  go_enter Tryd.func15, Tryd.ntmps15
  go_wp2_with (fail)
  refine (isWhole_any n m cv f _ _ B w (HC.out w (Below.refl _ _)).sl (HU.out w (Below.refl _ _)) hB hn hm).mono ?_
  rintro e w1 ⟨b1, rfl, hb1, hw1⟩
  have HB1 := Lib.hid hw1
  clear hw1
  cases b1 with
  | false =>
    have HN : Hid (¬ Whole n m cv f) := Lib.hid (fun q => by have := hb1.2 q; cases this)
    clear hb1
    go_wp2_with (fail)
    go_ret
    exact IsB.no (fun q => HN.out q.1) HB1.out
  | true =>
    have hwh : Whole n m cv f := hb1.1 rfl
    have HWH := Lib.hid hwh
    obtain ⟨he, hon⟩ := icellsI_nat hwh
    rw [he] at HU
    have HON := Lib.hid hon
    have HT := Lib.hid (isTimely_any n m cv (natO f) (.slice a n cap) (.slice a2 m cap2) B w1 (HC.out w1 HB1.out).sl (HU.out w1 HB1.out) (Nat.le_trans hB HB1.out.size) hn hm hon)
    clear hb1 hwh he hon
    go_wp2_with (fail)
    refine HT.out.mono ?_
    rintro e w2 ⟨b2, rfl, hb2, hw2⟩
    have HB2 := Lib.hid (HB1.out.trans (hw2.mono HB1.out.size))
    clear hw2 HT
    cases b2 with
    | false =>
      have HN : Hid (¬ Tm cv (natO f) m) := Lib.hid (fun q => by have := hb2.2 q; cases this)
      clear hb2
      go_wp2_with (fail)
      go_ret
      exact IsB.no (fun q => HN.out q.2.1) HB2.out
    | true =>
      have HTM : Hid (Tm cv (natO f) m) := Lib.hid (hb2.1 rfl)
      have HS := Lib.hid (isTrue_any n m cv nm (natO f) (.slice a n cap) (.slice a2 m cap2) B w2 (HC.out w2 HB2.out) (HU.out w2 HB2.out) (Nat.le_trans hB HB2.out.size) HON.out hn hm)
      clear hb2
      go_wp2_with (fail)
      refine HS.out.mono ?_
      rintro e w3 ⟨rfl, hw3⟩
      have HB3 := Lib.hid (HB2.out.trans (hw3.mono HB2.out.size))
      clear hw3
      obtain ⟨b3, hb3⟩ : ∃ b3, (st cv nm (natO f) m).2 = b3 := ⟨_, rfl⟩
      rw [hb3]
      have HB3E := Lib.hid hb3
      clear hb3
      have q0 : (if true = true then b3 else false) = b3 := if_pos rfl
      go_wp2_with (fail)
      go_ret
      exact ⟨b3, rfl, ⟨fun h => ⟨HWH.out, HTM.out, HB3E.out.trans h⟩, fun h => HB3E.out.symm.trans h.2.2⟩, HB3.out⟩
/-- Numbers that are handed in, of whichever sign. -/
theorem ints_build : ∀ (n : Nat) (cs : List Value), cs.length = n → (∀ i, i < n → ∃ x : Int, (cs.drop i).take 1 = [.int .i64 x]) → ∃ f, cs = icellsI n f
  | 0, cs, h, _ => ⟨fun _ => 0, by rw [List.eq_nil_of_length_eq_zero h]; rfl⟩
  | n + 1, cs, h, hall => by
    refine ⟨fun k => if hk : k < n + 1 then (hall k hk).choose else 0, ?_⟩
    refine List.ext_getElem? fun q => ?_
    by_cases hq : q < n + 1
    · have h1 := (hall q hq).choose_spec
      have h2 := congrArg (fun l : List Value => l[0]?) h1
      rw [List.getElem?_take, if_pos (by omega), List.getElem?_drop, Nat.add_zero] at h2
      rw [h2, icellsI_get _ hq]
      simp only [hq, dif_pos]
      rfl
    · rw [List.getElem?_eq_none (by omega), List.getElem?_eq_none (by rw [icellsI_len]; omega)]
theorem ints_open {H : Type} {enc : TypeId × Value → H} {w : World} {base : Nat} {spare : Nat → Bool} {held : Bool} {fuel : Nat} {v : Value} {y : DataW H × List MemPlace} (h : DataW.trod enc Tryd.prog w base spare held fuel 23 [v] = some y) : ∃ n f, Sl w w.heap.size 1 v n (icellsI n f) ∧ n ≤ maxLen := by
  obtain ⟨n, cs, h1, h2, h3⟩ := sl_open Tryd.underlying23 cells_int (by omega) h
  have hl : cs.length = n := by have := h1.1; omega
  obtain ⟨f, rfl⟩ := ints_build n cs hl (fun i hi => by
    obtain ⟨q, z, hz⟩ := h3 i hi
    rw [Nat.mul_one] at hz
    obtain ⟨x, hx, _, _⟩ := DataW.trod_int Tryd.underlying3 hz
    exact ⟨x, hx⟩)
  exact ⟨n, f, h1, h2⟩
theorem u8_bd {n : Int} (h : (Lit.int .u8 n).wf = true) : 0 ≤ n ∧ n ≤ 255 := by
  simpa [Lit.wf, IntKind.min, IntKind.max, IntKind.signed, IntKind.bits] using h
theorem two_open {H : Type} {enc : TypeId × Value → H} {w : World} {base : Nat} {spare : Nat → Bool} {held : Bool} {fuel : Nat} {cs : List Value} {y : DataW H × List MemPlace} (h : DataW.trod enc Tryd.prog w base spare held fuel 24 cs = some y) : ∃ x0 x1 : Nat, cs = [.int .u8 (x0 : Nat), .int .u8 (x1 : Nat)] ∧ x0 < 256 ∧ x1 < 256 := by
  obtain ⟨xs, m, _, _, hlen, hl, hel⟩ := DataW.trod_array Tryd.underlying24 h
  rw [show Tryd.prog.cellsOf 24 = 2 by kernel_rfl] at hlen
  rw [show Tryd.prog.cellsOf 5 = 1 by kernel_rfl] at hel
  match cs, hlen with
  | [a, b], _ =>
    have h0 := hel 0 (by omega)
    have h1 := hel 1 (by omega)
    rw [List.getElem?_eq_getElem (by omega)] at h0 h1
    obtain ⟨y0, e0, _, w0⟩ := DataW.trod_int Tryd.underlying5 h0
    obtain ⟨y1, e1, _, w1⟩ := DataW.trod_int Tryd.underlying5 h1
    simp at e0 e1
    subst e0 e1
    obtain ⟨l0, u0⟩ := u8_bd w0
    obtain ⟨l1, u1⟩ := u8_bd w1
    refine ⟨y0.toNat, y1.toNat, ?_, by omega, by omega⟩
    rw [Int.toNat_of_nonneg l0, Int.toNat_of_nonneg l1]
set_option maxHeartbeats 8000000 in
theorem fits_walk (n m x0 x1 : Nat) (cv : Nat → CallV) (f : Nat → Int) (v u : Value) (w : World) (h : Sl w w.heap.size 6 v n (ccells n cv)) (hn : n ≤ maxLen) (hok : ∀ i, i < n → CallOK w (cv i)) (hu : Sl w w.heap.size 1 u m (icellsI m f)) (hm : m ≤ maxLen) (hx0 : x0 < 256) (hx1 : x1 < 256) :
    Calls Tryd.prog 3 #[v, u, .agg #[.int .u8 (x0 : Nat), .int .u8 (x1 : Nat)]] w fun e w' => e = .returned (.bool true) ∧ Below w.heap.size w w' := by
  obtain ⟨a, cap, rfl, hcap⟩ := h.form
  obtain ⟨a2, cap2, rfl, hcap2⟩ := hu.form
  have HS := Lib.hid (fun (W : World) (hW : Below w.heap.size w W) => h.below hW)
  have HU := Lib.hid (fun (W : World) (hW : Below w.heap.size w W) => hu.below hW)
  have HOK := Lib.hid hok
  unfold maxLen at hm
  clear h hu hok
  obtain ⟨w0, hw0⟩ : ∃ z : World, z = w.alloc (.cells #[.int .u8 (x0 : Nat), .int .u8 (x1 : Nat)] 24) := ⟨_, rfl⟩
  have hb0 : Below w.heap.size w w0 := by rw [hw0]; exact (Below.refl _ _).alloc (Nat.le_refl _) _
  have hz0 : w0.heap.size = w.heap.size + 1 := by rw [hw0]; simp
  have hk0 : w0.cell? ⟨w.heap.size, 0, none⟩ = some (.int .u8 (x0 : Nat)) ∧ w0.cell? ⟨w.heap.size, 1, none⟩ = some (.int .u8 (x1 : Nat)) := by
    rw [hw0]
    constructor <;> (rw [World.cell?_alloc_at _ _ _ _ rfl]; rfl)
  have HB0 := Lib.hid hb0
  have HK0 := Lib.hid hk0
  have HZ0 := Lib.hid hz0
  have HW0 := Lib.hid hw0
  clear hb0 hk0 hz0 hw0
  go_enter Tryd.func3, Tryd.ntmps3
  go_wp2_with (fail)
  rw [← HW0.out]
  refine (awake_any w0).mono ?_
  rintro e w1 ⟨rfl, hb1⟩
  have HD1 : Hid (Below w0.heap.size w0 w1) := Lib.hid hb1
  have HB1 : Hid (Below w.heap.size w w1) := Lib.hid (HB0.out.trans (hb1.mono HB0.out.size))
  have HFW := Lib.hid (few_any n cv (.slice a n cap) w.heap.size w1 (HS.out w1 HB1.out) HB1.out.size hn)
  clear hb1
  go_wp2_with (fail)
  refine HFW.out.mono ?_
  rintro e w2 ⟨few, rfl, hfew, hb2⟩
  have HD2 := Lib.hid (HD1.out.trans (hb2.mono HD1.out.size))
  have HB2 := Lib.hid (HB1.out.trans (hb2.mono HB1.out.size))
  have HFEW := Lib.hid hfew
  clear hb2 HB1 HD1 HFW hfew
  cases few with
  | false =>
    go_wp2_with (fail)
    go_ret
    exact ⟨by rfl, HB2.out⟩
  | true =>
  by_cases hmm : 30 < m
  · have d1 : decide ((30 : Int) < (m : Int)) = true := decide_eq_true (by omega)
    have d2 : decide (30 < m) = true := decide_eq_true hmm
    clear hmm hm
    go_wp2_with (fail)
    go_ret
    exact ⟨by rfl, HB2.out⟩
  have d1 : decide ((30 : Int) < (m : Int)) = false := decide_eq_false (by omega)
  have d2 : decide (30 < m) = false := decide_eq_false hmm
  have hm30 : m ≤ 30 := by omega
  have hn20 : n ≤ 20 := (HFEW.out rfl).1
  obtain ⟨nm, hnm⟩ : ∃ nm : Nat → List ByteArray, ∀ k, k < n → (nm k).length = (cv k).nn ∧ Sl w w.heap.size 1 (.slice (cv k).na (cv k).nn (cv k).nc) (cv k).nn (scells (nm k)) := by
    refine ⟨fun k => if hk : k < n then (HOK.out k hk).2.1.choose else [], fun k hk => ?_⟩
    simp only [hk, dif_pos]
    exact ⟨(HOK.out k hk).2.1.choose_spec.1, (HOK.out k hk).2.1.choose_spec.2.1⟩
  have HCA : Hid (CallsAt w w.heap.size n (.slice a n cap) cv nm) := Lib.hid ⟨HS.out w (Below.refl _ _), fun k hk => (HOK.out k hk).1, fun k hk => (hnm k hk).1, fun k hk => (hnm k hk).2, fun k hk => by rw [(hnm k hk).1]; exact (HFEW.out rfl).2 k hk⟩
  have HRF := Lib.hid (refs_any n cv (.slice a n cap) w.heap.size w2 (HS.out w2 HB2.out) HB2.out.size hn20)
  clear hmm hm hnm HFEW hn
  go_wp2_with (fail)
  refine HRF.out.mono ?_
  rintro e w3 ⟨rv, rfl, hrow, hb3⟩
  obtain ⟨ra, rcap, rfl, hrcap⟩ := hrow.form
  have hz2 := HB2.out.size
  have HRS := Lib.hid hrow.sl
  have HD3 := Lib.hid (HD2.out.trans (hb3.mono HD2.out.size))
  have HB3 := Lib.hid (HB2.out.trans (hb3.mono hz2))
  have HNW := Lib.hid (show ∀ W, Below w3.heap.size w3 W → Below w.heap.size w W from fun W hW => HB3.out.trans (hW.mono HB3.out.size))
  clear hrow hb3 HRF
  by_cases h0 : 0 < n
  rotate_left
  · have e1 : decide (0 < n) = false := decide_eq_false h0
    have e2 : decide ((0 : Int) < (n : Int)) = false := decide_eq_false (by omega)
    have HBR : Hid (Below w3.heap.size w3 w3) := Lib.hid (Below.refl _ _)
    clear h0
    go_wp2_with (fail)
    have HFT := Lib.hid (fits_any n m cv nm f (.slice a n cap) (.slice a2 m cap2) w.heap.size w3 (HCA.out.below (HNW.out _ HBR.out)) (HU.out _ (HNW.out _ HBR.out)) (HNW.out _ HBR.out).size hn20 hm30)
    go_wp2_with (fail)
    refine HFT.out.mono ?_
    rintro e w5 ⟨b5, rfl, hb5, hw5⟩
    have HB5 := Lib.hid (HBR.out.trans (hw5.mono HBR.out.size))
    have HRT := Lib.hid (refFits_any n m cv nm f (.slice ra n rcap) (.slice a2 m cap2) w5.heap.size w5 ⟨(HRS.out.below HB5.out).mono HB5.out.size, fun k hk => HCA.out.name k hk, fun k hk => HCA.out.len k hk, fun k hk => ((HCA.out.names k hk).below (HNW.out _ HB5.out)).mono (HNW.out _ HB5.out).size, fun k hk => HCA.out.few k hk⟩ ((HU.out _ (HNW.out _ HB5.out)).mono (HNW.out _ HB5.out).size) (Nat.le_refl _) hn20 hm30)
    have HI5 := Lib.hid hb5
    clear hw5 hb5 HFT
    go_wp2_with (fail)
    refine HRT.out.mono ?_
    rintro e w6 ⟨b6, rfl, hb6, hw6⟩
    have HB6 := Lib.hid (HNW.out _ (HB5.out.trans (hw6.mono HB5.out.size)))
    obtain rfl : b5 = b6 := by
      have := HI5.out
      have h2 := fits_iff n m cv nm f
      cases b5 <;> cases b6 <;> simp_all
    clear hw6 hb6 HRT HI5
    go_wp2_with (fail)
    go_ret
    exact ⟨by rfl, HB6.out⟩
  have e1 : decide (0 < n) = true := decide_eq_true h0
  have e2 : decide ((0 : Int) < (n : Int)) = true := decide_eq_true (by omega)
  obtain ⟨ia, hia⟩ : ∃ ia, x0 % n = ia := ⟨_, rfl⟩
  obtain ⟨ib, hib⟩ : ∃ ib, x1 % n = ib := ⟨_, rfl⟩
  have hia1 : ia < n := by rw [← hia]; exact Nat.mod_lt _ h0
  have hib1 : ib < n := by rw [← hib]; exact Nat.mod_lt _ h0
  have qx : IntKind.i64.wrap (x0 : Int) = (x0 : Int) := IntWalk.i64_in _ (by omega)
  have qy : IntKind.i64.wrap (x1 : Int) = (x1 : Int) := IntWalk.i64_in _ (by omega)
  have nz0 : ¬ n = 0 := by omega
  have rma : (x0 : Int).tmod (n : Int) = (ia : Nat) := by rw [← hia]; exact (Int.ofNat_tmod _ _).symm
  have rmb : (x1 : Int).tmod (n : Int) = (ib : Nat) := by rw [← hib]; exact (Int.ofNat_tmod _ _).symm
  have KB : Hid (∀ W, Below w3.heap.size w3 W → W.cell? ⟨w.heap.size, 0, none⟩ = some (.int .u8 (x0 : Nat)) ∧ W.cell? ⟨w.heap.size, 1, none⟩ = some (.int .u8 (x1 : Nat))) := Lib.hid (fun W hW => by
    have hx := HD3.out.trans (hW.mono HD3.out.size)
    have hz := HZ0.out
    exact ⟨(hx.cell (p := ⟨w.heap.size, 0, none⟩) (by show w.heap.size < _; omega)).trans HK0.out.1, (hx.cell (p := ⟨w.heap.size, 1, none⟩) (by show w.heap.size < _; omega)).trans HK0.out.2⟩)
  have e3 : decide ((0 : Int) ≤ (n : Int)) = true := decide_eq_true (by omega)
  have k3 := KB.out w3 (Below.refl _ _)
  go_upto_region 7 with (fail)
  refine Mono.region_below (by kernel_rfl) (by kernel_rfl) (by kernel_rfl) ?_
  refine Mono.rgl_val (v := ?va0) rfl Mono.rr (fun ρ a W hR hd hf => ?ha0) ?_
  case ha0 =>
    have e5 := Mono.init_get hf (t := 5) (by kernel_rfl)
    clear hd hf
    (go_simp; try with_reducible rfl)
  refine Mono.rgl_val (v := ?va1) rfl Mono.rr (fun ρ a W hR hd hf => ?ha1) ?_
  case ha1 =>
    have e25 := Mono.dep_val hd hf (t := 25) (k := 0) (by kernel_rfl) rfl
    have k0 := KB.out W hR
    clear hd hf
    (go_simp; try with_reducible rfl)
  refine Mono.rgl_val (v := .int .i64 (x0 : Nat)) rfl Mono.rr (fun ρ a W hR hd hf => ?ha2) ?_
  case ha2 =>
    have e26 := Mono.dep_val hd hf (t := 26) (k := 1) (by kernel_rfl) rfl
    have k0 := KB.out W hR
    clear hd hf
    (go_simp; try rw [qx])
  refine Mono.rgl_val (v := ?va3) rfl Mono.rr (fun ρ a W hR hd hf => ?ha3) ?_
  case ha3 =>
    have e0 := Mono.init_get hf (t := 0) (by kernel_rfl)
    clear hd hf
    (go_simp; try with_reducible rfl)
  refine Mono.rgl_val (v := ?va4) rfl Mono.rr (fun ρ a W hR hd hf => ?ha4) ?_
  case ha4 =>
    have e28 := Mono.dep_val hd hf (t := 28) (k := 3) (by kernel_rfl) rfl
    clear hd hf
    (go_simp; try with_reducible rfl)
  refine Mono.rgl_val (v := .int .i64 (ia : Nat)) rfl Mono.rr (fun ρ a W hR hd hf => ?ha5) ?_
  case ha5 =>
    have e27 := Mono.dep_val hd hf (t := 27) (k := 2) (by kernel_rfl) rfl
    have e29 := Mono.dep_val hd hf (t := 29) (k := 4) (by kernel_rfl) rfl
    clear hd hf
    go_simp
  refine Mono.rgl_val (v := ?va6) rfl Mono.rr (fun ρ a W hR hd hf => ?ha6) ?_
  case ha6 =>
    have e5 := Mono.init_get hf (t := 5) (by kernel_rfl)
    have k0 := KB.out W hR
    clear hd hf
    (go_simp; try with_reducible rfl)
  refine Mono.rgl_val (v := ?va7) rfl Mono.rr (fun ρ a W hR hd hf => ?ha7) ?_
  case ha7 =>
    have e31 := Mono.dep_val hd hf (t := 31) (k := 6) (by kernel_rfl) rfl
    have k0 := KB.out W hR
    clear hd hf
    (go_simp; try with_reducible rfl)
  refine Mono.rgl_val (v := .int .i64 (x1 : Nat)) rfl Mono.rr (fun ρ a W hR hd hf => ?ha8) ?_
  case ha8 =>
    have e32 := Mono.dep_val hd hf (t := 32) (k := 7) (by kernel_rfl) rfl
    clear hd hf
    (go_simp; try rw [qy])
  refine Mono.rgl_val (v := ?va9) rfl Mono.rr (fun ρ a W hR hd hf => ?ha9) ?_
  case ha9 =>
    have e0 := Mono.init_get hf (t := 0) (by kernel_rfl)
    clear hd hf
    (go_simp; try with_reducible rfl)
  refine Mono.rgl_val (v := ?va10) rfl Mono.rr (fun ρ a W hR hd hf => ?ha10) ?_
  case ha10 =>
    have e34 := Mono.dep_val hd hf (t := 34) (k := 9) (by kernel_rfl) rfl
    clear hd hf
    (go_simp; try with_reducible rfl)
  refine Mono.rgl_val (v := .int .i64 (ib : Nat)) rfl Mono.rr (fun ρ a W hR hd hf => ?ha11) ?_
  case ha11 =>
    have e33 := Mono.dep_val hd hf (t := 33) (k := 8) (by kernel_rfl) rfl
    have e35 := Mono.dep_val hd hf (t := 35) (k := 10) (by kernel_rfl) rfl
    clear hd hf
    go_simp
  refine Mono.rgl_val (v := ?va12) rfl Mono.rr (fun ρ a W hR hd hf => ?ha12) ?_
  case ha12 =>
    have e30 := Mono.dep_val hd hf (t := 30) (k := 5) (by kernel_rfl) rfl
    clear hd hf
    (go_simp; try with_reducible rfl)
  refine Mono.rgl_val (v := ?va13) rfl Mono.rr (fun ρ a W hR hd hf => ?ha13) ?_
  case ha13 =>
    have e36 := Mono.dep_val hd hf (t := 36) (k := 11) (by kernel_rfl) rfl
    clear hd hf
    (go_simp; try with_reducible rfl)
  refine Mono.rgl_done rfl (fun ρ W hR ht => ?_)
  obtain ⟨da13, da12, da11, da10, da9, da8, da7, da6, da5, da4, da3, da2, da1, da0, _⟩ := ht
  simp only [List.length_cons, List.length_nil, Nat.reduceAdd] at da0 da1 da2 da3 da4 da5 da6 da7 da8 da9 da10 da11 da12 da13
  simp only [Mono.putAll, Nat.reduceAdd, da0, da1, da2, da3, da4, da5, da6, da7, da8, da9, da10, da11, da12, da13, Act.put, List.setIfInBounds_toArray, List.set_cons_zero, List.set_cons_succ]
  clear da0 da1 da2 da3 da4 da5 da6 da7 da8 da9 da10 da11 da12 da13
  have HBA : Hid (Below w3.heap.size w3 W) := Lib.hid hR
  clear hR
  have HNW2 := Lib.hid (fun (X : World) (hX : Below W.heap.size W X) => HBA.out.trans (hX.mono HBA.out.size))
  have iai : (ia : Int) < (n : Int) := by omega
  have ibi : (ib : Int) < (n : Int) := by omega
  obtain ⟨b, off, rfl, _⟩ := sl_cells (HCA.out.sl) h0
  obtain ⟨rb, roff, rfl, _⟩ := sl_cells (HRS.out) h0
  have LA := Lib.hid (fun (X : World) (hX : Below W.heap.size W X) => call_cells (HCA.out.sl.below (HNW.out _ (HNW2.out X hX))) hia1)
  have LB := Lib.hid (fun (X : World) (hX : Below W.heap.size W X) => call_cells (HCA.out.sl.below (HNW.out _ (HNW2.out X hX))) hib1)
  have RA := Lib.hid (fun (X : World) (hX : Below W.heap.size W X) => call_cells (HRS.out.below (HNW2.out X hX)) hia1)
  have RB := Lib.hid (fun (X : World) (hX : Below W.heap.size W X) => call_cells (HRS.out.below (HNW2.out X hX)) hib1)
  have HCB := Lib.hid (before_any (cv ia) (cv ib))
  have HCR := Lib.hid (refBefore_any (cv ia) (cv ib))
  have HCC := Lib.hid (can_any (cv ia))
  have HCN := Lib.hid (refCan_any (cv ia))
  have HCM := Lib.hid (must_any (cv ia))
  obtain ⟨ba, hba⟩ : ∃ z, befB (cv ia) (cv ib) = z := ⟨_, rfl⟩
  obtain ⟨ca, hca⟩ : ∃ z, canB (cv ia) = z := ⟨_, rfl⟩
  obtain ⟨ma, hma⟩ : ∃ z, decide (0 ≤ (cv ia).fin) = z := ⟨_, rfl⟩
  rw [hba] at HCB HCR
  have HCC : Hid (∀ W, Calls Tryd.prog 12 #[(cv ia).agg] W fun e w' => e = .returned (.bool (canB (cv ia))) ∧ Below W.heap.size W w') := HCC
  rw [hca] at HCC HCN
  rw [hma] at HCM
  go_wp2_with (fail)
  refine Mono.region_below (by kernel_rfl) (by kernel_rfl) (by kernel_rfl) ?_
  refine Mono.rgl_val (v := ?vb0) rfl Mono.rr (fun ρ a W hR hd hf => ?hb0) ?_
  case hb0 =>
    have e0 := Mono.init_get hf (t := 0) (by kernel_rfl)
    clear hd hf
    (go_simp; try with_reducible rfl)
  refine Mono.rgl_val (v := ?vb1) rfl Mono.rr (fun ρ a W hR hd hf => ?hb1) ?_
  case hb1 =>
    have e8 := Mono.init_get hf (t := 8) (by kernel_rfl)
    clear hd hf
    (go_simp; try with_reducible rfl)
  refine Mono.rgl_val (v := ?vb2) rfl Mono.rr (fun ρ a W hR hd hf => ?hb2) ?_
  case hb2 =>
    have e37 := Mono.dep_val hd hf (t := 37) (k := 0) (by kernel_rfl) rfl
    have e38 := Mono.dep_val hd hf (t := 38) (k := 1) (by kernel_rfl) rfl
    clear hd hf
    (go_simp; try with_reducible rfl)
  refine Mono.rgl_val (v := (cv ia).agg) rfl Mono.rr (fun ρ a W hR hd hf => ?hb3) ?_
  case hb3 =>
    have e39 := Mono.dep_val hd hf (t := 39) (k := 2) (by kernel_rfl) rfl
    obtain ⟨c0, c1, c2, c3, c4, c5⟩ := LA.out W hR
    clear hd hf
    (go_simp; rfl)
  refine Mono.rgl_val (v := ?vb4) rfl Mono.rr (fun ρ a W hR hd hf => ?hb4) ?_
  case hb4 =>
    have e0 := Mono.init_get hf (t := 0) (by kernel_rfl)
    clear hd hf
    (go_simp; try with_reducible rfl)
  refine Mono.rgl_val (v := ?vb5) rfl Mono.rr (fun ρ a W hR hd hf => ?hb5) ?_
  case hb5 =>
    have e9 := Mono.init_get hf (t := 9) (by kernel_rfl)
    clear hd hf
    (go_simp; try with_reducible rfl)
  refine Mono.rgl_val (v := ?vb6) rfl Mono.rr (fun ρ a W hR hd hf => ?hb6) ?_
  case hb6 =>
    have e41 := Mono.dep_val hd hf (t := 41) (k := 4) (by kernel_rfl) rfl
    have e42 := Mono.dep_val hd hf (t := 42) (k := 5) (by kernel_rfl) rfl
    clear hd hf
    (go_simp; try with_reducible rfl)
  refine Mono.rgl_val (v := (cv ib).agg) rfl Mono.rr (fun ρ a W hR hd hf => ?hb7) ?_
  case hb7 =>
    have e43 := Mono.dep_val hd hf (t := 43) (k := 6) (by kernel_rfl) rfl
    obtain ⟨c0, c1, c2, c3, c4, c5⟩ := LB.out W hR
    clear hd hf
    (go_simp; rfl)
  refine Mono.rgl_call (fun x _ => x = .bool ba) rfl Mono.rr (fun _ _ _ h _ => h) (fun ρ a W hR hd hf => ?hb8) ?_
  case hb8 =>
    have e40 := Mono.dep_val hd hf (t := 40) (k := 3) (by kernel_rfl) rfl
    have e44 := Mono.dep_val hd hf (t := 44) (k := 7) (by kernel_rfl) rfl
    clear hd hf
    refine ⟨_, _, by go_simp; first | rfl | exact ⟨rfl, rfl⟩, ?_⟩
    exact (HCB.out W).mono (fun e W' ⟨he, hb⟩ => ⟨_, he, hb, rfl⟩)
  refine Mono.rgl_val (v := ?vb9) rfl Mono.rr (fun ρ a W hR hd hf => ?hb9) ?_
  case hb9 =>
    have e7 := Mono.init_get hf (t := 7) (by kernel_rfl)
    clear hd hf
    (go_simp; try with_reducible rfl)
  refine Mono.rgl_val (v := ?vb10) rfl Mono.rr (fun ρ a W hR hd hf => ?hb10) ?_
  case hb10 =>
    have e8 := Mono.init_get hf (t := 8) (by kernel_rfl)
    clear hd hf
    (go_simp; try with_reducible rfl)
  refine Mono.rgl_val (v := ?vb11) rfl Mono.rr (fun ρ a W hR hd hf => ?hb11) ?_
  case hb11 =>
    have e46 := Mono.dep_val hd hf (t := 46) (k := 9) (by kernel_rfl) rfl
    have e47 := Mono.dep_val hd hf (t := 47) (k := 10) (by kernel_rfl) rfl
    clear hd hf
    (go_simp; try with_reducible rfl)
  refine Mono.rgl_val (v := (cv ia).agg) rfl Mono.rr (fun ρ a W hR hd hf => ?hb12) ?_
  case hb12 =>
    have e48 := Mono.dep_val hd hf (t := 48) (k := 11) (by kernel_rfl) rfl
    obtain ⟨c0, c1, c2, c3, c4, c5⟩ := RA.out W hR
    clear hd hf
    (go_simp; rfl)
  refine Mono.rgl_val (v := ?vb13) rfl Mono.rr (fun ρ a W hR hd hf => ?hb13) ?_
  case hb13 =>
    have e7 := Mono.init_get hf (t := 7) (by kernel_rfl)
    clear hd hf
    (go_simp; try with_reducible rfl)
  refine Mono.rgl_val (v := ?vb14) rfl Mono.rr (fun ρ a W hR hd hf => ?hb14) ?_
  case hb14 =>
    have e9 := Mono.init_get hf (t := 9) (by kernel_rfl)
    clear hd hf
    (go_simp; try with_reducible rfl)
  refine Mono.rgl_val (v := ?vb15) rfl Mono.rr (fun ρ a W hR hd hf => ?hb15) ?_
  case hb15 =>
    have e50 := Mono.dep_val hd hf (t := 50) (k := 13) (by kernel_rfl) rfl
    have e51 := Mono.dep_val hd hf (t := 51) (k := 14) (by kernel_rfl) rfl
    clear hd hf
    (go_simp; try with_reducible rfl)
  refine Mono.rgl_val (v := (cv ib).agg) rfl Mono.rr (fun ρ a W hR hd hf => ?hb16) ?_
  case hb16 =>
    have e52 := Mono.dep_val hd hf (t := 52) (k := 15) (by kernel_rfl) rfl
    obtain ⟨c0, c1, c2, c3, c4, c5⟩ := RB.out W hR
    clear hd hf
    (go_simp; rfl)
  refine Mono.rgl_call (fun x _ => x = .bool ba) rfl Mono.rr (fun _ _ _ h _ => h) (fun ρ a W hR hd hf => ?hb17) ?_
  case hb17 =>
    have e49 := Mono.dep_val hd hf (t := 49) (k := 12) (by kernel_rfl) rfl
    have e53 := Mono.dep_val hd hf (t := 53) (k := 16) (by kernel_rfl) rfl
    clear hd hf
    refine ⟨_, _, by go_simp; first | rfl | exact ⟨rfl, rfl⟩, ?_⟩
    exact (HCR.out W).mono (fun e W' ⟨he, hb⟩ => ⟨_, he, hb, rfl⟩)
  refine Mono.rgl_val (v := .bool false) rfl Mono.rr (fun ρ a W hR hd hf => ?hb18) ?_
  case hb18 =>
    have e45 := Mono.dep_val hd hf (t := 45) (k := 8) (by kernel_rfl) rfl
    have e54 := Mono.dep_val hd hf (t := 54) (k := 17) (by kernel_rfl) rfl
    clear hd hf
    (go_simp; try simp)
  refine Mono.rgl_val (v := ?vb19) rfl Mono.rr (fun ρ a W hR hd hf => ?hb19) ?_
  case hb19 =>
    have e55 := Mono.dep_val hd hf (t := 55) (k := 18) (by kernel_rfl) rfl
    clear hd hf
    (go_simp; try with_reducible rfl)
  refine Mono.rgl_valg (v := ?vb20) rfl Mono.rr (fun ρ W hd => Mono.guard_val hd (t := 56) (k := 19) (by kernel_rfl) rfl) (fun ρ a W hR hd hf => ?hb20) ?_
  case hb20 =>
    have e0 := Mono.init_get hf (t := 0) (by kernel_rfl)
    clear hd hf
    (go_simp; try with_reducible rfl)
  refine Mono.rgl_valg (v := ?vb21) rfl Mono.rr (fun ρ W hd => Mono.guard_val hd (t := 56) (k := 19) (by kernel_rfl) rfl) (fun ρ a W hR hd hf => ?hb21) ?_
  case hb21 =>
    have e8 := Mono.init_get hf (t := 8) (by kernel_rfl)
    clear hd hf
    (go_simp; try with_reducible rfl)
  refine Mono.rgl_valg (v := ?vb22) rfl Mono.rr (fun ρ W hd => Mono.guard_val hd (t := 56) (k := 19) (by kernel_rfl) rfl) (fun ρ a W hR hd hf => ?hb22) ?_
  case hb22 =>
    have e57 := Mono.dep_val hd hf (t := 57) (k := 20) (by kernel_rfl) rfl
    have e58 := Mono.dep_val hd hf (t := 58) (k := 21) (by kernel_rfl) rfl
    clear hd hf
    (go_simp; try with_reducible rfl)
  refine Mono.rgl_valg (v := (cv ia).agg) rfl Mono.rr (fun ρ W hd => Mono.guard_val hd (t := 56) (k := 19) (by kernel_rfl) rfl) (fun ρ a W hR hd hf => ?hb23) ?_
  case hb23 =>
    have e59 := Mono.dep_val hd hf (t := 59) (k := 22) (by kernel_rfl) rfl
    obtain ⟨c0, c1, c2, c3, c4, c5⟩ := LA.out W hR
    clear hd hf
    (go_simp; rfl)
  refine Mono.rgl_callg (fun x _ => x = .bool ca) rfl Mono.rr (fun _ _ _ h _ => h) (fun ρ W hd => Mono.guard_val hd (t := 56) (k := 19) (by kernel_rfl) rfl) (fun ρ a W hR hd hf => ?hb24) ?_
  case hb24 =>
    have e60 := Mono.dep_val hd hf (t := 60) (k := 23) (by kernel_rfl) rfl
    clear hd hf
    refine ⟨_, _, by go_simp; first | rfl | exact ⟨rfl, rfl⟩, ?_⟩
    exact (HCC.out W).mono (fun e W' ⟨he, hb⟩ => ⟨_, he, hb, rfl⟩)
  refine Mono.rgl_valg (v := ?vb25) rfl Mono.rr (fun ρ W hd => Mono.guard_val hd (t := 56) (k := 19) (by kernel_rfl) rfl) (fun ρ a W hR hd hf => ?hb25) ?_
  case hb25 =>
    have e7 := Mono.init_get hf (t := 7) (by kernel_rfl)
    clear hd hf
    (go_simp; try with_reducible rfl)
  refine Mono.rgl_valg (v := ?vb26) rfl Mono.rr (fun ρ W hd => Mono.guard_val hd (t := 56) (k := 19) (by kernel_rfl) rfl) (fun ρ a W hR hd hf => ?hb26) ?_
  case hb26 =>
    have e8 := Mono.init_get hf (t := 8) (by kernel_rfl)
    clear hd hf
    (go_simp; try with_reducible rfl)
  refine Mono.rgl_valg (v := ?vb27) rfl Mono.rr (fun ρ W hd => Mono.guard_val hd (t := 56) (k := 19) (by kernel_rfl) rfl) (fun ρ a W hR hd hf => ?hb27) ?_
  case hb27 =>
    have e62 := Mono.dep_val hd hf (t := 62) (k := 25) (by kernel_rfl) rfl
    have e63 := Mono.dep_val hd hf (t := 63) (k := 26) (by kernel_rfl) rfl
    clear hd hf
    (go_simp; try with_reducible rfl)
  refine Mono.rgl_valg (v := (cv ia).agg) rfl Mono.rr (fun ρ W hd => Mono.guard_val hd (t := 56) (k := 19) (by kernel_rfl) rfl) (fun ρ a W hR hd hf => ?hb28) ?_
  case hb28 =>
    have e64 := Mono.dep_val hd hf (t := 64) (k := 27) (by kernel_rfl) rfl
    obtain ⟨c0, c1, c2, c3, c4, c5⟩ := RA.out W hR
    clear hd hf
    (go_simp; rfl)
  refine Mono.rgl_callg (fun x _ => x = .bool ca) rfl Mono.rr (fun _ _ _ h _ => h) (fun ρ W hd => Mono.guard_val hd (t := 56) (k := 19) (by kernel_rfl) rfl) (fun ρ a W hR hd hf => ?hb29) ?_
  case hb29 =>
    have e65 := Mono.dep_val hd hf (t := 65) (k := 28) (by kernel_rfl) rfl
    clear hd hf
    refine ⟨_, _, by go_simp; first | rfl | exact ⟨rfl, rfl⟩, ?_⟩
    exact (HCN.out W).mono (fun e W' ⟨he, hb⟩ => ⟨_, he, hb, rfl⟩)
  refine Mono.rgl_valg (v := .bool false) rfl Mono.rr (fun ρ W hd => Mono.guard_val hd (t := 56) (k := 19) (by kernel_rfl) rfl) (fun ρ a W hR hd hf => ?hb30) ?_
  case hb30 =>
    have e61 := Mono.dep_val hd hf (t := 61) (k := 24) (by kernel_rfl) rfl
    have e66 := Mono.dep_val hd hf (t := 66) (k := 29) (by kernel_rfl) rfl
    clear hd hf
    (go_simp; try simp)
  refine Mono.rgl_val (v := .bool false) rfl Mono.rr (fun ρ a W hR hd hf => ?hb31) ?_
  case hb31 =>
    have e56 := Mono.dep_val hd hf (t := 56) (k := 19) (by kernel_rfl) rfl
    have e67 := Mono.dep_val hd hf (t := 67) (k := 30) (by kernel_rfl) rfl
    clear hd hf
    (go_simp; try simp)
  refine Mono.rgl_val (v := ?vb32) rfl Mono.rr (fun ρ a W hR hd hf => ?hb32) ?_
  case hb32 =>
    have e68 := Mono.dep_val hd hf (t := 68) (k := 31) (by kernel_rfl) rfl
    clear hd hf
    (go_simp; try with_reducible rfl)
  refine Mono.rgl_valg (v := ?vb33) rfl Mono.rr (fun ρ W hd => Mono.guard_val hd (t := 69) (k := 32) (by kernel_rfl) rfl) (fun ρ a W hR hd hf => ?hb33) ?_
  case hb33 =>
    have e0 := Mono.init_get hf (t := 0) (by kernel_rfl)
    clear hd hf
    (go_simp; try with_reducible rfl)
  refine Mono.rgl_valg (v := ?vb34) rfl Mono.rr (fun ρ W hd => Mono.guard_val hd (t := 69) (k := 32) (by kernel_rfl) rfl) (fun ρ a W hR hd hf => ?hb34) ?_
  case hb34 =>
    have e8 := Mono.init_get hf (t := 8) (by kernel_rfl)
    clear hd hf
    (go_simp; try with_reducible rfl)
  refine Mono.rgl_valg (v := ?vb35) rfl Mono.rr (fun ρ W hd => Mono.guard_val hd (t := 69) (k := 32) (by kernel_rfl) rfl) (fun ρ a W hR hd hf => ?hb35) ?_
  case hb35 =>
    have e70 := Mono.dep_val hd hf (t := 70) (k := 33) (by kernel_rfl) rfl
    have e71 := Mono.dep_val hd hf (t := 71) (k := 34) (by kernel_rfl) rfl
    clear hd hf
    (go_simp; try with_reducible rfl)
  refine Mono.rgl_valg (v := (cv ia).agg) rfl Mono.rr (fun ρ W hd => Mono.guard_val hd (t := 69) (k := 32) (by kernel_rfl) rfl) (fun ρ a W hR hd hf => ?hb36) ?_
  case hb36 =>
    have e72 := Mono.dep_val hd hf (t := 72) (k := 35) (by kernel_rfl) rfl
    obtain ⟨c0, c1, c2, c3, c4, c5⟩ := LA.out W hR
    clear hd hf
    (go_simp; rfl)
  refine Mono.rgl_callg (fun x _ => x = .bool ma) rfl Mono.rr (fun _ _ _ h _ => h) (fun ρ W hd => Mono.guard_val hd (t := 69) (k := 32) (by kernel_rfl) rfl) (fun ρ a W hR hd hf => ?hb37) ?_
  case hb37 =>
    have e73 := Mono.dep_val hd hf (t := 73) (k := 36) (by kernel_rfl) rfl
    clear hd hf
    refine ⟨_, _, by go_simp; first | rfl | exact ⟨rfl, rfl⟩, ?_⟩
    exact (HCM.out W).mono (fun e W' ⟨he, hb⟩ => ⟨_, he, hb, rfl⟩)
  refine Mono.rgl_valg (v := ?vb38) rfl Mono.rr (fun ρ W hd => Mono.guard_val hd (t := 69) (k := 32) (by kernel_rfl) rfl) (fun ρ a W hR hd hf => ?hb38) ?_
  case hb38 =>
    have e7 := Mono.init_get hf (t := 7) (by kernel_rfl)
    clear hd hf
    (go_simp; try with_reducible rfl)
  refine Mono.rgl_valg (v := ?vb39) rfl Mono.rr (fun ρ W hd => Mono.guard_val hd (t := 69) (k := 32) (by kernel_rfl) rfl) (fun ρ a W hR hd hf => ?hb39) ?_
  case hb39 =>
    have e8 := Mono.init_get hf (t := 8) (by kernel_rfl)
    clear hd hf
    (go_simp; try with_reducible rfl)
  refine Mono.rgl_valg (v := ?vb40) rfl Mono.rr (fun ρ W hd => Mono.guard_val hd (t := 69) (k := 32) (by kernel_rfl) rfl) (fun ρ a W hR hd hf => ?hb40) ?_
  case hb40 =>
    have e75 := Mono.dep_val hd hf (t := 75) (k := 38) (by kernel_rfl) rfl
    have e76 := Mono.dep_val hd hf (t := 76) (k := 39) (by kernel_rfl) rfl
    clear hd hf
    (go_simp; try with_reducible rfl)
  refine Mono.rgl_valg (v := ?vb41) rfl Mono.rr (fun ρ W hd => Mono.guard_val hd (t := 69) (k := 32) (by kernel_rfl) rfl) (fun ρ a W hR hd hf => ?hb41) ?_
  case hb41 =>
    have e77 := Mono.dep_val hd hf (t := 77) (k := 40) (by kernel_rfl) rfl
    clear hd hf
    (go_simp; try with_reducible rfl)
  refine Mono.rgl_valg (v := ?vb42) rfl Mono.rr (fun ρ W hd => Mono.guard_val hd (t := 69) (k := 32) (by kernel_rfl) rfl) (fun ρ a W hR hd hf => ?hb42) ?_
  case hb42 =>
    have e78 := Mono.dep_val hd hf (t := 78) (k := 41) (by kernel_rfl) rfl
    obtain ⟨c0, c1, c2, c3, c4, c5⟩ := RA.out W hR
    clear hd hf
    (go_simp; try with_reducible rfl)
  refine Mono.rgl_valg (v := .bool ma) rfl Mono.rr (fun ρ W hd => Mono.guard_val hd (t := 69) (k := 32) (by kernel_rfl) rfl) (fun ρ a W hR hd hf => ?hb43) ?_
  case hb43 =>
    have e79 := Mono.dep_val hd hf (t := 79) (k := 42) (by kernel_rfl) rfl
    clear hd hf
    (go_simp; try rfl)
  refine Mono.rgl_valg (v := .bool false) rfl Mono.rr (fun ρ W hd => Mono.guard_val hd (t := 69) (k := 32) (by kernel_rfl) rfl) (fun ρ a W hR hd hf => ?hb44) ?_
  case hb44 =>
    have e74 := Mono.dep_val hd hf (t := 74) (k := 37) (by kernel_rfl) rfl
    have e80 := Mono.dep_val hd hf (t := 80) (k := 43) (by kernel_rfl) rfl
    clear hd hf
    (go_simp; try simp)
  refine Mono.rgl_val (v := .bool false) rfl Mono.rr (fun ρ a W hR hd hf => ?hb45) ?_
  case hb45 =>
    have e69 := Mono.dep_val hd hf (t := 69) (k := 32) (by kernel_rfl) rfl
    have e81 := Mono.dep_val hd hf (t := 81) (k := 44) (by kernel_rfl) rfl
    clear hd hf
    (go_simp; try simp)
  refine Mono.rgl_done rfl (fun ρ W hR ht => ?_)
  obtain ⟨db45, db44, db43, db42, db41, db40, db39, db38, db37, db36, db35, db34, db33, db32, db31, db30, db29, db28, db27, db26, db25, db24, db23, db22, db21, db20, db19, db18, db17, db16, db15, db14, db13, db12, db11, db10, db9, db8, db7, db6, db5, db4, db3, db2, db1, db0, _⟩ := ht
  simp only [List.length_cons, List.length_nil, Nat.reduceAdd] at db0 db1 db2 db3 db4 db5 db6 db7 db8 db9 db10 db11 db12 db13 db14 db15 db16 db17 db18 db19 db20 db21 db22 db23 db24 db25 db26 db27 db28 db29 db30 db31 db32 db33 db34 db35 db36 db37 db38 db39 db40 db41 db42 db43 db44 db45
  simp only [Mono.putAll, Nat.reduceAdd, db0, db1, db2, db3, db4, db5, db6, db7, db8, db9, db10, db11, db12, db13, db14, db15, db16, db17, db18, db19, db20, db21, db22, db23, db24, db25, db26, db27, db28, db29, db30, db31, db32, db33, db34, db35, db36, db37, db38, db39, db40, db41, db42, db43, db44, db45, Act.put, List.setIfInBounds_toArray, List.set_cons_zero, List.set_cons_succ]
  clear db0 db1 db2 db3 db4 db5 db6 db7 db8 db9 db10 db11 db12 db13 db14 db15 db16 db17 db18 db19 db20 db21 db22 db23 db24 db25 db26 db27 db28 db29 db30 db31 db32 db33 db34 db35 db36 db37 db38 db39 db40 db41 db42 db43 db44 db45
  have HBR : Hid (Below w3.heap.size w3 W) := Lib.hid (HBA.out.trans (hR.mono HBA.out.size))
  clear hR HCB HCR HCC HCN HCM LA LB RA RB
  have HFT := Lib.hid (fits_any n m cv nm f (.slice (some ⟨b, off, none⟩) n cap) (.slice a2 m cap2) w.heap.size W (HCA.out.below (HNW.out _ HBR.out)) (HU.out _ (HNW.out _ HBR.out)) (HNW.out _ HBR.out).size hn20 hm30)
  go_wp2_with (fail)
  refine HFT.out.mono ?_
  rintro e w5 ⟨b5, rfl, hb5, hw5⟩
  have HB5 := Lib.hid (HBR.out.trans (hw5.mono HBR.out.size))
  have HRT := Lib.hid (refFits_any n m cv nm f (.slice (some ⟨rb, roff, none⟩) n rcap) (.slice a2 m cap2) w5.heap.size w5 ⟨(HRS.out.below HB5.out).mono HB5.out.size, fun k hk => HCA.out.name k hk, fun k hk => HCA.out.len k hk, fun k hk => ((HCA.out.names k hk).below (HNW.out _ HB5.out)).mono (HNW.out _ HB5.out).size, fun k hk => HCA.out.few k hk⟩ ((HU.out _ (HNW.out _ HB5.out)).mono (HNW.out _ HB5.out).size) (Nat.le_refl _) hn20 hm30)
  have HI5 := Lib.hid hb5
  clear hw5 hb5 HFT
  go_wp2_with (fail)
  refine HRT.out.mono ?_
  rintro e w6 ⟨b6, rfl, hb6, hw6⟩
  have HB6 := Lib.hid (HNW.out _ (HB5.out.trans (hw6.mono HB5.out.size)))
  obtain rfl : b5 = b6 := by
    have := HI5.out
    have h2 := fits_iff n m cv nm f
    cases b5 <;> cases b6 <;> simp_all
  clear hw6 hb6 HRT HI5
  go_wp2_with (fail)
  go_ret
  exact ⟨by rfl, HB6.out⟩
end Go.Proofs.YtmcbgjkogggneaaDoor
