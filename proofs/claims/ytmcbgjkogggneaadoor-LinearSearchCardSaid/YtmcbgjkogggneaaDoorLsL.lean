/- The reference's Ints; the walk of LinearSearch. -/
import Derived.Test.YtmcbgjkogggneaaDoorLsK
import Derived.Test.YtmcbgjkogggneaaDoorLkL
namespace Go.Proofs.YtmcbgjkogggneaaDoor
set_option maxRecDepth 100000
set_option linter.unusedVariables false
set_option linter.unusedSimpArgs false
open Go.RowKit
set_option maxHeartbeats 2000000 in
theorem ints_any (p : List Nat) (u v : Value) (B : Nat) (w : World) (h1 : Sl w B 1 u p.length (ocells p)) (h2 : Sl w B 1 v p.length (ocells p)) (hB : B ≤ w.heap.size) (hl : p.length ≤ 1000000) :
    Calls Tryd.prog 19 #[u, v] w fun e w' => e = .returned (.bool true) ∧ Below w.heap.size w w' := by
  rw [ocells_eq] at h1 h2
  generalize toI (at0 p) = f at *
  generalize p.length = n at *
  obtain ⟨a, cap, rfl, hcap⟩ := h1.form
  obtain ⟨b, bcap, rfl, hbcap⟩ := h2.form
  have H1 := Lib.hid (fun (W : World) (hW : Below w.heap.size w W) => h1.below (hW.mono hB))
  have H2 := Lib.hid (fun (W : World) (hW : Below w.heap.size w W) => h2.below (hW.mono hB))
  clear h1 h2
  go_enter Tryd.func19, Tryd.ntmps19
  go_wp2_with (fail)
  go_loopw [5] (fun i wr => ∃ j : Nat, i = .int .i64 j ∧ j ≤ n ∧ Hid (Below w.heap.size w wr)) (fun i _ => n - (intOf i).toNat)
  case atStart => exact ⟨0, rfl, Nat.zero_le _, Lib.hid (Below.refl _ _)⟩
  case round =>
    obtain ⟨j, rfl, hj, HB1⟩ := hrel
    obtain ⟨wo, rfl⟩ : ∃ z : World, z = wr := ⟨_, rfl⟩
    by_cases hlt : j < n
    rotate_left
    · have d1 : decide (j < n) = false := decide_eq_false hlt
      have d2 : decide ((j : Int) < (n : Int)) = false := decide_eq_false (by omega)
      go_wp2_with (fail)
      go_ret
      exact ⟨by rfl, HB1.out⟩
    have d1 : decide (j < n) = true := decide_eq_true hlt
    have d2 : decide ((j : Int) < (n : Int)) = true := decide_eq_true (by omega)
    have q1 : IntKind.i64.wrap ((j : Int) + 1) = (j : Int) + 1 := IntWalk.i64_in _ (by omega)
    have hbi : (j : Int) < (n : Int) := by omega
    obtain ⟨b1, o1, rfl, hk1⟩ := sl_cells (H1.out wo HB1.out) (by omega)
    obtain ⟨b2, o2, rfl, hk2⟩ := sl_cells (H2.out wo HB1.out) (by omega)
    have k1 := hk1 j _ (icellsI_get f hlt)
    have k2 := hk2 j _ (icellsI_get f hlt)
    have d3 : (f j != f j) = false := by simp
    clear hk1 hk2
    generalize f j = y at *
    go_wp2_with (fail)
    go_quiet (fail)
    have HB2 : Hid (Below w.heap.size w (wo.drewN nq)) := Lib.hid (below_drewN HB1.out _)
    go_wp2_with (fail)
    go_roundw
    case rel => exact ⟨j + 1, rfl, by omega, HB2⟩
    case measure => simp [intOf] <;> omega
set_option maxHeartbeats 8000000 in
theorem search_walk (n : Nat) (cv : Nat → CallV) (v : Value) (w : World) (h : Sl w w.heap.size 6 v n (ccells n cv)) (hn : n ≤ maxLen) (hok : ∀ i, i < n → CallOK w (cv i)) :
    Calls Tryd.prog 4 #[v] w fun e w' => e = .returned (.bool true) ∧ Below w.heap.size w w' := by
  obtain ⟨a, cap, rfl, hcap⟩ := h.form
  have HS := Lib.hid (fun (W : World) (hW : Below w.heap.size w W) => h.below hW)
  have HOK := Lib.hid hok
  clear h hok
  go_enter Tryd.func4, Tryd.ntmps4
  go_wp2_with (fail)
  refine (awake_any w).mono ?_
  rintro e w1 ⟨rfl, hb1⟩
  have HB1 : Hid (Below w.heap.size w w1) := Lib.hid hb1
  have HFW := Lib.hid (few_any n cv (.slice a n cap) w.heap.size w1 (HS.out w1 HB1.out) HB1.out.size hn)
  clear hb1
  go_wp2_with (fail)
  refine HFW.out.mono ?_
  rintro e w2 ⟨few, rfl, hfew, hb2⟩
  have HB2 := Lib.hid (HB1.out.trans (hb2.mono HB1.out.size))
  have HFEW := Lib.hid hfew
  clear hb2 HB1 HFW hfew
  cases few with
  | false =>
    go_wp2_with (fail)
    go_ret
    exact ⟨by rfl, HB2.out⟩
  | true =>
  have hz2 := HB2.out.size
  by_cases h8 : 8 < n
  · have d1 : decide (8 < n) = true := decide_eq_true h8
    have d2 : decide ((8 : Int) < (n : Int)) = true := decide_eq_true (by omega)
    have HSL := Lib.hid (search_long n a cap w2 h8)
    clear h8 hn
    go_wp2_with (fail)
    refine HSL.out.mono ?_
    rintro e w3 ⟨rfl, hb3⟩
    have HB3 := Lib.hid (HB2.out.trans (hb3.mono hz2))
    clear hb3 HSL
    go_wp2_with (fail)
    go_ret
    exact ⟨by rfl, HB3.out⟩
  have d1 : decide (8 < n) = false := decide_eq_false h8
  have d2 : decide ((8 : Int) < (n : Int)) = false := decide_eq_false (by omega)
  have hn8 : n ≤ 8 := by omega
  obtain ⟨nm, hnm⟩ : ∃ nm : Nat → List ByteArray, ∀ k, k < n → (nm k).length = (cv k).nn ∧ Sl w w.heap.size 1 (.slice (cv k).na (cv k).nn (cv k).nc) (cv k).nn (scells (nm k)) ∧ ∀ s ∈ nm k, s.size ≤ maxLen := by
    refine ⟨fun k => if hk : k < n then (HOK.out k hk).2.1.choose else [], fun k hk => ?_⟩
    simp only [hk, dif_pos]
    exact (HOK.out k hk).2.1.choose_spec
  have HCA : Hid (CallsAt w w.heap.size n (.slice a n cap) cv nm) := Lib.hid ⟨HS.out w (Below.refl _ _), fun k hk => (HOK.out k hk).1, fun k hk => (hnm k hk).1, fun k hk => (hnm k hk).2.1, fun k hk => by rw [(hnm k hk).1]; exact (HFEW.out rfl).2 k hk⟩
  have HSE := Lib.hid (search_any n cv nm (.slice a n cap) w.heap.size w2 (HCA.out.below HB2.out) (fun k hk => (hnm k hk).2.2) hz2 hn8)
  clear hnm HFEW hn h8
  go_wp2_with (fail)
  refine HSE.out.mono ?_
  rintro e w3 ⟨hb3, hres⟩
  have HB3 := Lib.hid (HB2.out.trans (hb3.mono hz2))
  have hz3 := HB3.out.size
  have HRF := Lib.hid (refs_any n cv (.slice a n cap) w.heap.size w3 (HS.out w3 HB3.out) hz3 (by omega))
  have HRS : Hid (∀ w4 rv, Row w3.heap.size 34 6 w4 rv n (ccells n cv) → Below w3.heap.size w3 w4 → Calls Tryd.prog 18 #[rv, .slice none 0 0] w4 (RS_p n cv nm n [] w4)) := Lib.hid (fun w4 rv hr hb4 => by
    have hB4 : Below w.heap.size w w4 := HB3.out.trans (hb4.mono hz3)
    have hz4 := hB4.size
    have hc4 := HCA.out.below hB4
    exact rs_any n cv nm rv hn8 n [] _ w4 ⟨hr.sl, hc4.name, hc4.len, fun k hk => (hc4.names k hk).mono hz4, hc4.few⟩ Sl.nil Gd.nil (cntN_le _ _))
  clear hb3 HSE
  rcases hres with ⟨hno, rfl⟩ | ⟨p, v', hp, rfl, hsl⟩
  · have HNO := Lib.hid hno
    clear hno
    go_wp2_with (fail)
    refine HRF.out.mono ?_
    rintro e w4 ⟨rv, rfl, hrow, hb4⟩
    have HB4 := Lib.hid (HB3.out.trans (hb4.mono hz3))
    have HR4 := Lib.hid (HRS.out w4 rv hrow hb4)
    clear hb4 hrow HRF
    go_wp2_with (fail)
    refine HR4.out.mono ?_
    rintro e w5 ⟨hb5, hres5⟩
    have HB5 := Lib.hid (HB4.out.trans (hb5.mono HB4.out.size))
    clear hb5 HR4
    rcases hres5 with ⟨_, rfl⟩ | ⟨q, v2, hq, rfl, _⟩
    · go_wp2_with (fail)
      go_ret
      exact ⟨by rfl, HB5.out⟩
    · rw [HNO.out] at hq
      cases hq
  · have HP := Lib.hid hp
    obtain ⟨pl, hpl⟩ : ∃ z, p.length = z := ⟨_, rfl⟩
    have HPL := Lib.hid hpl
    obtain ⟨hgd, hmu⟩ := srch_sound n [] p Gd.nil hp
    have HGD := Lib.hid hgd
    have HMU := Lib.hid hmu
    have hpl8 : pl ≤ 8 := by have := hgd.facts.2.2.2; omega
    have HSL := Lib.hid hsl
    clear hp hpl hgd hmu hsl
    rw [HPL.out] at HSL
    obtain ⟨a3, c3, rfl, _⟩ := HSL.out.form
    go_wp2_with (fail)
    refine HRF.out.mono ?_
    rintro e w4 ⟨rv, rfl, hrow, hb4⟩
    have HB4 := Lib.hid (HB3.out.trans (hb4.mono hz3))
    have HD4 := Lib.hid hb4
    have HR4 := Lib.hid (HRS.out w4 rv hrow hb4)
    clear hb4 hrow HRF
    go_wp2_with (fail)
    refine HR4.out.mono ?_
    rintro e w5 ⟨hb5, hres5⟩
    have HB5 := Lib.hid (HB4.out.trans (hb5.mono HB4.out.size))
    have HD5 := Lib.hid (HD4.out.trans (hb5.mono HD4.out.size))
    clear hb5 HR4
    rcases hres5 with ⟨hno, rfl⟩ | ⟨q, v2, hq, rfl, hsl2⟩
    · rw [HP.out] at hno
      cases hno
    obtain rfl : p = q := Option.some.inj (HP.out.symm.trans hq)
    have HSL2 := Lib.hid hsl2
    clear hq hsl2
    rw [HPL.out] at HSL2
    obtain ⟨a4, c4, rfl, _⟩ := HSL2.out.form
    have HSL5 : Hid (Sl w5 w5.heap.size 1 (.slice a3 pl c3) pl (ocells p)) := Lib.hid ((HSL.out.below HD5.out).mono HD5.out.size)
    have HIN := Lib.hid (ints_any p (.slice a3 pl c3) (.slice a4 pl c4) w5.heap.size w5 (by rw [HPL.out]; exact HSL5.out) (by rw [HPL.out]; exact HSL2.out) (Nat.le_refl _) (by rw [HPL.out]; omega))
    go_wp2_with (fail)
    refine HIN.out.mono ?_
    rintro e w6 ⟨rfl, hb6⟩
    have HB6 := Lib.hid (HB5.out.trans (hb6.mono HB5.out.size))
    have HFT := Lib.hid (fits_any n pl cv nm (toI (at0 p)) (.slice a n cap) (.slice a3 pl c3) w6.heap.size w6 ((HCA.out.below HB6.out).up HB6.out.size) (by
      have := (HSL5.out.below hb6).mono hb6.size
      rwa [ocells_eq, HPL.out] at this) (Nat.le_refl _) (by omega) (by omega))
    have HFF : Hid (Whole n pl cv (toI (at0 p)) ∧ Tm cv (natO (toI (at0 p))) pl ∧ (st cv nm (natO (toI (at0 p))) pl).2 = true) := Lib.hid (by
      have := HGD.out.fits.2 HMU.out
      rwa [HPL.out] at this)
    clear hb6 HIN
    go_wp2_with (fail)
    refine HFT.out.mono ?_
    rintro e w7 ⟨b7, rfl, hb7, hw7⟩
    obtain rfl : b7 = true := hb7.2 HFF.out
    have HB7 := Lib.hid (HB6.out.trans (hw7.mono HB6.out.size))
    clear hb7 hw7
    go_wp2_with (fail)
    go_ret
    exact ⟨by rfl, HB7.out⟩
end Go.Proofs.YtmcbgjkogggneaaDoor
