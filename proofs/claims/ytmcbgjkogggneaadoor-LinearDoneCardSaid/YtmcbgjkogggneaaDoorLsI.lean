/- linear.Search. -/
import Derived.Test.YtmcbgjkogggneaaDoorLsH
namespace Go.Proofs.YtmcbgjkogggneaaDoor
set_option maxRecDepth 100000
set_option linter.unusedVariables false
set_option linter.unusedSimpArgs false
open Go.RowKit Go.Maps Go.WideMaps
/-- What shorten leaves, as calls in memory. -/
theorem ShI.calls {mb base n B : Nat} {cv cv' : Nat → CallV} {nm nm' : Nat → List ByteArray} {w w0 : World} {v v0 : Value} {K : List ByteArray} (h : ShI mb base n cv nm w n v K cv' nm') (h0 : CallsAt w0 B n v0 cv nm) (hn : n ≤ 8) (hB : mb ≤ w.heap.size) : CallsAt w w.heap.size n v cv' nm' := by
  have hl := h.len
  refine ⟨h.row.sl, fun k hk => ?_, fun k hk => (h.nms k hk).1, fun k hk => ?_, fun k hk => ?_⟩
  · obtain ⟨h1, h2, _⟩ := h.sh k hk
    rw [h2]
    have := ixL_lt h1
    exact dgs_size (by omega)
  · rcases (h.nms k hk).2 with h1 | h1
    · exact h1.mono hB
    · exact h1.sl
  · rw [(h.nms k hk).1, (h.sh k hk).2.2.2.2.2.2.1, ← h0.len k hk]
    exact h0.few k hk
def Search_p (n : Nat) (cv : Nat → CallV) (nm : Nat → List ByteArray) (w : World) (e : Ending) (w' : World) : Prop :=
  Below w.heap.size w w' ∧ ((srch n cv nm n [] = none ∧ e = .returned (.tuple #[.slice none 0 0, .int .i64 7])) ∨
    (∃ p v', srch n cv nm n [] = some p ∧ e = .returned (.tuple #[v', .int .i64 0]) ∧ Sl w' w'.heap.size 1 v' p.length (p.map fun i => .int .i64 (i : Nat))))
theorem search_long (n : Nat) (a : Option Addr) (cap : Nat) (w : World) (hn : 8 < n) :
    Calls Tryd.prog 17 #[.slice a n cap] w fun e w' => e = .returned (.tuple #[.slice none 0 0, .int .i64 5]) ∧ Below w.heap.size w w' := by
  have d1 : decide (8 < n) = true := decide_eq_true hn
  have d2 : decide ((8 : Int) < (n : Int)) = true := decide_eq_true (by omega)
  go_enter Tryd.func17, Tryd.ntmps17
  go_wp2_with (fail)
  go_ret2
  exact ⟨rfl, Below.refl _ _⟩
set_option maxHeartbeats 8000000 in
theorem search_any (n : Nat) (cv : Nat → CallV) (nm : Nat → List ByteArray) (v : Value) (B : Nat) (w : World) (h : CallsAt w B n v cv nm) (hns : ∀ k, k < n → ∀ s ∈ nm k, s.size ≤ maxLen) (hB : B ≤ w.heap.size) (hn : n ≤ 8) :
    Calls Tryd.prog 17 #[v] w (Search_p n cv nm w) := by
  obtain ⟨a, cap, rfl, hcap⟩ := h.sl.form
  have HH := Lib.hid h
  have HSH := Lib.hid (shorten_any n cv nm _ B w h hns hB hn)
  have d1 : decide (8 < n) = false := decide_eq_false (by omega)
  have d2 : decide ((8 : Int) < (n : Int)) = false := decide_eq_false (by omega)
  clear h hns
  go_enter Tryd.func17, Tryd.ntmps17
  go_wp2_with (fail)
  refine HSH.out.mono ?_
  rintro e w1 ⟨v1, K, cv', nm', rfl, hsi, hb1⟩
  have HSI := Lib.hid hsi
  have HC1 := Lib.hid (hsi.calls HH.out hn hb1.size)
  have HB1 := Lib.hid hb1
  have hz1 := hb1.size
  clear hsi hb1 HSH
  go_wp2_with (fail)
  refine (newModel_any w1).mono ?_
  rintro e w2 ⟨mb, mm, rfl, hom, hmp, hmb, h1mb, h1mm, hmmb, hb2⟩
  have hz2 := hb2.size
  obtain ⟨C, hC⟩ : ∃ z, w1.heap.size = z := ⟨_, rfl⟩
  rw [hC] at HC1 hz1 hb2 h1mb h1mm hz2
  have HC2 := Lib.hid (HC1.out.below hb2)
  obtain ⟨a1, cap1, hv1, _⟩ := HC2.out.sl.form
  subst hv1
  have HB2 : Hid (Below w.heap.size w w2) := Lib.hid (HB1.out.trans (hb2.mono hz1))
  have HSIM : Hid (srch n cv' nm' n [] = srch n cv nm n []) := Lib.hid (srch_ren (by have := HSI.out.len; omega) HSI.out.sh n [] (by simp; omega) (fun x hx => by cases hx))
  have hb3 : Below w2.heap.size w2 (w2.alloc (.cells (scl (.slice a1 n cap1) (.slice none 0 0) [] 0 mb).toArray 57)) := (Below.refl _ _).alloc (Nat.le_refl _) _
  obtain ⟨w3, hw3⟩ : ∃ z : World, z = w2.alloc (.cells (scl (.slice a1 n cap1) (.slice none 0 0) [] 0 mb).toArray 57) := ⟨_, rfl⟩
  have HO3 : Hid (Own w3 w2.heap.size (scl (.slice a1 n cap1) (.slice none 0 0) [] 0 mb)) := Lib.hid (by rw [hw3]; exact Own.new_at w2 _ _ _ rfl)
  rw [← hw3] at hb3
  have HC3 := Lib.hid (HC2.out.below (hb3.mono hz2))
  have hz3 : w3.heap.size = w2.heap.size + 1 := by rw [hw3]; simp
  have HMD3 : Hid (ModelAt w3 mb mm (w2.heap.size + 1) []) := Lib.hid ⟨hmmb, by omega, Nat.le_of_eq hz3.symm, .slice none 0 0, .map [], 0, hom.below hb3 hmb, Row.nil, hmp.below hb3, Nat.le_refl _, fun s _ => rfl⟩
  have HB3 : Hid (Below w.heap.size w w3) := Lib.hid (HB2.out.trans (hb3.mono HB2.out.size))
  have HW3 : Hid (w2.alloc (.cells #[.slice a1 n cap1, .slice none 0 0, .bool false, .bool false, .bool false, .bool false, .bool false, .bool false, .bool false, .bool false, .int .i64 0, .pointer (some ⟨mb, 0, none⟩)] 57) = w3) := Lib.hid hw3.symm
  have HZ3 := Lib.hid hz3
  clear hom hmp hb2 hb3 hw3 HC1 HC2 HSI hC hz3 HB1 HB2
  go_upto_region 4 with (fail)
  rw [HW3.out]
  have hz3 := HZ3.out
  clear HZ3 HW3
  obtain ⟨sb, hsb⟩ : ∃ z, w2.heap.size = z := ⟨_, rfl⟩
  rw [hsb] at HO3 HMD3 hz3 hmb hz2 ⊢
  clear hsb
  have k0 := HO3.out.1 0 _ rfl
  have HZ3 := Lib.hid hz3
  clear hz3
  go_wp2_with (fail)
  clear k0
  go_loopw [20] (fun i wr => ∃ j : Nat, i = .int .i64 j ∧ j ≤ n ∧ Hid (Own wr sb (scl (.slice a1 n cap1) (.slice none 0 0) [] (cntN (muB cv' []) j) mb)) ∧ Hid (ModelAt wr mb mm (sb + 1) []) ∧ Hid (CallsAt wr C n (.slice a1 n cap1) cv' nm') ∧ Hid (Below w.heap.size w wr)) (fun i _ => n - (intOf i).toNat)
  case atStart => exact ⟨0, rfl, Nat.zero_le _, HO3, HMD3, HC3, HB3⟩
  case round =>
    obtain ⟨j, rfl, hj, HO, HM, HC, HB⟩ := hrel
    obtain ⟨wo, rfl⟩ : ∃ z : World, z = wr := ⟨_, rfl⟩
    have hzo := HM.out.lt3
    by_cases hlt : j < n
    rotate_left
    · have d1 : decide (j < n) = false := decide_eq_false hlt
      have d2 : decide ((j : Int) < (n : Int)) = false := decide_eq_false (by omega)
      obtain rfl : j = n := by omega
      have HFI := Lib.hid (find_any C j _ cv' nm' sb mb mm (sb + 1) hn j [] wo ⟨by omega, by omega, by omega, HM.out, ⟨_, HO.out, Row.nil⟩, HC.out⟩ Gd.nil (cntN_le _ _))
      go_wp2_with (fail)
      refine HFI.out.mono ?_
      rintro e w5 ⟨p, bb, rfl, hst, hfr, hres⟩
      have hB5 : Below w.heap.size w w5 := HB.out.trans ((hfr.below hmmb (by omega) (by omega) (by omega)).mono (by omega))
      have HB5 := Lib.hid hB5
      rcases hres with ⟨rfl, hres⟩ | ⟨rfl, hres, rfl⟩
      · obtain ⟨ov, hos, hro⟩ := hst.ov
        obtain ⟨a5, c5, hv5, _⟩ := hro.form
        subst hv5
        have k1 := hos.1 1 _ rfl
        have HSL := Lib.hid hro.sl
        have HRES := Lib.hid (HSIM.out.symm.trans hres)
        clear hos hro hst hfr hres hB5
        go_wp2_with (fail)
        go_ret2
        exact ⟨HB5.out, .inr ⟨p, _, HRES.out, rfl, HSL.out⟩⟩
      · have HRES := Lib.hid (HSIM.out.symm.trans hres)
        clear hst hfr hres hB5
        go_wp2_with (fail)
        go_ret2
        exact ⟨HB5.out, .inl ⟨HRES.out, rfl⟩⟩
    have d1 : decide (j < n) = true := decide_eq_true hlt
    have d2 : decide ((j : Int) < (n : Int)) = true := decide_eq_true (by omega)
    have q1 : IntKind.i64.wrap ((j : Int) + 1) = (j : Int) + 1 := IntWalk.i64_in _ (by omega)
    have hbi : (j : Int) < (n : Int) := by omega
    obtain ⟨b, off, hab, hk0⟩ := sl_cells HC.out.sl (by omega)
    subst hab
    obtain ⟨c0, c1, c2, c3, c4, c5⟩ := call_cells HC.out.sl hlt
    clear hk0
    obtain ⟨w4, hw4⟩ : ∃ z : World, z = wo.alloc (.cells #[.int .i64 (cv' j).kind, .string (cv' j).name, .bool (cv' j).told, .slice (cv' j).na (cv' j).nn (cv' j).nc, .int .i64 (cv' j).beg, .int .i64 (cv' j).fin] 32) := ⟨_, rfl⟩
    have hb4 : Below wo.heap.size wo w4 := by rw [hw4]; exact (Below.refl _ _).alloc (Nat.le_refl _) _
    have HCB4 : Hid (CBlk w4 wo.heap.size (cv' j)) := Lib.hid (by rw [hw4]; exact CBlk.new wo (cv' j))
    have HO4 := Lib.hid (HO.out.below hb4 (by omega))
    have HM4 := Lib.hid (HM.out.below hb4)
    have HC4 := Lib.hid (HC.out.below (hb4.mono (by omega)))
    have HB4 : Hid (Below w.heap.size w w4) := Lib.hid (HB.out.trans (hb4.mono HB.out.size))
    have HW4 := Lib.hid hw4
    have HMU := Lib.hid (must_any (cv' j))
    have HCN : Hid (cntN (muB cv' []) (j + 1) = cntN (muB cv' []) j + if decide (0 ≤ (cv' j).fin) then 1 else 0) := Lib.hid (by
      show cntN (muB cv' []) j + (if muB cv' [] j then 1 else 0) = _
      unfold muB
      simp)
    have hcn := cntN_le (muB cv' []) j
    obtain ⟨M, hM⟩ : ∃ m, cntN (muB cv' []) j = m := ⟨_, rfl⟩
    rw [hM] at HO4 HCN hcn
    obtain ⟨mu, hmu⟩ : ∃ b, decide (0 ≤ (cv' j).fin) = b := ⟨_, rfl⟩
    rw [hmu] at HMU HCN
    unfold CallV.agg at HMU
    clear hw4 hb4 HO HM HC HB hM hmu
    go_upto_region 7 with (fail)
    rw [← HW4.out]
    clear c0 c1 c2 c3 c4 c5
    obtain ⟨c0, c1, c2, c3, c4, c5⟩ := own_c HCB4.out.own
    go_wp2_with (fail)
    refine (HMU.out _).mono ?_
    rintro e w5 ⟨rfl, hb5⟩
    have HO5 := Lib.hid (HO4.out.below hb5 (by have := HM4.out.lt3; omega))
    have HM5 := Lib.hid (HM4.out.below hb5)
    have HC5 := Lib.hid (HC4.out.below (hb5.mono (by have := HM4.out.lt3; omega)))
    have HB5 : Hid (Below w.heap.size w w5) := Lib.hid (HB4.out.trans (hb5.mono HB4.out.size))
    clear hb5 c0 c1 c2 c3 c4 c5
    cases mu with
    | false =>
      have HO6 : Hid (Own w5 sb (scl (.slice (some ⟨b, off, none⟩) n cap1) (.slice none 0 0) [] (cntN (muB cv' []) (j + 1)) mb)) := Lib.hid (by rw [HCN.out]; exact HO5.out)
      go_wp2_with (fail)
      go_roundw
      case rel => exact ⟨j + 1, rfl, by omega, HO6, HM5, HC5, HB5⟩
      case measure => simp [intOf] <;> omega
    | true =>
      have k10 := HO5.out.1 10 _ scl_must
      have f10 := HO5.out.2 10
      have q2 : IntKind.i64.wrap ((M : Int) + 1) = (M : Int) + 1 := IntWalk.i64_in _ (by omega)
      have HO6 : Hid (Own (w5.setCell ⟨sb, 10, none⟩ (.int .i64 ((M : Int) + 1))) sb (scl (.slice (some ⟨b, off, none⟩) n cap1) (.slice none 0 0) [] (cntN (muB cv' []) (j + 1)) mb)) := Lib.hid (by
        rw [HCN.out]
        have := HO5.out.set 10 (.int .i64 ((M + 1 : Nat) : Int)) (by rw [scl_len]; omega)
        rw [scl_setM] at this
        exact this)
      have HM6 := Lib.hid (HM5.out.setC (c := sb) (by omega) (by omega) 10 (.int .i64 ((M : Int) + 1)))
      have hbs : Below sb w5 (w5.setCell ⟨sb, 10, none⟩ (.int .i64 ((M : Int) + 1))) := (Below.refl sb w5).setCell (p := ⟨sb, 10, none⟩) (Nat.le_refl _) _
      have HC6 := Lib.hid (HC5.out.below (hbs.mono (by omega)))
      have HB6 : Hid (Below w.heap.size w _) := Lib.hid (HB5.out.trans (hbs.mono (by omega)))
      clear hbs
      go_wp2_with (fail)
      go_roundw
      case rel => exact ⟨j + 1, rfl, by omega, HO6, HM6, HC6, HB6⟩
      case measure => simp [intOf] <;> omega
end Go.Proofs.YtmcbgjkogggneaaDoor
