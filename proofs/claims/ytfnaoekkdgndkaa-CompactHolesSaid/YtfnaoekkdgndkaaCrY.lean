/- The law CompactHoles, walked. -/
import Derived.Test.YtfnaoekkdgndkaaCpP
namespace Go.Proofs.Ytfnaoekkdgndkaa
set_option maxRecDepth 100000
set_option linter.unusedVariables false
set_option linter.unusedSimpArgs false
open Go.RowKit
set_option maxHeartbeats 16000000 in
theorem lawHoles_any (L : List (Nat × Nat × Nat)) (n tn : Nat) (v : Value) (l : List MvI) (m : Nat) (u : Value) (w : World) (h : Sl w w.heap.size 3 v n (lc gpC L)) (hL : n = L.length) (hG : ∀ x ∈ L, x.1 < 256 ∧ x.2.1 < 256 ∧ x.2.2 < 256) (htn : tn < 256) (hn : n ≤ maxLen) (h2 : Sl w w.heap.size 3 u m (lc mvI l)) (hm : m = l.length) :
    Calls Try.prog 5 #[v, .int .u8 (tn : Nat), u] w fun e w' => e = .returned (.bool true) ∧ Below w.heap.size w w' := by
  obtain ⟨a, cap, rfl, hcap⟩ := h.form
  obtain ⟨a9, cap9, rfl, hcap9⟩ := h2.form
  have HAW := Lib.hid (awake_any w)
  have HMA := Lib.hid (fun (W : World) (hW : Below w.heap.size w W) => made_any L n tn (.slice a n cap) W ((h.below hW).mono hW.size) hL hG htn hn)
  have HS2 := Lib.hid (fun (W : World) (hW : Below w.heap.size w W) => h2.below hW)
  have HM0 := Lib.hid hm
  obtain ⟨ls, hls⟩ : ∃ z, madeL (atG L) tn (min n 40) = z := ⟨_, rfl⟩
  have HWF : Hid (WF ls 3) := Lib.hid (by rw [← hls]; exact made_wf _ _ _)
  have HSUM : Hid (sumL ls 3 ≤ 1000) := Lib.hid (by rw [← hls]; exact Nat.le_trans (made_sum _ _ _) (by omega))
  have HBD : Hid (∀ o, o < 3 → BdS (ls o)) := Lib.hid (fun o _ => by rw [← hls]; exact (made_bd _ _ _ (by omega) o).join)
  rw [hls] at HMA
  clear hls h hL hG htn hn h2 hm
  go_enter Try.func5, Try.ntmps5
  go_wp2_with (fail)
  refine HAW.out.mono ?_
  rintro e w1 ⟨rfl, hb1⟩
  have HM1 := Lib.hid (HMA.out w1 hb1)
  have HB1 := Lib.hid hb1
  clear hb1 HAW HMA hcap
  by_cases h40 : 40 < m
  · have e1 : decide (40 < m) = true := decide_eq_true h40
    have e2 : decide ((40 : Int) < (m : Int)) = true := decide_eq_true (by omega)
    go_wp2_with (fail)
    go_ret
    exact ⟨by rfl, HB1.out⟩
  have e1 : decide (40 < m) = false := decide_eq_false h40
  have e2 : decide ((40 : Int) < (m : Int)) = false := decide_eq_false (by omega)
  go_wp2_with (fail)
  refine HM1.out.mono ?_
  rintro e w2 ⟨v1, v2, us, rfl, hch, hrow, hll, hb2⟩
  have HHO := Lib.hid (holes_any 3 ls v1 w2 hch HWF.out (by omega) HSUM.out HBD.out)
  obtain ⟨pps, hps, _⟩ := hch
  obtain ⟨a1, c1, rfl, _⟩ := hps.form
  rcases row_form hrow with ⟨_, h0, _⟩ | ⟨rb, rc, rfl, _, hrb, _⟩
  · omega
  have HR2 := Lib.hid hrow
  have HL2 := Lib.hid hll
  have HB2 := Lib.hid (HB1.out.trans (hb2.mono HB1.out.size))
  clear hps hrow hll hb2 HM1 hrb
  go_wp2_with (fail)
  refine HHO.out.mono ?_
  rintro e w3 ⟨rfl, hb3⟩
  have HRH := Lib.hid (refHoles_any 3 ls us (.slice (some ⟨rb, 0, none⟩) 3 rc) w3.heap.size w3 ((HR2.out.below hb3).sl) (Nat.le_refl _) (fun o ho => (HL2.out.below hb3).sl ho) HWF.out (by omega) HSUM.out HBD.out)
  have HB3 := Lib.hid (HB2.out.trans (hb3.mono HB2.out.size))
  obtain ⟨h1, hh1⟩ : ∃ z, (HoN (atP (pcs ls 3)) (sumL ls 3)).1 = z := ⟨_, rfl⟩
  obtain ⟨h2, hh2⟩ : ∃ z, (HoN (atP (pcs ls 3)) (sumL ls 3)).2.1 = z := ⟨_, rfl⟩
  rw [hh1, hh2]
  unfold Holes_p at HRH
  rw [hh1, hh2] at HRH
  clear hb3 HHO hh1 hh2
  go_wp2_with (fail)
  refine HRH.out.mono ?_
  rintro e w4 ⟨rfl, hb4⟩
  have HB4 := Lib.hid (HB3.out.trans (hb4.mono HB3.out.size))
  clear hb4 HRH
  go_wp2_with (fail)
  go_loopw [13, 14] (fun b i wr => ∃ (k : Nat) (bo : Bool), i = .int .i64 k ∧ k ≤ m ∧ b = .bool bo ∧ Hid (bo = true ↔ RightP l k) ∧ Hid (∀ j, j < k → (atM l j).f ≤ 1099511627776 ∧ (atM l j).t ≤ 1099511627776 ∧ (atM l j).l ≤ 1073741824) ∧ Hid (Below w.heap.size w wr)) (fun _ i _ => m - (intOf i).toNat)
  case atStart => exact ⟨0, true, rfl, Nat.zero_le _, rfl, Lib.hid ⟨fun _ => .zero l, fun _ => rfl⟩, Lib.hid (fun j hj => by omega), HB4⟩
  case round =>
    obtain ⟨k, bo, rfl, hk, rfl, HR, HSM, HB⟩ := hrel
    obtain ⟨wo, rfl⟩ : ∃ z : World, z = wr := ⟨_, rfl⟩
    by_cases hlt : k < m
    rotate_left
    · have d1 : decide (k < m) = false := decide_eq_false hlt
      have d2 : decide ((k : Int) < (m : Int)) = false := decide_eq_false (by omega)
      obtain rfl : k = m := by omega
      have e3 : ((h1 : Int) == (h1 : Int)) = true := by simp
      have e4 : ((h2 : Int) == (h2 : Int)) = true := by simp
      have e5 : (h1 == h1) = true := by simp
      have e6 : (h2 == h2) = true := by simp
      have HRI := Lib.hid (right_any l k (.slice a9 k cap9) w.heap.size wo (HS2.out wo HB.out) HB.out.size HM0.out (by omega) (fun i hi => by have := HSM.out i hi; omega))
      clear hlt
      go_wp2_with (fail)
      refine HRI.out.mono ?_
      rintro e w5 ⟨b2, rfl, hb2, hb5⟩
      obtain rfl : b2 = bo := Bool.eq_iff_iff.2 (hb2.trans HR.out.symm)
      have e7 : (b2 == b2) = true := by simp
      have HB5 := Lib.hid (HB.out.trans (hb5.mono HB.out.size))
      clear hb2 hb5
      go_wp2_with (fail)
      go_ret
      exact ⟨by rfl, HB5.out⟩
    have d1 : decide (k < m) = true := decide_eq_true hlt
    have d2 : decide ((k : Int) < (m : Int)) = true := decide_eq_true (by omega)
    have q1 : IntKind.i64.wrap ((k : Int) + 1) = (k : Int) + 1 := IntWalk.i64_in _ (by omega)
    have hbi : (k : Int) < (m : Int) := by omega
    obtain ⟨b, off, rfl, _⟩ := sl_cells (HS2.out wo HB.out) (by omega)
    obtain ⟨k0, k1, k2⟩ := mi_cells (HS2.out wo HB.out) HM0.out hlt
    obtain ⟨mk, hmk⟩ : ∃ z, atM l k = z := ⟨_, rfl⟩
    rw [hmk] at k0 k1 k2
    obtain ⟨f, t, g⟩ := mk
    have HMK := Lib.hid hmk
    clear hmk
    simp only at k0 k1 k2
    obtain ⟨wx, hwx⟩ : ∃ z : World, z = wo.alloc (.cells #[.int .i64 f, .int .i64 t, .int .i64 g] 38) := ⟨_, rfl⟩
    have hbx : Below wo.heap.size wo wx := by rw [hwx]; exact (Below.refl _ _).alloc (Nat.le_refl _) _
    have hox : Own wx wo.heap.size [.int .i64 f, .int .i64 t, .int .i64 g] := by rw [hwx]; exact Own.new_at wo _ _ _ rfl
    have HBX := Lib.hid (HB.out.trans (hbx.mono HB.out.size))
    have HOX := Lib.hid hox
    have z0 := hox.1 0 _ rfl
    have z1 := hox.1 1 _ rfl
    have z2 := hox.1 2 _ rfl
    have hzx : wo.heap.size < wx.heap.size := by rw [hwx]; simp
    clear hbx hox
    go_upto_region 13 with (fail)
    rw [← hwx]
    clear hwx k0 k1 k2
    by_cases b1 : 1099511627776 < f
    · have e_b1 : decide (1099511627776 < f) = true := decide_eq_true b1
      clear b1
      go_wp2_with (fail)
      go_ret
      exact ⟨by rfl, HBX.out⟩
    have e_b1 : decide (1099511627776 < f) = false := decide_eq_false b1
    by_cases b2 : 1099511627776 < t
    · have e_b2 : decide (1099511627776 < t) = true := decide_eq_true b2
      clear b2
      go_wp2_with (fail)
      go_ret
      exact ⟨by rfl, HBX.out⟩
    have e_b2 : decide (1099511627776 < t) = false := decide_eq_false b2
    by_cases b3 : 1073741824 < g
    · have e_b3 : decide (1073741824 < g) = true := decide_eq_true b3
      clear b3
      go_wp2_with (fail)
      go_ret
      exact ⟨by rfl, HBX.out⟩
    have e_b3 : decide (1073741824 < g) = false := decide_eq_false b3
    have HSQ : Hid (∀ j, j < k + 1 → (atM l j).f ≤ 1099511627776 ∧ (atM l j).t ≤ 1099511627776 ∧ (atM l j).l ≤ 1073741824) := Lib.hid (fun j hj => by
      by_cases e : j = k
      · subst e; rw [HMK.out]; exact ⟨by show f ≤ _; omega, by show t ≤ _; omega, by show g ≤ _; omega⟩
      · exact HSM.out j (by omega))
    clear b1 b2 b3 HSM
    cases k with
    | zero =>
      have d5 : decide ((0 : Int) < ((0 : Nat) : Int)) = false := rfl
      have d6 : decide (0 < 0) = false := rfl
      cases bo with
      | false => exact absurd (HR.out.2 (.zero l)) (by simp)
      | true =>
        by_cases c4 : 1 ≤ g
        rotate_left
        · have e4 : decide (1 ≤ g) = false := decide_eq_false c4
          have HNR : Hid (¬ RightP l (0 + 1)) := Lib.hid (fun hr => by have := (hr (0) (by omega)).1; rw [HMK.out] at this; unfold OkM at this; simp only at this; omega)
          clear c4
          go_wp2_with (fail)
          go_roundw
          case rel => exact ⟨0 + 1, false, rfl, hlt, rfl, Lib.hid ⟨(fun h => by cases h), fun h => absurd h HNR.out⟩, HSQ, HBX⟩
          case measure => simp [intOf] <;> omega
        have e4 : decide (1 ≤ g) = true := decide_eq_true c4
        by_cases c5 : 0 ≤ t
        rotate_left
        · have e5 : decide (0 ≤ t) = false := decide_eq_false c5
          have HNR : Hid (¬ RightP l (0 + 1)) := Lib.hid (fun hr => by have := (hr (0) (by omega)).1; rw [HMK.out] at this; unfold OkM at this; simp only at this; omega)
          clear c4 c5
          go_wp2_with (fail)
          go_roundw
          case rel => exact ⟨0 + 1, false, rfl, hlt, rfl, Lib.hid ⟨(fun h => by cases h), fun h => absurd h HNR.out⟩, HSQ, HBX⟩
          case measure => simp [intOf] <;> omega
        have e5 : decide (0 ≤ t) = true := decide_eq_true c5
        by_cases c6 : t < f
        rotate_left
        · have e6 : decide (t < f) = false := decide_eq_false c6
          have HNR : Hid (¬ RightP l (0 + 1)) := Lib.hid (fun hr => by have := (hr (0) (by omega)).1; rw [HMK.out] at this; unfold OkM at this; simp only at this; omega)
          clear c4 c5 c6
          go_wp2_with (fail)
          go_roundw
          case rel => exact ⟨0 + 1, false, rfl, hlt, rfl, Lib.hid ⟨(fun h => by cases h), fun h => absurd h HNR.out⟩, HSQ, HBX⟩
          case measure => simp [intOf] <;> omega
        have e6 : decide (t < f) = true := decide_eq_true c6
        have HOK : Hid (OkM (atM l (0))) := Lib.hid (by rw [HMK.out]; exact ⟨c4, c5, c6⟩)
        clear c4 c5 c6
        have HR2 : Hid (RightP l (0 + 1)) := Lib.hid (RightP.step (HR.out.1 rfl) HOK.out (.inl rfl))
        go_wp2_with (fail)
        go_roundw
        case rel => exact ⟨0 + 1, true, rfl, hlt, rfl, Lib.hid ⟨fun _ => HR2.out, fun _ => rfl⟩, HSQ, HBX⟩
        case measure => simp [intOf] <;> omega
    | succ p =>
      have d5 : decide ((0 : Int) < (p : Int) + 1) = true := decide_eq_true (by omega)
      have d6 : decide (0 < p + 1) = true := decide_eq_true (by omega)
      cases bo with
      | false =>
        have HNR : Hid (¬ RightP l (p + 1 + 1)) := Lib.hid (fun hr => absurd (HR.out.2 (fun i hi => hr i (by omega))) (by simp))
        go_wp2_with (fail)
        go_roundw
        case rel => exact ⟨p + 1 + 1, false, rfl, hlt, rfl, Lib.hid ⟨(fun h => by cases h), fun h => absurd h HNR.out⟩, HSQ, HBX⟩
        case measure => simp [intOf] <;> omega
      | true =>
        by_cases c4 : 1 ≤ g
        rotate_left
        · have e4 : decide (1 ≤ g) = false := decide_eq_false c4
          have HNR : Hid (¬ RightP l (p + 1 + 1)) := Lib.hid (fun hr => by have := (hr (p + 1) (by omega)).1; rw [HMK.out] at this; unfold OkM at this; simp only at this; omega)
          clear c4
          go_wp2_with (fail)
          go_roundw
          case rel => exact ⟨p + 1 + 1, false, rfl, hlt, rfl, Lib.hid ⟨(fun h => by cases h), fun h => absurd h HNR.out⟩, HSQ, HBX⟩
          case measure => simp [intOf] <;> omega
        have e4 : decide (1 ≤ g) = true := decide_eq_true c4
        by_cases c5 : 0 ≤ t
        rotate_left
        · have e5 : decide (0 ≤ t) = false := decide_eq_false c5
          have HNR : Hid (¬ RightP l (p + 1 + 1)) := Lib.hid (fun hr => by have := (hr (p + 1) (by omega)).1; rw [HMK.out] at this; unfold OkM at this; simp only at this; omega)
          clear c4 c5
          go_wp2_with (fail)
          go_roundw
          case rel => exact ⟨p + 1 + 1, false, rfl, hlt, rfl, Lib.hid ⟨(fun h => by cases h), fun h => absurd h HNR.out⟩, HSQ, HBX⟩
          case measure => simp [intOf] <;> omega
        have e5 : decide (0 ≤ t) = true := decide_eq_true c5
        by_cases c6 : t < f
        rotate_left
        · have e6 : decide (t < f) = false := decide_eq_false c6
          have HNR : Hid (¬ RightP l (p + 1 + 1)) := Lib.hid (fun hr => by have := (hr (p + 1) (by omega)).1; rw [HMK.out] at this; unfold OkM at this; simp only at this; omega)
          clear c4 c5 c6
          go_wp2_with (fail)
          go_roundw
          case rel => exact ⟨p + 1 + 1, false, rfl, hlt, rfl, Lib.hid ⟨(fun h => by cases h), fun h => absurd h HNR.out⟩, HSQ, HBX⟩
          case measure => simp [intOf] <;> omega
        have e6 : decide (t < f) = true := decide_eq_true c6
        have HOK : Hid (OkM (atM l (p + 1))) := Lib.hid (by rw [HMK.out]; exact ⟨c4, c5, c6⟩)
        clear c4 c5 c6
        obtain ⟨p0, p1, p2⟩ := mi_cells (HS2.out wx HBX.out) HM0.out (j := p) (by omega)
        have HOP := Lib.hid ((HR.out.1 rfl p (by omega)).1)
        obtain ⟨s1, s2, s3⟩ := HSQ.out p (by omega)
        have HST : Hid (StM (atM l p) (atM l (p + 1)) ↔ (atM l p).l ≤ t - (atM l p).t ∧ (atM l p).l ≤ f - (atM l p).f) := Lib.hid (by rw [HMK.out]; exact Iff.rfl)
        have ho := HOP.out
        generalize hy : atM l p = y at *
        have HYE := Lib.hid hy
        clear hy
        obtain ⟨yf, yt, yl⟩ := y
        simp only [OkM] at p0 p1 p2 s1 s2 s3 ho HST
        obtain ⟨ho1, ho2, ho3⟩ := ho
        have q3 : IntKind.i64.wrap ((p : Int) + 1 - 1) = (p : Int) := by rw [IntWalk.i64_in _ (by omega)]; omega
        have q4 : IntKind.i64.wrap (p : Int) = (p : Int) := IntWalk.i64_in _ (by omega)
        have q5 : IntKind.i64.wrap (yt + yl) = yt + yl := IntWalk.i64_in _ (by omega)
        have q6 : IntKind.i64.wrap (yf + yl) = yf + yl := IntWalk.i64_in _ (by omega)
        have hbp : p < m := by omega
        have hbp2 : (p : Int) < (m : Int) := by omega
        obtain ⟨wy, hwy⟩ : ∃ z : World, z = wx.alloc (.cells #[.int .i64 yf, .int .i64 yt, .int .i64 yl] 38) := ⟨_, rfl⟩
        have hby : Below wx.heap.size wx wy := by rw [hwy]; exact (Below.refl _ _).alloc (Nat.le_refl _) _
        have hoy : Own wy wx.heap.size [.int .i64 yf, .int .i64 yt, .int .i64 yl] := by rw [hwy]; exact Own.new_at wx _ _ _ rfl
        have HOY := Lib.hid (HOX.out.below hby hzx)
        have HBY := Lib.hid (HBX.out.trans (hby.mono HBX.out.size))
        go_upto_region 18 with (fail)
        rw [← hwy]
        clear hwy p0 p1 p2 z0 z1 z2 q3 q4
        have z0 := HOY.out.1 0 _ rfl
        have z1 := HOY.out.1 1 _ rfl
        have y0 := hoy.1 0 _ rfl
        have y1 := hoy.1 1 _ rfl
        have y2 := hoy.1 2 _ rfl
        clear hby hoy
        by_cases c7 : yt + yl ≤ t
        rotate_left
        · have e7 : decide (yt + yl ≤ t) = false := decide_eq_false c7
          have HNR : Hid (¬ RightP l (p + 1 + 1)) := Lib.hid (fun hr => (hr (p + 1) (by omega)).2.elim (fun h => by omega) (fun h => by have h2 := HST.out.1 (by rw [← HYE.out]; simpa using h); omega))
          clear c7
          go_wp2_with (fail)
          go_roundw
          case rel => exact ⟨p + 1 + 1, false, rfl, hlt, rfl, Lib.hid ⟨(fun h => by cases h), fun h => absurd h HNR.out⟩, HSQ, HBY⟩
          case measure => simp [intOf] <;> omega
        have e7 : decide (yt + yl ≤ t) = true := decide_eq_true c7
        by_cases c8 : yf + yl ≤ f
        rotate_left
        · have e8 : decide (yf + yl ≤ f) = false := decide_eq_false c8
          have HNR : Hid (¬ RightP l (p + 1 + 1)) := Lib.hid (fun hr => (hr (p + 1) (by omega)).2.elim (fun h => by omega) (fun h => by have h2 := HST.out.1 (by rw [← HYE.out]; simpa using h); omega))
          clear c7 c8
          go_wp2_with (fail)
          go_roundw
          case rel => exact ⟨p + 1 + 1, false, rfl, hlt, rfl, Lib.hid ⟨(fun h => by cases h), fun h => absurd h HNR.out⟩, HSQ, HBY⟩
          case measure => simp [intOf] <;> omega
        have e8 : decide (yf + yl ≤ f) = true := decide_eq_true c8
        have HR2 : Hid (RightP l (p + 1 + 1)) := Lib.hid (RightP.step (HR.out.1 rfl) HOK.out (.inr (by rw [Nat.add_sub_cancel, HYE.out]; exact HST.out.2 ⟨by omega, by omega⟩)))
        clear c7 c8
        go_wp2_with (fail)
        go_roundw
        case rel => exact ⟨p + 1 + 1, true, rfl, hlt, rfl, Lib.hid ⟨fun _ => HR2.out, fun _ => rfl⟩, HSQ, HBY⟩
        case measure => simp [intOf] <;> omega
end Go.Proofs.Ytfnaoekkdgndkaa
