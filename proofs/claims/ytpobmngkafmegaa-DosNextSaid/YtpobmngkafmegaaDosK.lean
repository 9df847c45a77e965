/- Contract of the page's Next. -/
import Derived.Test.YtpobmngkafmegaaDosJ
import Derived.Deep.Cut
namespace Go.Proofs.Ytpobmngkafmegaa
open Go.RowKit
theorem ok_head {N : Int} (h : okN N = true) : okN (N / 65536 * 65536) = true := by
  unfold okN at h ⊢
  have e := right_elim h
  rw [show N / 65536 * 65536 / 65536 = N / 65536 from by omega, show N / 65536 * 65536 % 65536 = 0 from by omega]
  exact right_mk (by omega)
set_option maxHeartbeats 2000000 in
theorem refNext_some (y m d h i s : Int) (w : World) (h0 : rightB y m d h i s = true) (D1 C1 : Int) (hD1 : 0 ≤ D1 ∧ D1 ≤ 65535) (hC1 : 0 ≤ C1 ∧ C1 ≤ 65535) (hok : okN (D1 * 65536 + C1) = true) (hlo : posN y m d h i s < D1 * 65536 + C1) (hgap : ∀ N, posN y m d h i s < N → N < D1 * 65536 + C1 → okN N = false) : Calls Try.prog 18 #[.agg #[.int .i64 y, .int .i64 m, .int .i64 d, .int .i64 h, .int .i64 i, .int .i64 s]] w fun e w' => e = .returned (.tuple #[.agg #[.int .i64 (1980 + (D1) / 512), .int .i64 ((D1) / 32 % 16), .int .i64 ((D1) % 32), .int .i64 ((C1) / 2048), .int .i64 ((C1) / 32 % 64), .int .i64 ((C1) % 32 * 2)], .bool true]) ∧ Below w.heap.size w w' := by
  have HE := Lib.hid (fun W => refEncode_any y m d h i s W h0)
  have hpe : posN y m d h i s = dateOf y m d * 65536 + clockOf h i s := rfl
  have e := right_elim h0
  have q := days_le y m
  have hd0 : 0 ≤ dateOf y m d := by unfold dateOf; omega
  have hd1 : dateOf y m d ≤ 65535 := by unfold dateOf; omega
  have hc0 : 0 ≤ clockOf h i s := by unfold clockOf; omega
  have hc1 : clockOf h i s ≤ 65535 := by unfold clockOf; omega
  have HG := Lib.hid hgap
  have HK := Lib.hid hok
  clear hok
  clear e q h0 hgap
  rw [hpe] at HG hlo
  clear hpe
  generalize dateOf y m d = D0 at *
  generalize clockOf h i s = C0 at *
  have HP := Lib.hid (Own.new_at (w.alloc (.cells #[.int .i64 y, .int .i64 m, .int .i64 d, .int .i64 h, .int .i64 i, .int .i64 s] 23)) [.int .i64 0, .int .i64 0, .int .i64 0, .int .i64 0, .int .i64 0, .int .i64 0] 23 (w.heap.size + 1) (by simp))
  go_enter Try.func18, Try.ntmps18
  go_wp2_with fail
  refine (HE.out _).mono ?_
  rintro e w1 ⟨rfl, hb⟩
  have hs := hb.size
  simp only [World.size_alloc] at hs
  have HP := Lib.hid (HP.out.below hb (by simp))
  have HB := Lib.hid ((((Below.refl _ _).alloc (Nat.le_refl _) _).alloc (by simp) _).trans (hb.mono (by simp; omega)) : Below w.heap.size w w1)
  have hlt : w.heap.size + 1 < w1.heap.size := by omega
  clear hb hs
  go_wp2
  go_loopw [4, 5] (fun t u wr => ∃ D C : Int, t = .int .i64 D ∧ u = .int .i64 C ∧ 0 ≤ D ∧ D ≤ 65535 ∧ 0 ≤ C ∧ C ≤ 65535 ∧ D0 * 65536 + C0 ≤ D * 65536 + C ∧ D * 65536 + C < D1 * 65536 + C1 ∧ w.heap.size + 1 < wr.heap.size ∧ Hid (Own wr (w.heap.size + 1) [.int .i64 0, .int .i64 0, .int .i64 0, .int .i64 0, .int .i64 0, .int .i64 0]) ∧ Hid (Below w.heap.size w wr)) (fun t u _ => (4295032832 - (intOf t * 65536 + intOf u)).toNat)
  case atStart => exact ⟨D0, C0, rfl, rfl, by omega, by omega, by omega, by omega, by omega, by omega, hlt, HP, HB⟩
  case round =>
    clear HP HB hlt
    obtain ⟨D, C, rfl, rfl, g1, g2, g3, g4, g5, g6, hlt, HP, HB⟩ := hrel
    by_cases hC : C < 65535
    · have t1 : decide (65535 < C + 1) = false := by simp; omega
      by_cases hN : D * 65536 + (C + 1) = D1 * 65536 + C1
      · obtain rfl : D = D1 := by omega
        obtain rfl : C1 = C + 1 := by omega
        have HD := Lib.hid (fun W => refDecode_yes D (C + 1) W (by omega) (by omega) (by omega) (by omega) (by have := HK.out; unfold okN at this; rw [show (D * 65536 + (C + 1)) / 65536 = D from by omega, show (D * 65536 + (C + 1)) % 65536 = (C + 1) from by omega] at this; exact this))
        clear hN
        go_wp2_with fail
        refine (HD.out _).mono ?_
        rintro e w2 ⟨rfl, hb⟩
        have hs := hb.size
        have HP := Lib.hid (HP.out.below hb (by omega))
        have HB := Lib.hid (HB.out.trans (hb.mono (by omega)))
        have hlt' : w.heap.size + 1 < w2.heap.size := by omega
        clear hb hs hlt
        have hlt := hlt'
        clear hlt'
        go_upto_region 8 with (fail)
        have HX := Lib.hid (Cells.new w2 [.int .i64 (1980 + (D) / 512), .int .i64 ((D) / 32 % 16), .int .i64 ((D) % 32), .int .i64 ((C + 1) / 2048), .int .i64 ((C + 1) / 32 % 64), .int .i64 ((C + 1) % 32 * 2)] 23)
        have HP := Lib.hid (HP.out.below ((Below.refl _ _).alloc (Nat.le_refl _) (.cells #[.int .i64 (1980 + (D) / 512), .int .i64 ((D) / 32 % 16), .int .i64 ((D) % 32), .int .i64 ((C + 1) / 2048), .int .i64 ((C + 1) / 32 % 64), .int .i64 ((C + 1) % 32 * 2)] 23)) (by omega))
        have HB := Lib.hid (HB.out.alloc (by omega) (.cells #[.int .i64 (1980 + (D) / 512), .int .i64 ((D) / 32 % 16), .int .i64 ((D) % 32), .int .i64 ((C + 1) / 2048), .int .i64 ((C + 1) / 32 % 64), .int .i64 ((C + 1) % 32 * 2)] 23))
        have hlt' : w.heap.size + 1 < (w2.alloc (.cells #[.int .i64 (1980 + (D) / 512), .int .i64 ((D) / 32 % 16), .int .i64 ((D) % 32), .int .i64 ((C + 1) / 2048), .int .i64 ((C + 1) / 32 % 64), .int .i64 ((C + 1) % 32 * 2)] 23)).heap.size := by simp; omega
        clear hlt
        have hlt := hlt'
        clear hlt'
        have hb2 : w2.heap.size < (w2.alloc (.cells #[.int .i64 (1980 + (D) / 512), .int .i64 ((D) / 32 % 16), .int .i64 ((D) % 32), .int .i64 ((C + 1) / 2048), .int .i64 ((C + 1) / 32 % 64), .int .i64 ((C + 1) % 32 * 2)] 23)).heap.size := by simp
        generalize w2.heap.size = b2 at *
        generalize w2.alloc (.cells #[.int .i64 (1980 + (D) / 512), .int .i64 ((D) / 32 % 16), .int .i64 ((D) % 32), .int .i64 ((C + 1) / 2048), .int .i64 ((C + 1) / 32 % 64), .int .i64 ((C + 1) % 32 * 2)] 23) = w3 at *
        have k0 := HX.out 0 _ rfl
        have k1 := HX.out 1 _ rfl
        have k2 := HX.out 2 _ rfl
        have k3 := HX.out 3 _ rfl
        have k4 := HX.out 4 _ rfl
        have k5 := HX.out 5 _ rfl
        have z0 := HP.out.1 0 _ rfl
        have z1 := HP.out.1 1 _ rfl
        have z2 := HP.out.1 2 _ rfl
        have z3 := HP.out.1 3 _ rfl
        have z4 := HP.out.1 4 _ rfl
        have z5 := HP.out.1 5 _ rfl
        have hg := HP.out.2
        go_wp2
        refine bodyPost_ret (v := .tuple #[.agg #[.int .i64 (1980 + (D) / 512), .int .i64 ((D) / 32 % 16), .int .i64 ((D) % 32), .int .i64 ((C + 1) / 2048), .int .i64 ((C + 1) / 32 % 64), .int .i64 ((C + 1) % 32 * 2)], .bool true]) (by simp [results, Try.results18, go_sem, z0, z1, z2, z3, z4, z5]) rfl ⟨rfl, ?_⟩
        exact ((((((HB.out).setCell (by simp) _).setCell (by simp) _).setCell (by simp) _).setCell (by simp) _).setCell (by simp) _).setCell (by simp) _
      · have HD := Lib.hid (fun W => refDecode_no D (C + 1) W (by omega) (by omega) (by omega) (by omega) (by have := HG.out (D * 65536 + (C + 1)) (by omega) (by omega); unfold okN at this; rw [show (D * 65536 + (C + 1)) / 65536 = D from by omega, show (D * 65536 + (C + 1)) % 65536 = (C + 1) from by omega] at this; exact this))
        have t2 : (C + 1 == 0) = false := by simp; omega
        have hN' : D * 65536 + (C + 1) < D1 * 65536 + C1 := by omega
        clear hN
        go_wp2_with fail
        refine (HD.out _).mono ?_
        rintro e w2 ⟨rfl, hb⟩
        have hs := hb.size
        have HP := Lib.hid (HP.out.below hb (by omega))
        have HB := Lib.hid (HB.out.trans (hb.mono (by omega)))
        have hlt' : w.heap.size + 1 < w2.heap.size := by omega
        clear hb hs hlt
        have hlt := hlt'
        clear hlt'
        go_wp2
        have HP := Lib.hid (HP.out.below ((Below.refl _ _).alloc (Nat.le_refl _) (.cells #[.int .i64 0, .int .i64 0, .int .i64 0, .int .i64 0, .int .i64 0, .int .i64 0] 23)) (by omega))
        have HB := Lib.hid (HB.out.alloc (by omega) (.cells #[.int .i64 0, .int .i64 0, .int .i64 0, .int .i64 0, .int .i64 0, .int .i64 0] 23))
        have hlt' : w.heap.size + 1 < (w2.alloc (.cells #[.int .i64 0, .int .i64 0, .int .i64 0, .int .i64 0, .int .i64 0, .int .i64 0] 23)).heap.size := by simp; omega
        clear hlt
        have hlt := hlt'
        clear hlt'
        go_roundw
        case rel => exact ⟨D, C + 1, rfl, rfl, by omega, by omega, by omega, by omega, by omega, by omega, hlt, HP, HB⟩
        case measure => simp [intOf]; omega
    · obtain rfl : C = 65535 := by omega
      clear hC
      by_cases hN : (D + 1) * 65536 + 0 = D1 * 65536 + C1
      · obtain rfl : D1 = D + 1 := by omega
        obtain rfl : C1 = 0 := by omega
        have HD := Lib.hid (fun W => refDecode_yes (D + 1) 0 W (by omega) (by omega) (by omega) (by omega) (by have := HK.out; unfold okN at this; rw [show ((D + 1) * 65536 + 0) / 65536 = (D + 1) from by omega, show ((D + 1) * 65536 + 0) % 65536 = 0 from by omega] at this; exact this))
        have t3 : decide (D + 1 < 65536) = true := by simp; omega
        clear hN
        go_wp2_with fail
        refine (HD.out _).mono ?_
        rintro e w2 ⟨rfl, hb⟩
        have hs := hb.size
        have HP := Lib.hid (HP.out.below hb (by omega))
        have HB := Lib.hid (HB.out.trans (hb.mono (by omega)))
        have hlt' : w.heap.size + 1 < w2.heap.size := by omega
        clear hb hs hlt
        have hlt := hlt'
        clear hlt'
        go_upto_region 8 with (fail)
        have HX := Lib.hid (Cells.new w2 [.int .i64 (1980 + (D + 1) / 512), .int .i64 ((D + 1) / 32 % 16), .int .i64 ((D + 1) % 32), .int .i64 0, .int .i64 0, .int .i64 0] 23)
        have HP := Lib.hid (HP.out.below ((Below.refl _ _).alloc (Nat.le_refl _) (.cells #[.int .i64 (1980 + (D + 1) / 512), .int .i64 ((D + 1) / 32 % 16), .int .i64 ((D + 1) % 32), .int .i64 0, .int .i64 0, .int .i64 0] 23)) (by omega))
        have HB := Lib.hid (HB.out.alloc (by omega) (.cells #[.int .i64 (1980 + (D + 1) / 512), .int .i64 ((D + 1) / 32 % 16), .int .i64 ((D + 1) % 32), .int .i64 0, .int .i64 0, .int .i64 0] 23))
        have hlt' : w.heap.size + 1 < (w2.alloc (.cells #[.int .i64 (1980 + (D + 1) / 512), .int .i64 ((D + 1) / 32 % 16), .int .i64 ((D + 1) % 32), .int .i64 0, .int .i64 0, .int .i64 0] 23)).heap.size := by simp; omega
        clear hlt
        have hlt := hlt'
        clear hlt'
        have hb2 : w2.heap.size < (w2.alloc (.cells #[.int .i64 (1980 + (D + 1) / 512), .int .i64 ((D + 1) / 32 % 16), .int .i64 ((D + 1) % 32), .int .i64 0, .int .i64 0, .int .i64 0] 23)).heap.size := by simp
        generalize w2.heap.size = b2 at *
        generalize w2.alloc (.cells #[.int .i64 (1980 + (D + 1) / 512), .int .i64 ((D + 1) / 32 % 16), .int .i64 ((D + 1) % 32), .int .i64 0, .int .i64 0, .int .i64 0] 23) = w3 at *
        have k0 := HX.out 0 _ rfl
        have k1 := HX.out 1 _ rfl
        have k2 := HX.out 2 _ rfl
        have k3 := HX.out 3 _ rfl
        have k4 := HX.out 4 _ rfl
        have k5 := HX.out 5 _ rfl
        have z0 := HP.out.1 0 _ rfl
        have z1 := HP.out.1 1 _ rfl
        have z2 := HP.out.1 2 _ rfl
        have z3 := HP.out.1 3 _ rfl
        have z4 := HP.out.1 4 _ rfl
        have z5 := HP.out.1 5 _ rfl
        have hg := HP.out.2
        go_wp2
        refine bodyPost_ret (v := .tuple #[.agg #[.int .i64 (1980 + (D + 1) / 512), .int .i64 ((D + 1) / 32 % 16), .int .i64 ((D + 1) % 32), .int .i64 0, .int .i64 0, .int .i64 0], .bool true]) (by simp [results, Try.results18, go_sem, z0, z1, z2, z3, z4, z5]) rfl ⟨rfl, ?_⟩
        exact ((((((HB.out).setCell (by simp) _).setCell (by simp) _).setCell (by simp) _).setCell (by simp) _).setCell (by simp) _).setCell (by simp) _
      · have HD := Lib.hid (fun W => refDecode_no (D + 1) 0 W (by omega) (by omega) (by omega) (by omega) (by have := HG.out ((D + 1) * 65536 + 0) (by omega) (by omega); unfold okN at this; rw [show ((D + 1) * 65536 + 0) / 65536 = (D + 1) from by omega, show ((D + 1) * 65536 + 0) % 65536 = 0 from by omega] at this; exact this))
        have hskip : (D + 1) * 65536 + 65535 < D1 * 65536 + C1 := by
          by_cases hx : (D + 1) * 65536 + 65535 < D1 * 65536 + C1
          · exact hx
          · have hq := ok_head HK.out
            rw [show (D1 * 65536 + C1) / 65536 = D + 1 from by omega] at hq
            have := HG.out ((D + 1) * 65536) (by omega) (by omega)
            rw [this] at hq
            cases hq
        clear hN
        go_wp2_with fail
        refine (HD.out _).mono ?_
        rintro e w2 ⟨rfl, hb⟩
        have hs := hb.size
        have HP := Lib.hid (HP.out.below hb (by omega))
        have HB := Lib.hid (HB.out.trans (hb.mono (by omega)))
        have hlt' : w.heap.size + 1 < w2.heap.size := by omega
        clear hb hs hlt
        have hlt := hlt'
        clear hlt'
        go_wp2_with fail
        have HP := Lib.hid (HP.out.below ((Below.refl _ _).alloc (Nat.le_refl _) (.cells #[.int .i64 0, .int .i64 0, .int .i64 0, .int .i64 0, .int .i64 0, .int .i64 0] 23)) (by omega))
        have HB := Lib.hid (HB.out.alloc (by omega) (.cells #[.int .i64 0, .int .i64 0, .int .i64 0, .int .i64 0, .int .i64 0, .int .i64 0] 23))
        have hlt' : w.heap.size + 1 < (w2.alloc (.cells #[.int .i64 0, .int .i64 0, .int .i64 0, .int .i64 0, .int .i64 0, .int .i64 0] 23)).heap.size := by simp; omega
        clear hlt
        have hlt := hlt'
        clear hlt'
        go_wp2_with fail
        refine (HD.out _).mono ?_
        rintro e w4 ⟨rfl, hb⟩
        have hs := hb.size
        have HP := Lib.hid (HP.out.below hb (by omega))
        have HB := Lib.hid (HB.out.trans (hb.mono (by omega)))
        have hlt' : w.heap.size + 1 < w4.heap.size := by omega
        clear hb hs hlt
        have hlt := hlt'
        clear hlt'
        go_wp2
        have HP := Lib.hid (HP.out.below ((Below.refl _ _).alloc (Nat.le_refl _) (.cells #[.int .i64 0, .int .i64 0, .int .i64 0, .int .i64 0, .int .i64 0, .int .i64 0] 23)) (by omega))
        have HB := Lib.hid (HB.out.alloc (by omega) (.cells #[.int .i64 0, .int .i64 0, .int .i64 0, .int .i64 0, .int .i64 0, .int .i64 0] 23))
        have hlt' : w.heap.size + 1 < (w4.alloc (.cells #[.int .i64 0, .int .i64 0, .int .i64 0, .int .i64 0, .int .i64 0, .int .i64 0] 23)).heap.size := by simp; omega
        clear hlt
        have hlt := hlt'
        clear hlt'
        go_roundw
        case rel => exact ⟨D + 1, 65535, rfl, rfl, by omega, by omega, by omega, by omega, by omega, by omega, hlt, HP, HB⟩
        case measure => simp [intOf]; omega
set_option maxHeartbeats 2000000 in
theorem refNext_none (y m d h i s : Int) (w : World) (h0 : rightB y m d h i s = true) (hgap : ∀ N, posN y m d h i s < N → N < 4295032832 → okN N = false) : Calls Try.prog 18 #[.agg #[.int .i64 y, .int .i64 m, .int .i64 d, .int .i64 h, .int .i64 i, .int .i64 s]] w fun e w' => e = .returned (.tuple #[.agg #[.int .i64 0, .int .i64 0, .int .i64 0, .int .i64 0, .int .i64 0, .int .i64 0], .bool false]) ∧ Below w.heap.size w w' := by
  have HE := Lib.hid (fun W => refEncode_any y m d h i s W h0)
  have hpe : posN y m d h i s = dateOf y m d * 65536 + clockOf h i s := rfl
  have e := right_elim h0
  have q := days_le y m
  have hd0 : 0 ≤ dateOf y m d := by unfold dateOf; omega
  have hd1 : dateOf y m d ≤ 65535 := by unfold dateOf; omega
  have hc0 : 0 ≤ clockOf h i s := by unfold clockOf; omega
  have hc1 : clockOf h i s ≤ 65535 := by unfold clockOf; omega
  have HG := Lib.hid hgap
  clear e q h0 hgap
  rw [hpe] at HG 
  clear hpe
  generalize dateOf y m d = D0 at *
  generalize clockOf h i s = C0 at *
  have HP := Lib.hid (Own.new_at (w.alloc (.cells #[.int .i64 y, .int .i64 m, .int .i64 d, .int .i64 h, .int .i64 i, .int .i64 s] 23)) [.int .i64 0, .int .i64 0, .int .i64 0, .int .i64 0, .int .i64 0, .int .i64 0] 23 (w.heap.size + 1) (by simp))
  go_enter Try.func18, Try.ntmps18
  go_wp2_with fail
  refine (HE.out _).mono ?_
  rintro e w1 ⟨rfl, hb⟩
  have hs := hb.size
  simp only [World.size_alloc] at hs
  have HP := Lib.hid (HP.out.below hb (by simp))
  have HB := Lib.hid ((((Below.refl _ _).alloc (Nat.le_refl _) _).alloc (by simp) _).trans (hb.mono (by simp; omega)) : Below w.heap.size w w1)
  have hlt : w.heap.size + 1 < w1.heap.size := by omega
  clear hb hs
  go_wp2
  go_loopw [4, 5] (fun t u wr => ∃ D C : Int, t = .int .i64 D ∧ u = .int .i64 C ∧ 0 ≤ D ∧ D ≤ 65536 ∧ 0 ≤ C ∧ C ≤ 65535 ∧ D0 * 65536 + C0 ≤ D * 65536 + C ∧ w.heap.size + 1 < wr.heap.size ∧ Hid (Own wr (w.heap.size + 1) [.int .i64 0, .int .i64 0, .int .i64 0, .int .i64 0, .int .i64 0, .int .i64 0]) ∧ Hid (Below w.heap.size w wr)) (fun t u _ => (4295032832 - (intOf t * 65536 + intOf u)).toNat)
  case atStart => exact ⟨D0, C0, rfl, rfl, by omega, by omega, by omega, by omega, by omega, hlt, HP, HB⟩
  case round =>
    clear HP HB hlt
    obtain ⟨D, C, rfl, rfl, g1, g2, g3, g4, g5, hlt, HP, HB⟩ := hrel
    by_cases hD : D < 65536
    · by_cases hC : C < 65535
      · have t1 : decide (65535 < C + 1) = false := by simp; omega
        have HD := Lib.hid (fun W => refDecode_no D (C + 1) W (by omega) (by omega) (by omega) (by omega) (by have := HG.out (D * 65536 + (C + 1)) (by omega) (by omega); unfold okN at this; rw [show (D * 65536 + (C + 1)) / 65536 = D from by omega, show (D * 65536 + (C + 1)) % 65536 = (C + 1) from by omega] at this; exact this))
        have t2 : (C + 1 == 0) = false := by simp; omega
        go_wp2_with fail
        refine (HD.out _).mono ?_
        rintro e w2 ⟨rfl, hb⟩
        have hs := hb.size
        have HP := Lib.hid (HP.out.below hb (by omega))
        have HB := Lib.hid (HB.out.trans (hb.mono (by omega)))
        have hlt' : w.heap.size + 1 < w2.heap.size := by omega
        clear hb hs hlt
        have hlt := hlt'
        clear hlt'
        go_wp2
        have HP := Lib.hid (HP.out.below ((Below.refl _ _).alloc (Nat.le_refl _) (.cells #[.int .i64 0, .int .i64 0, .int .i64 0, .int .i64 0, .int .i64 0, .int .i64 0] 23)) (by omega))
        have HB := Lib.hid (HB.out.alloc (by omega) (.cells #[.int .i64 0, .int .i64 0, .int .i64 0, .int .i64 0, .int .i64 0, .int .i64 0] 23))
        have hlt' : w.heap.size + 1 < (w2.alloc (.cells #[.int .i64 0, .int .i64 0, .int .i64 0, .int .i64 0, .int .i64 0, .int .i64 0] 23)).heap.size := by simp; omega
        clear hlt
        have hlt := hlt'
        clear hlt'
        go_roundw
        case rel => exact ⟨D, C + 1, rfl, rfl, by omega, by omega, by omega, by omega, by omega, hlt, HP, HB⟩
        case measure => simp [intOf]; omega
      · obtain rfl : C = 65535 := by omega
        clear hC
        have HD := Lib.hid (fun W => refDecode_no (D + 1) 0 W (by omega) (by omega) (by omega) (by omega) (by have := HG.out ((D + 1) * 65536 + 0) (by omega) (by omega); unfold okN at this; rw [show ((D + 1) * 65536 + 0) / 65536 = (D + 1) from by omega, show ((D + 1) * 65536 + 0) % 65536 = 0 from by omega] at this; exact this))
        go_wp2_with fail
        refine (HD.out _).mono ?_
        rintro e w2 ⟨rfl, hb⟩
        have hs := hb.size
        have HP := Lib.hid (HP.out.below hb (by omega))
        have HB := Lib.hid (HB.out.trans (hb.mono (by omega)))
        have hlt' : w.heap.size + 1 < w2.heap.size := by omega
        clear hb hs hlt
        have hlt := hlt'
        clear hlt'
        go_wp2_with fail
        have HP := Lib.hid (HP.out.below ((Below.refl _ _).alloc (Nat.le_refl _) (.cells #[.int .i64 0, .int .i64 0, .int .i64 0, .int .i64 0, .int .i64 0, .int .i64 0] 23)) (by omega))
        have HB := Lib.hid (HB.out.alloc (by omega) (.cells #[.int .i64 0, .int .i64 0, .int .i64 0, .int .i64 0, .int .i64 0, .int .i64 0] 23))
        have hlt' : w.heap.size + 1 < (w2.alloc (.cells #[.int .i64 0, .int .i64 0, .int .i64 0, .int .i64 0, .int .i64 0, .int .i64 0] 23)).heap.size := by simp; omega
        clear hlt
        have hlt := hlt'
        clear hlt'
        go_wp2_with fail
        refine (HD.out _).mono ?_
        rintro e w4 ⟨rfl, hb⟩
        have hs := hb.size
        have HP := Lib.hid (HP.out.below hb (by omega))
        have HB := Lib.hid (HB.out.trans (hb.mono (by omega)))
        have hlt' : w.heap.size + 1 < w4.heap.size := by omega
        clear hb hs hlt
        have hlt := hlt'
        clear hlt'
        go_wp2
        have HP := Lib.hid (HP.out.below ((Below.refl _ _).alloc (Nat.le_refl _) (.cells #[.int .i64 0, .int .i64 0, .int .i64 0, .int .i64 0, .int .i64 0, .int .i64 0] 23)) (by omega))
        have HB := Lib.hid (HB.out.alloc (by omega) (.cells #[.int .i64 0, .int .i64 0, .int .i64 0, .int .i64 0, .int .i64 0, .int .i64 0] 23))
        have hlt' : w.heap.size + 1 < (w4.alloc (.cells #[.int .i64 0, .int .i64 0, .int .i64 0, .int .i64 0, .int .i64 0, .int .i64 0] 23)).heap.size := by simp; omega
        clear hlt
        have hlt := hlt'
        clear hlt'
        go_roundw
        case rel => exact ⟨D + 1, 65535, rfl, rfl, by omega, by omega, by omega, by omega, by omega, hlt, HP, HB⟩
        case measure => simp [intOf]; omega
    · have t1 : decide (D < 65536) = false := by simp; omega
      have z0 := HP.out.1 0 _ rfl
      have z1 := HP.out.1 1 _ rfl
      have z2 := HP.out.1 2 _ rfl
      have z3 := HP.out.1 3 _ rfl
      have z4 := HP.out.1 4 _ rfl
      have z5 := HP.out.1 5 _ rfl
      have hg := HP.out.2
      go_wp2
      refine bodyPost_ret (v := .tuple #[.agg #[.int .i64 0, .int .i64 0, .int .i64 0, .int .i64 0, .int .i64 0, .int .i64 0], .bool false]) (by simp [results, Try.results18, go_sem, z0, z1, z2, z3, z4, z5]) rfl ⟨rfl, ?_⟩
      exact ((((((HB.out).setCell (by simp) _).setCell (by simp) _).setCell (by simp) _).setCell (by simp) _).setCell (by simp) _).setCell (by simp) _
end Go.Proofs.Ytpobmngkafmegaa
