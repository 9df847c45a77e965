/- The law DosNext. -/
import Derived.Test.YtpobmngkafmegaaDosK
import Derived.Test.YtpobmngkafmegaaDosH
namespace Go.Proofs.Ytpobmngkafmegaa
open Go.RowKit
set_option maxHeartbeats 2000000 in
theorem next_no (y m d h i s : Int) (w : World) (h0 : rightB y m d h i s = false) : Calls Try.prog 17 #[.agg #[.int .i64 y, .int .i64 m, .int .i64 d, .int .i64 h, .int .i64 i, .int .i64 s]] w fun e w' => e = .returned (.tuple #[.agg #[.int .i64 0, .int .i64 0, .int .i64 0, .int .i64 0, .int .i64 0, .int .i64 0], .int .i64 34]) ∧ Below w.heap.size w w' := by
  have HR := Lib.hid (fun W => right_any y m d h i s W)
  rw [h0] at HR
  clear h0
  go_enter Try.func17, Try.ntmps17
  go_wp2_with fail
  refine (HR.out _).mono ?_
  rintro e w1 ⟨rfl, hb⟩
  have hs := hb.size
  simp only [World.size_alloc] at hs
  have HP := Lib.hid ((Own.new_at (w.alloc (.cells #[.int .i64 y, .int .i64 m, .int .i64 d, .int .i64 h, .int .i64 i, .int .i64 s] 23)) [.int .i64 0, .int .i64 0, .int .i64 0, .int .i64 0, .int .i64 0, .int .i64 0] 23 (w.heap.size + 1) (by simp)).below hb (by simp))
  have HB := Lib.hid ((((Below.refl _ _).alloc (Nat.le_refl _) _).alloc (by simp) _).trans (hb.mono (by simp; omega)) : Below w.heap.size w w1)
  have hlt : w.heap.size + 1 < w1.heap.size := by omega
  clear hb hs
  have z0 := HP.out.1 0 _ rfl
  have z1 := HP.out.1 1 _ rfl
  have z2 := HP.out.1 2 _ rfl
  have z3 := HP.out.1 3 _ rfl
  have z4 := HP.out.1 4 _ rfl
  have z5 := HP.out.1 5 _ rfl
  have hg := HP.out.2
  go_wp2
  refine bodyPost_ret (v := .tuple #[.agg #[.int .i64 0, .int .i64 0, .int .i64 0, .int .i64 0, .int .i64 0, .int .i64 0], .int .i64 34]) (by simp [results, Try.results17, go_sem, z0, z1, z2, z3, z4, z5]) rfl ⟨rfl, ?_⟩
  exact ((((((HB.out).setCell (by simp) _).setCell (by simp) _).setCell (by simp) _).setCell (by simp) _).setCell (by simp) _).setCell (by simp) _
set_option maxHeartbeats 2000000 in
set_option maxRecDepth 100000 in
theorem dnext_no (y m d h i s : Int) (w : World) (h0 : rightB y m d h i s = false) : Calls Try.prog 5 #[.agg #[.int .i64 y, .int .i64 m, .int .i64 d, .int .i64 h, .int .i64 i, .int .i64 s]] w (orderQ w) := by
  have HN := Lib.hid (fun W => next_no y m d h i s W h0)
  have HR := Lib.hid (fun W => refRight_any y m d h i s W)
  rw [h0] at HR
  clear h0
  have HA := Lib.hid (Cells.new_at w [.int .i64 y, .int .i64 m, .int .i64 d, .int .i64 h, .int .i64 i, .int .i64 s] 23 w.heap.size rfl)
  have HZ : Hid (Below w.heap.size w (w.alloc (.cells [.int .i64 y, .int .i64 m, .int .i64 d, .int .i64 h, .int .i64 i, .int .i64 s].toArray 23))) := (Below.refl _ _).alloc (Nat.le_refl _) _
  go_enter Try.func5, Try.ntmps5
  go_wp2_with fail
  refine (awake_any _).mono ?_
  rintro e w1 ⟨rfl, hb⟩
  have hs := hb.size
  simp only [World.size_alloc] at hs
  have HA := Lib.hid (HA.out.below hb (by simp))
  have HZ := Lib.hid (HZ.out.trans (hb.mono (by simp)))
  have hz0 : w.heap.size ≤ w1.heap.size := by omega
  have hlA : w.heap.size < w1.heap.size := by omega
  clear hs hb
  have k0 := HA.out 0 _ rfl
  have k1 := HA.out 1 _ rfl
  have k2 := HA.out 2 _ rfl
  have k3 := HA.out 3 _ rfl
  have k4 := HA.out 4 _ rfl
  have k5 := HA.out 5 _ rfl
  go_wp2_with fail
  refine (HN.out _).mono ?_
  rintro e w2 ⟨rfl, hb⟩
  have hs := hb.size
  have HA := Lib.hid (HA.out.below hb (by omega))
  have hlA' := hlA
  clear hlA
  have hlA := Nat.lt_of_lt_of_le hlA' hb.size
  clear hlA'
  have HZ := Lib.hid (HZ.out.trans (hb.mono (by omega)))
  have hz : w.heap.size ≤ w2.heap.size := by omega
  clear hb hs hz0
  have hz0 := hz
  clear hz
  clear k0 k1 k2 k3 k4 k5
  have k0 := HA.out 0 _ rfl
  have k1 := HA.out 1 _ rfl
  have k2 := HA.out 2 _ rfl
  have k3 := HA.out 3 _ rfl
  have k4 := HA.out 4 _ rfl
  have k5 := HA.out 5 _ rfl
  go_wp2_with fail
  refine (HR.out _).mono ?_
  rintro e w3 ⟨rfl, hb⟩
  have hs := hb.size
  simp only [World.size_alloc] at hs
  have HX := Lib.hid ((Cells.new_at w2 [.int .i64 0, .int .i64 0, .int .i64 0, .int .i64 0, .int .i64 0, .int .i64 0] 23 w2.heap.size rfl).below hb (by simp))
  have hb := ((Below.refl w2.heap.size w2).alloc (Nat.le_refl _) (.cells [.int .i64 0, .int .i64 0, .int .i64 0, .int .i64 0, .int .i64 0, .int .i64 0].toArray 23)).trans (hb.mono (by simp))
  have hlX : w2.heap.size < w3.heap.size := by omega
  have HA := Lib.hid (HA.out.below hb (by omega))
  have hlA' := hlA
  clear hlA
  have hlA := Nat.lt_of_lt_of_le hlA' hb.size
  clear hlA'
  have HZ := Lib.hid (HZ.out.trans (hb.mono (by omega)))
  have hz : w.heap.size ≤ w3.heap.size := by omega
  clear hb hs hz0
  have hz0 := hz
  clear hz
  clear k0 k1 k2 k3 k4 k5
  have x0 := HX.out 0 _ rfl
  have x1 := HX.out 1 _ rfl
  have x2 := HX.out 2 _ rfl
  have x3 := HX.out 3 _ rfl
  have x4 := HX.out 4 _ rfl
  have x5 := HX.out 5 _ rfl
  go_wp2
  go_ret
  exact ⟨rfl, HZ.out⟩
set_option maxHeartbeats 2000000 in
set_option maxRecDepth 100000 in
theorem dnext_none (y m d h i s : Int) (w : World) (h0 : rightB y m d h i s = true) (hN : ∀ W, Calls Try.prog 17 #[.agg #[.int .i64 y, .int .i64 m, .int .i64 d, .int .i64 h, .int .i64 i, .int .i64 s]] W fun e w' => e = .returned (.tuple #[.agg #[.int .i64 0, .int .i64 0, .int .i64 0, .int .i64 0, .int .i64 0, .int .i64 0], .int .i64 34]) ∧ Below W.heap.size W w') (hM : ∀ W, Calls Try.prog 18 #[.agg #[.int .i64 y, .int .i64 m, .int .i64 d, .int .i64 h, .int .i64 i, .int .i64 s]] W fun e w' => e = .returned (.tuple #[.agg #[.int .i64 0, .int .i64 0, .int .i64 0, .int .i64 0, .int .i64 0, .int .i64 0], .bool false]) ∧ Below W.heap.size W w') : Calls Try.prog 5 #[.agg #[.int .i64 y, .int .i64 m, .int .i64 d, .int .i64 h, .int .i64 i, .int .i64 s]] w (orderQ w) := by
  have HN := Lib.hid hN
  have HM := Lib.hid hM
  have HR := Lib.hid (fun W => refRight_any y m d h i s W)
  rw [h0] at HR
  clear h0 hN hM
  have HA := Lib.hid (Cells.new_at w [.int .i64 y, .int .i64 m, .int .i64 d, .int .i64 h, .int .i64 i, .int .i64 s] 23 w.heap.size rfl)
  have HZ : Hid (Below w.heap.size w (w.alloc (.cells [.int .i64 y, .int .i64 m, .int .i64 d, .int .i64 h, .int .i64 i, .int .i64 s].toArray 23))) := (Below.refl _ _).alloc (Nat.le_refl _) _
  go_enter Try.func5, Try.ntmps5
  go_wp2_with fail
  refine (awake_any _).mono ?_
  rintro e w1 ⟨rfl, hb⟩
  have hs := hb.size
  simp only [World.size_alloc] at hs
  have HA := Lib.hid (HA.out.below hb (by simp))
  have HZ := Lib.hid (HZ.out.trans (hb.mono (by simp)))
  have hz0 : w.heap.size ≤ w1.heap.size := by omega
  have hlA : w.heap.size < w1.heap.size := by omega
  clear hs hb
  have k0 := HA.out 0 _ rfl
  have k1 := HA.out 1 _ rfl
  have k2 := HA.out 2 _ rfl
  have k3 := HA.out 3 _ rfl
  have k4 := HA.out 4 _ rfl
  have k5 := HA.out 5 _ rfl
  go_wp2_with fail
  refine (HN.out _).mono ?_
  rintro e w2 ⟨rfl, hb⟩
  have hs := hb.size
  have HA := Lib.hid (HA.out.below hb (by omega))
  have hlA' := hlA
  clear hlA
  have hlA := Nat.lt_of_lt_of_le hlA' hb.size
  clear hlA'
  have HZ := Lib.hid (HZ.out.trans (hb.mono (by omega)))
  have hz : w.heap.size ≤ w2.heap.size := by omega
  clear hb hs hz0
  have hz0 := hz
  clear hz
  clear k0 k1 k2 k3 k4 k5
  have k0 := HA.out 0 _ rfl
  have k1 := HA.out 1 _ rfl
  have k2 := HA.out 2 _ rfl
  have k3 := HA.out 3 _ rfl
  have k4 := HA.out 4 _ rfl
  have k5 := HA.out 5 _ rfl
  go_wp2_with fail
  refine (HR.out _).mono ?_
  rintro e w3 ⟨rfl, hb⟩
  have hs := hb.size
  simp only [World.size_alloc] at hs
  have HX := Lib.hid ((Cells.new_at w2 [.int .i64 0, .int .i64 0, .int .i64 0, .int .i64 0, .int .i64 0, .int .i64 0] 23 w2.heap.size rfl).below hb (by simp))
  have hb := ((Below.refl w2.heap.size w2).alloc (Nat.le_refl _) (.cells [.int .i64 0, .int .i64 0, .int .i64 0, .int .i64 0, .int .i64 0, .int .i64 0].toArray 23)).trans (hb.mono (by simp))
  have hlX : w2.heap.size < w3.heap.size := by omega
  have HA := Lib.hid (HA.out.below hb (by omega))
  have hlA' := hlA
  clear hlA
  have hlA := Nat.lt_of_lt_of_le hlA' hb.size
  clear hlA'
  have HZ := Lib.hid (HZ.out.trans (hb.mono (by omega)))
  have hz : w.heap.size ≤ w3.heap.size := by omega
  clear hb hs hz0
  have hz0 := hz
  clear hz
  clear k0 k1 k2 k3 k4 k5
  have k0 := HA.out 0 _ rfl
  have k1 := HA.out 1 _ rfl
  have k2 := HA.out 2 _ rfl
  have k3 := HA.out 3 _ rfl
  have k4 := HA.out 4 _ rfl
  have k5 := HA.out 5 _ rfl
  go_wp2_with fail
  refine (HM.out _).mono ?_
  rintro e w4 ⟨rfl, hb⟩
  have hs := hb.size
  have HA := Lib.hid (HA.out.below hb (by omega))
  have hlA' := hlA
  clear hlA
  have hlA := Nat.lt_of_lt_of_le hlA' hb.size
  clear hlA'
  have HX := Lib.hid (HX.out.below hb (by omega))
  have hlX' := hlX
  clear hlX
  have hlX := Nat.lt_of_lt_of_le hlX' hb.size
  clear hlX'
  have HZ := Lib.hid (HZ.out.trans (hb.mono (by omega)))
  have hz : w.heap.size ≤ w4.heap.size := by omega
  clear hb hs hz0
  have hz0 := hz
  clear hz
  clear k0 k1 k2 k3 k4 k5
  have hb4 := (Below.refl w4.heap.size w4).alloc (Nat.le_refl _) (.cells [.int .i64 0, .int .i64 0, .int .i64 0, .int .i64 0, .int .i64 0, .int .i64 0].toArray 23)
  have HX := Lib.hid (HX.out.below hb4 (by omega))
  have HZ := Lib.hid (HZ.out.trans (hb4.mono (by omega)))
  clear hb4
  go_upto_region 7 with (fail)
  generalize w4.alloc (.cells #[.int .i64 0, .int .i64 0, .int .i64 0, .int .i64 0, .int .i64 0, .int .i64 0] 23) = w5 at *
  have x0 := HX.out 0 _ rfl
  have x1 := HX.out 1 _ rfl
  have x2 := HX.out 2 _ rfl
  have x3 := HX.out 3 _ rfl
  have x4 := HX.out 4 _ rfl
  have x5 := HX.out 5 _ rfl
  go_wp2
  go_ret
  exact ⟨rfl, HZ.out⟩
set_option maxHeartbeats 2000000 in
set_option maxRecDepth 100000 in
theorem dnext_some (y m d h i s y1 m1 d1 h1 i1 s1 : Int) (w : World) (h0 : rightB y m d h i s = true) (hN : ∀ W, Calls Try.prog 17 #[.agg #[.int .i64 y, .int .i64 m, .int .i64 d, .int .i64 h, .int .i64 i, .int .i64 s]] W fun e w' => e = .returned (.tuple #[.agg #[.int .i64 y1, .int .i64 m1, .int .i64 d1, .int .i64 h1, .int .i64 i1, .int .i64 s1], .int .i64 0]) ∧ Below W.heap.size W w') (hM : ∀ W, Calls Try.prog 18 #[.agg #[.int .i64 y, .int .i64 m, .int .i64 d, .int .i64 h, .int .i64 i, .int .i64 s]] W fun e w' => e = .returned (.tuple #[.agg #[.int .i64 y1, .int .i64 m1, .int .i64 d1, .int .i64 h1, .int .i64 i1, .int .i64 s1], .bool true]) ∧ Below W.heap.size W w') (hc : cmpT y m d h i s y1 m1 d1 h1 i1 s1 = -1) (hc1 : cmpT y1 m1 d1 h1 i1 s1 y m d h i s = 1) : Calls Try.prog 5 #[.agg #[.int .i64 y, .int .i64 m, .int .i64 d, .int .i64 h, .int .i64 i, .int .i64 s]] w (orderQ w) := by
  have HN := Lib.hid hN
  have HM := Lib.hid hM
  have HR := Lib.hid (fun W => refRight_any y m d h i s W)
  rw [h0] at HR
  have HC := Lib.hid (fun W => compare_any y m d h i s y1 m1 d1 h1 i1 s1 W)
  have HC1 := Lib.hid (fun W => compare_any y1 m1 d1 h1 i1 s1 y m d h i s W)
  rw [hc] at HC
  rw [hc1] at HC1
  clear h0 hN hM hc hc1
  have HA := Lib.hid (Cells.new_at w [.int .i64 y, .int .i64 m, .int .i64 d, .int .i64 h, .int .i64 i, .int .i64 s] 23 w.heap.size rfl)
  have HZ : Hid (Below w.heap.size w (w.alloc (.cells [.int .i64 y, .int .i64 m, .int .i64 d, .int .i64 h, .int .i64 i, .int .i64 s].toArray 23))) := (Below.refl _ _).alloc (Nat.le_refl _) _
  go_enter Try.func5, Try.ntmps5
  go_wp2_with fail
  refine (awake_any _).mono ?_
  rintro e w1 ⟨rfl, hb⟩
  have hs := hb.size
  simp only [World.size_alloc] at hs
  have HA := Lib.hid (HA.out.below hb (by simp))
  have HZ := Lib.hid (HZ.out.trans (hb.mono (by simp)))
  have hz0 : w.heap.size ≤ w1.heap.size := by omega
  have hlA : w.heap.size < w1.heap.size := by omega
  clear hs hb
  have k0 := HA.out 0 _ rfl
  have k1 := HA.out 1 _ rfl
  have k2 := HA.out 2 _ rfl
  have k3 := HA.out 3 _ rfl
  have k4 := HA.out 4 _ rfl
  have k5 := HA.out 5 _ rfl
  go_wp2_with fail
  refine (HN.out _).mono ?_
  rintro e w2 ⟨rfl, hb⟩
  have hs := hb.size
  have HA := Lib.hid (HA.out.below hb (by omega))
  have hlA' := hlA
  clear hlA
  have hlA := Nat.lt_of_lt_of_le hlA' hb.size
  clear hlA'
  have HZ := Lib.hid (HZ.out.trans (hb.mono (by omega)))
  have hz : w.heap.size ≤ w2.heap.size := by omega
  clear hb hs hz0
  have hz0 := hz
  clear hz
  clear k0 k1 k2 k3 k4 k5
  have k0 := HA.out 0 _ rfl
  have k1 := HA.out 1 _ rfl
  have k2 := HA.out 2 _ rfl
  have k3 := HA.out 3 _ rfl
  have k4 := HA.out 4 _ rfl
  have k5 := HA.out 5 _ rfl
  go_wp2_with fail
  refine (HR.out _).mono ?_
  rintro e w3 ⟨rfl, hb⟩
  have hs := hb.size
  simp only [World.size_alloc] at hs
  have HX := Lib.hid ((Cells.new_at w2 [.int .i64 y1, .int .i64 m1, .int .i64 d1, .int .i64 h1, .int .i64 i1, .int .i64 s1] 23 w2.heap.size rfl).below hb (by simp))
  have hb := ((Below.refl w2.heap.size w2).alloc (Nat.le_refl _) (.cells [.int .i64 y1, .int .i64 m1, .int .i64 d1, .int .i64 h1, .int .i64 i1, .int .i64 s1].toArray 23)).trans (hb.mono (by simp))
  have hlX : w2.heap.size < w3.heap.size := by omega
  have HA := Lib.hid (HA.out.below hb (by omega))
  have hlA' := hlA
  clear hlA
  have hlA := Nat.lt_of_lt_of_le hlA' hb.size
  clear hlA'
  have HZ := Lib.hid (HZ.out.trans (hb.mono (by omega)))
  have hz : w.heap.size ≤ w3.heap.size := by omega
  clear hb hs hz0
  have hz0 := hz
  clear hz
  clear k0 k1 k2 k3 k4 k5
  have k0 := HA.out 0 _ rfl
  have k1 := HA.out 1 _ rfl
  have k2 := HA.out 2 _ rfl
  have k3 := HA.out 3 _ rfl
  have k4 := HA.out 4 _ rfl
  have k5 := HA.out 5 _ rfl
  go_wp2_with fail
  refine (HM.out _).mono ?_
  rintro e w4 ⟨rfl, hb⟩
  have hs := hb.size
  have HA := Lib.hid (HA.out.below hb (by omega))
  have hlA' := hlA
  clear hlA
  have hlA := Nat.lt_of_lt_of_le hlA' hb.size
  clear hlA'
  have HX := Lib.hid (HX.out.below hb (by omega))
  have hlX' := hlX
  clear hlX
  have hlX := Nat.lt_of_lt_of_le hlX' hb.size
  clear hlX'
  have HZ := Lib.hid (HZ.out.trans (hb.mono (by omega)))
  have hz : w.heap.size ≤ w4.heap.size := by omega
  clear hb hs hz0
  have hz0 := hz
  clear hz
  clear k0 k1 k2 k3 k4 k5
  have HY := Lib.hid (Cells.new_at w4 [.int .i64 y1, .int .i64 m1, .int .i64 d1, .int .i64 h1, .int .i64 i1, .int .i64 s1] 23 w4.heap.size rfl)
  have hlY : w4.heap.size < (w4.alloc (.cells [.int .i64 y1, .int .i64 m1, .int .i64 d1, .int .i64 h1, .int .i64 i1, .int .i64 s1].toArray 23)).heap.size := by simp
  have hb4 := (Below.refl w4.heap.size w4).alloc (Nat.le_refl _) (.cells [.int .i64 y1, .int .i64 m1, .int .i64 d1, .int .i64 h1, .int .i64 i1, .int .i64 s1].toArray 23)
  have HX := Lib.hid (HX.out.below hb4 (by omega))
  have HA := Lib.hid (HA.out.below hb4 (by omega))
  have HZ := Lib.hid (HZ.out.trans (hb4.mono (by omega)))
  have hs4 := hb4.size
  go_upto_region 7 with (fail)
  clear hb4
  generalize hw5 : w4.alloc (.cells #[.int .i64 y1, .int .i64 m1, .int .i64 d1, .int .i64 h1, .int .i64 i1, .int .i64 s1] 23) = w5 at *
  clear hw5
  have hz : w.heap.size ≤ w5.heap.size := by omega
  have hlA' : w.heap.size < w5.heap.size := by omega
  have hlX' : w2.heap.size < w5.heap.size := by omega
  clear hz0 hlA hlX hs4
  have hz0 := hz
  have hlA := hlA'
  have hlX := hlX'
  clear hz hlA' hlX'
  generalize w4.heap.size = b5 at *
  have k0 := HA.out 0 _ rfl
  have k1 := HA.out 1 _ rfl
  have k2 := HA.out 2 _ rfl
  have k3 := HA.out 3 _ rfl
  have k4 := HA.out 4 _ rfl
  have k5 := HA.out 5 _ rfl
  have x0 := HX.out 0 _ rfl
  have x1 := HX.out 1 _ rfl
  have x2 := HX.out 2 _ rfl
  have x3 := HX.out 3 _ rfl
  have x4 := HX.out 4 _ rfl
  have x5 := HX.out 5 _ rfl
  have u0 := HY.out 0 _ rfl
  have u1 := HY.out 1 _ rfl
  have u2 := HY.out 2 _ rfl
  have u3 := HY.out 3 _ rfl
  have u4 := HY.out 4 _ rfl
  have u5 := HY.out 5 _ rfl
  go_wp2_with fail
  refine (HC.out _).mono ?_
  rintro e w6 ⟨rfl, hb⟩
  have hs := hb.size
  have HA := Lib.hid (HA.out.below hb (by omega))
  have hlA' := hlA
  clear hlA
  have hlA := Nat.lt_of_lt_of_le hlA' hb.size
  clear hlA'
  have HX := Lib.hid (HX.out.below hb (by omega))
  have hlX' := hlX
  clear hlX
  have hlX := Nat.lt_of_lt_of_le hlX' hb.size
  clear hlX'
  have HZ := Lib.hid (HZ.out.trans (hb.mono (by omega)))
  have hz : w.heap.size ≤ w6.heap.size := by omega
  clear hb hs hz0
  have hz0 := hz
  clear hz
  clear k0 k1 k2 k3 k4 k5
  clear x0 x1 x2 x3 x4 x5
  clear u0 u1 u2 u3 u4 u5
  have k0 := HA.out 0 _ rfl
  have k1 := HA.out 1 _ rfl
  have k2 := HA.out 2 _ rfl
  have k3 := HA.out 3 _ rfl
  have k4 := HA.out 4 _ rfl
  have k5 := HA.out 5 _ rfl
  have x0 := HX.out 0 _ rfl
  have x1 := HX.out 1 _ rfl
  have x2 := HX.out 2 _ rfl
  have x3 := HX.out 3 _ rfl
  have x4 := HX.out 4 _ rfl
  have x5 := HX.out 5 _ rfl
  go_wp2_with fail
  refine (HC1.out _).mono ?_
  rintro e w7 ⟨rfl, hb⟩
  have hs := hb.size
  have HA := Lib.hid (HA.out.below hb (by omega))
  have hlA' := hlA
  clear hlA
  have hlA := Nat.lt_of_lt_of_le hlA' hb.size
  clear hlA'
  have HX := Lib.hid (HX.out.below hb (by omega))
  have hlX' := hlX
  clear hlX
  have hlX := Nat.lt_of_lt_of_le hlX' hb.size
  clear hlX'
  have HZ := Lib.hid (HZ.out.trans (hb.mono (by omega)))
  have hz : w.heap.size ≤ w7.heap.size := by omega
  clear hb hs hz0
  have hz0 := hz
  clear hz
  go_wp2
  go_ret
  exact ⟨rfl, HZ.out⟩
theorem refNext_to (y m d h i s y1 m1 d1 h1 i1 s1 : Int) (w : World) (h0 : rightB y m d h i s = true) (h1' : rightB y1 m1 d1 h1 i1 s1 = true) (hlt : posN y m d h i s < posN y1 m1 d1 h1 i1 s1) (hno : ∀ y2 m2 d2 h2 i2 s2, rightB y2 m2 d2 h2 i2 s2 = true → posN y m d h i s < posN y2 m2 d2 h2 i2 s2 → posN y2 m2 d2 h2 i2 s2 < posN y1 m1 d1 h1 i1 s1 → False) :
    Calls Try.prog 18 #[.agg #[.int .i64 y, .int .i64 m, .int .i64 d, .int .i64 h, .int .i64 i, .int .i64 s]] w fun e w' => e = .returned (.tuple #[.agg #[.int .i64 y1, .int .i64 m1, .int .i64 d1, .int .i64 h1, .int .i64 i1, .int .i64 s1], .bool true]) ∧ Below w.heap.size w w' := by
  have q0 := posN_ok h0
  have q1 := posN_ok h1'
  have e := right_elim h1'
  have q := days_le y1 m1
  have H := refNext_some y m d h i s w h0 (dateOf y1 m1 d1) (clockOf h1 i1 s1) (by unfold dateOf; omega) (by unfold clockOf; omega) q1.1 hlt (fun N hN hN1 => by
    cases hk : okN N with
    | false => rfl
    | true =>
      obtain ⟨y2, m2, d2, h2, i2, s2, hr, hp⟩ := okN_pos (by omega) hk
      exact (hno y2 m2 d2 h2 i2 s2 hr (by omega) (by rw [hp]; exact hN1)).elim)
  rw [show 1980 + dateOf y1 m1 d1 / 512 = y1 from by unfold dateOf; omega, show dateOf y1 m1 d1 / 32 % 16 = m1 from by unfold dateOf; omega, show dateOf y1 m1 d1 % 32 = d1 from by unfold dateOf; omega, show clockOf h1 i1 s1 / 2048 = h1 from by unfold clockOf; omega, show clockOf h1 i1 s1 / 32 % 64 = i1 from by unfold clockOf; omega, show clockOf h1 i1 s1 % 32 * 2 = s1 from by unfold clockOf; omega] at H
  exact H
theorem refNext_end (y m d h i s : Int) (w : World) (h0 : rightB y m d h i s = true) (hno : ∀ y2 m2 d2 h2 i2 s2, rightB y2 m2 d2 h2 i2 s2 = true → posN y m d h i s < posN y2 m2 d2 h2 i2 s2 → False) :
    Calls Try.prog 18 #[.agg #[.int .i64 y, .int .i64 m, .int .i64 d, .int .i64 h, .int .i64 i, .int .i64 s]] w fun e w' => e = .returned (.tuple #[.agg #[.int .i64 0, .int .i64 0, .int .i64 0, .int .i64 0, .int .i64 0, .int .i64 0], .bool false]) ∧ Below w.heap.size w w' := by
  have q0 := posN_ok h0
  refine refNext_none y m d h i s w h0 (fun N hN hN1 => ?_)
  cases hk : okN N with
  | false => rfl
  | true =>
    obtain ⟨y2, m2, d2, h2, i2, s2, hr, hp⟩ := okN_pos (by omega) hk
    exact (hno y2 m2 d2 h2 i2 s2 hr (by omega)).elim
theorem fnz_one : ∀ (l : List Int), (∀ x ∈ l, x = -1 ∨ x = 0 ∨ x = 1) → fnz l = -1 ∨ fnz l = 0 ∨ fnz l = 1
  | [], _ => .inr (.inl rfl)
  | x :: l, h => by
    unfold fnz
    split
    · exact fnz_one l fun z hz => h z (List.mem_cons_of_mem _ hz)
    · exact h x List.mem_cons_self
theorem sg_one (a b : Int) : sg a b = -1 ∨ sg a b = 0 ∨ sg a b = 1 := by unfold sg; split; omega; split <;> omega
theorem cmpT_one (y m d h i s y1 m1 d1 h1 i1 s1 : Int) : cmpT y m d h i s y1 m1 d1 h1 i1 s1 = -1 ∨ cmpT y m d h i s y1 m1 d1 h1 i1 s1 = 0 ∨ cmpT y m d h i s y1 m1 d1 h1 i1 s1 = 1 := by
  refine fnz_one _ fun x hx => ?_
  simp only [List.mem_cons, List.not_mem_nil, or_false] at hx
  rcases hx with rfl | rfl | rfl | rfl | rfl | rfl <;> exact sg_one _ _
theorem cmpT_lt {y m d h i s y1 m1 d1 h1 i1 s1 : Int} (h0 : rightB y m d h i s = true) (h1' : rightB y1 m1 d1 h1 i1 s1 = true) (hlt : posN y m d h i s < posN y1 m1 d1 h1 i1 s1) : cmpT y m d h i s y1 m1 d1 h1 i1 s1 = -1 ∧ cmpT y1 m1 d1 h1 i1 s1 y m d h i s = 1 := by
  have o1 := order_law y m d h i s y1 m1 d1 h1 i1 s1 h0 h1'
  have o2 := order_law y1 m1 d1 h1 i1 s1 y m d h i s h1' h0
  have c1 := cmpT_one y m d h i s y1 m1 d1 h1 i1 s1
  have c2 := cmpT_one y1 m1 d1 h1 i1 s1 y m d h i s
  unfold posN at hlt
  have e0 := right_elim h0
  have e1 := right_elim h1'
  have b1 := @clock_bd h i s (by omega)
  have b2 := @clock_bd h1 i1 s1 (by omega)
  generalize cmpT y m d h i s y1 m1 d1 h1 i1 s1 = X at *
  generalize cmpT y1 m1 d1 h1 i1 s1 y m d h i s = Y at *
  clear e0 e1 h0 h1'
  generalize dateOf y m d = D at *
  generalize dateOf y1 m1 d1 = D1 at *
  generalize clockOf h i s = C at *
  generalize clockOf h1 i1 s1 = C1 at *
  omega
theorem dnext_walk (y m d h i s : Int) (w : World) : Calls Try.prog 5 #[.agg #[.int .i64 y, .int .i64 m, .int .i64 d, .int .i64 h, .int .i64 i, .int .i64 s]] w fun e w' => e = .returned (.bool true) ∧ Below w.heap.size w w' := by
  cases h0 : rightB y m d h i s with
  | false => exact dnext_no y m d h i s w h0
  | true =>
    by_cases c0 : s + 2 < 60
    · obtain ⟨g1, g2, g3⟩ := gap_0 h0  c0
      obtain ⟨q1, q2⟩ := cmpT_lt h0 g1 g2
      exact dnext_some y m d h i s y m d h i (s + 2) w h0 (fun W => next_0 y m d h i s W h0  c0) (fun W => refNext_to _ _ _ _ _ _ _ _ _ _ _ _ W h0 g1 g2 g3) q1 q2
    by_cases c1 : i + 1 < 60
    · obtain ⟨g1, g2, g3⟩ := gap_1 h0 (by omega) c1
      obtain ⟨q1, q2⟩ := cmpT_lt h0 g1 g2
      exact dnext_some y m d h i s y m d h (i + 1) 0 w h0 (fun W => next_1 y m d h i s W h0 (by omega) c1) (fun W => refNext_to _ _ _ _ _ _ _ _ _ _ _ _ W h0 g1 g2 g3) q1 q2
    by_cases c2 : h + 1 < 24
    · obtain ⟨g1, g2, g3⟩ := gap_2 h0 (by omega) (by omega) c2
      obtain ⟨q1, q2⟩ := cmpT_lt h0 g1 g2
      exact dnext_some y m d h i s y m d (h + 1) 0 0 w h0 (fun W => next_2 y m d h i s W h0 (by omega) (by omega) c2) (fun W => refNext_to _ _ _ _ _ _ _ _ _ _ _ _ W h0 g1 g2 g3) q1 q2
    by_cases c3 : d + 1 ≤ days y m
    · obtain ⟨g1, g2, g3⟩ := gap_3 h0 (by omega) (by omega) (by omega) c3
      obtain ⟨q1, q2⟩ := cmpT_lt h0 g1 g2
      exact dnext_some y m d h i s y m (d + 1) 0 0 0 w h0 (fun W => next_3 y m d h i s W h0 (by omega) (by omega) (by omega) c3) (fun W => refNext_to _ _ _ _ _ _ _ _ _ _ _ _ W h0 g1 g2 g3) q1 q2
    by_cases c4 : m + 1 ≤ 12
    · obtain ⟨g1, g2, g3⟩ := gap_4 h0 (by omega) (by omega) (by omega) (by omega) c4
      obtain ⟨q1, q2⟩ := cmpT_lt h0 g1 g2
      exact dnext_some y m d h i s y (m + 1) 1 0 0 0 w h0 (fun W => next_4 y m d h i s W h0 (by omega) (by omega) (by omega) (by omega) c4) (fun W => refNext_to _ _ _ _ _ _ _ _ _ _ _ _ W h0 g1 g2 g3) q1 q2
    by_cases c5 : y + 1 ≤ 2107
    · obtain ⟨g1, g2, g3⟩ := gap_5 h0 (by omega) (by omega) (by omega) (by omega) (by omega) c5
      obtain ⟨q1, q2⟩ := cmpT_lt h0 g1 g2
      exact dnext_some y m d h i s (y + 1) 1 1 0 0 0 w h0 (fun W => next_5 y m d h i s W h0 (by omega) (by omega) (by omega) (by omega) (by omega) c5) (fun W => refNext_to _ _ _ _ _ _ _ _ _ _ _ _ W h0 g1 g2 g3) q1 q2
    exact dnext_none y m d h i s w h0 (fun W => next_6 y m d h i s W h0 (by omega) (by omega) (by omega) (by omega) (by omega) (by omega)) (fun W => refNext_end _ _ _ _ _ _ W h0 (gap_6 h0 (by omega) (by omega) (by omega) (by omega) (by omega) (by omega)))
end Go.Proofs.Ytpobmngkafmegaa
