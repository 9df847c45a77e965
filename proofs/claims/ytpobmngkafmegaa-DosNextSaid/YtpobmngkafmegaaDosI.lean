/- Contract of dos.Next. -/
import Derived.Test.YtpobmngkafmegaaDosD
import Derived.Deep.Cut
import Derived.Test.YtpobmngkafmegaaCells
namespace Go.Proofs.Ytpobmngkafmegaa
open Go.RowKit
set_option maxHeartbeats 2000000 in
theorem next_0 (y m d h i s : Int) (w : World) (h0 : rightB y m d h i s = true) (c0 : s + 2 < 60) : Calls Try.prog 17 #[.agg #[.int .i64 y, .int .i64 m, .int .i64 d, .int .i64 h, .int .i64 i, .int .i64 s]] w fun e w' => e = .returned (.tuple #[.agg #[.int .i64 y, .int .i64 m, .int .i64 d, .int .i64 h, .int .i64 i, .int .i64 (s + 2)], .int .i64 0]) ∧ Below w.heap.size w w' := by
  obtain ⟨a1, a2, a3, a4, a5, a6, a7, a8, a9, a10, a11, a12, a13⟩ := right_elim h0
  have hdl := days_le y m
  have HR := Lib.hid (fun W => right_any y m d h i s W)
  rw [h0] at HR
  clear h0 a13
  have e0 : decide (s + 2 < 60) = true := by simp; omega
  go_enter Try.func17, Try.ntmps17
  go_wp2_with fail
  refine (HR.out _).mono ?_
  rintro e w1 ⟨rfl, hb⟩
  have hs := hb.size
  simp only [World.size_alloc] at hs
  have HO := Lib.hid (((Own.new_at w [.int .i64 y, .int .i64 m, .int .i64 d, .int .i64 h, .int .i64 i, .int .i64 s] 23 w.heap.size rfl).below ((Below.refl _ _).alloc (Nat.le_refl _) _) (by simp)).below hb (by simp; omega))
  have HP := Lib.hid ((Own.new_at (w.alloc (.cells #[.int .i64 y, .int .i64 m, .int .i64 d, .int .i64 h, .int .i64 i, .int .i64 s] 23)) [.int .i64 0, .int .i64 0, .int .i64 0, .int .i64 0, .int .i64 0, .int .i64 0] 23 (w.heap.size + 1) (by simp)).below hb (by simp))
  have HB := Lib.hid ((((Below.refl _ _).alloc (Nat.le_refl _) _).alloc (by simp) _).trans (hb.mono (by simp; omega)) : Below w.heap.size w w1)
  have hlt : w.heap.size + 1 < w1.heap.size := by omega
  clear hb hs
  have k0 := HO.out.1 0 _ rfl
  have k1 := HO.out.1 1 _ rfl
  have k2 := HO.out.1 2 _ rfl
  have k3 := HO.out.1 3 _ rfl
  have k4 := HO.out.1 4 _ rfl
  have k5 := HO.out.1 5 _ rfl
  have hf := HO.out.2
  go_upto_region 4 with (fail)
  have HO := Lib.hid (HO.out.set 5 (.int .i64 (s + 2)) (by simp))
  have HP := Lib.hid (HP.out.other (c := w.heap.size) (by omega) 5 (.int .i64 (s + 2)))
  have HB := Lib.hid (HB.out.setCell (p := ⟨w.heap.size, 5, none⟩) (by simp) (.int .i64 (s + 2)))
  have hlt' : w.heap.size + 1 < (w1.setCell ⟨w.heap.size, 5, none⟩ (.int .i64 (s + 2))).heap.size := by simpa using hlt
  clear k0 k1 k2 k3 k4 k5 hf hlt
  have hlt := hlt'
  clear hlt'
  generalize w1.setCell ⟨w.heap.size, 5, none⟩ (.int .i64 (s + 2)) = w2 at *
  have k0 := HO.out.1 0 _ rfl
  have k1 := HO.out.1 1 _ rfl
  have k2 := HO.out.1 2 _ rfl
  have k3 := HO.out.1 3 _ rfl
  have k4 := HO.out.1 4 _ rfl
  have k5 := HO.out.1 5 _ rfl
  have hf := HO.out.2
  have z0 := HP.out.1 0 _ rfl
  have z1 := HP.out.1 1 _ rfl
  have z2 := HP.out.1 2 _ rfl
  have z3 := HP.out.1 3 _ rfl
  have z4 := HP.out.1 4 _ rfl
  have z5 := HP.out.1 5 _ rfl
  have hg := HP.out.2
  go_wp2
  refine bodyPost_ret (v := .tuple #[.agg #[.int .i64 y, .int .i64 m, .int .i64 d, .int .i64 h, .int .i64 i, .int .i64 (s + 2)], .int .i64 0]) (by simp [results, Try.results17, go_sem, z0, z1, z2, z3, z4, z5]) rfl ⟨rfl, ?_⟩
  exact ((((((HB.out).setCell (by simp) _).setCell (by simp) _).setCell (by simp) _).setCell (by simp) _).setCell (by simp) _).setCell (by simp) _
set_option maxHeartbeats 2000000 in
theorem next_1 (y m d h i s : Int) (w : World) (h0 : rightB y m d h i s = true) (n0 : 60 ≤ s + 2) (c1 : i + 1 < 60) : Calls Try.prog 17 #[.agg #[.int .i64 y, .int .i64 m, .int .i64 d, .int .i64 h, .int .i64 i, .int .i64 s]] w fun e w' => e = .returned (.tuple #[.agg #[.int .i64 y, .int .i64 m, .int .i64 d, .int .i64 h, .int .i64 (i + 1), .int .i64 0], .int .i64 0]) ∧ Below w.heap.size w w' := by
  obtain ⟨a1, a2, a3, a4, a5, a6, a7, a8, a9, a10, a11, a12, a13⟩ := right_elim h0
  have hdl := days_le y m
  have HR := Lib.hid (fun W => right_any y m d h i s W)
  rw [h0] at HR
  clear h0 a13
  have e0 : decide (s + 2 < 60) = false := by simp; omega
  have e1 : decide (i + 1 < 60) = true := by simp; omega
  go_enter Try.func17, Try.ntmps17
  go_wp2_with fail
  refine (HR.out _).mono ?_
  rintro e w1 ⟨rfl, hb⟩
  have hs := hb.size
  simp only [World.size_alloc] at hs
  have HO := Lib.hid (((Own.new_at w [.int .i64 y, .int .i64 m, .int .i64 d, .int .i64 h, .int .i64 i, .int .i64 s] 23 w.heap.size rfl).below ((Below.refl _ _).alloc (Nat.le_refl _) _) (by simp)).below hb (by simp; omega))
  have HP := Lib.hid ((Own.new_at (w.alloc (.cells #[.int .i64 y, .int .i64 m, .int .i64 d, .int .i64 h, .int .i64 i, .int .i64 s] 23)) [.int .i64 0, .int .i64 0, .int .i64 0, .int .i64 0, .int .i64 0, .int .i64 0] 23 (w.heap.size + 1) (by simp)).below hb (by simp))
  have HB := Lib.hid ((((Below.refl _ _).alloc (Nat.le_refl _) _).alloc (by simp) _).trans (hb.mono (by simp; omega)) : Below w.heap.size w w1)
  have hlt : w.heap.size + 1 < w1.heap.size := by omega
  clear hb hs
  have k0 := HO.out.1 0 _ rfl
  have k1 := HO.out.1 1 _ rfl
  have k2 := HO.out.1 2 _ rfl
  have k3 := HO.out.1 3 _ rfl
  have k4 := HO.out.1 4 _ rfl
  have k5 := HO.out.1 5 _ rfl
  have hf := HO.out.2
  go_upto_region 4 with (fail)
  have HO := Lib.hid (HO.out.set 5 (.int .i64 (s + 2)) (by simp))
  have HP := Lib.hid (HP.out.other (c := w.heap.size) (by omega) 5 (.int .i64 (s + 2)))
  have HB := Lib.hid (HB.out.setCell (p := ⟨w.heap.size, 5, none⟩) (by simp) (.int .i64 (s + 2)))
  have hlt' : w.heap.size + 1 < (w1.setCell ⟨w.heap.size, 5, none⟩ (.int .i64 (s + 2))).heap.size := by simpa using hlt
  clear k0 k1 k2 k3 k4 k5 hf hlt
  have hlt := hlt'
  clear hlt'
  generalize w1.setCell ⟨w.heap.size, 5, none⟩ (.int .i64 (s + 2)) = w2 at *
  have k0 := HO.out.1 0 _ rfl
  have k1 := HO.out.1 1 _ rfl
  have k2 := HO.out.1 2 _ rfl
  have k3 := HO.out.1 3 _ rfl
  have k4 := HO.out.1 4 _ rfl
  have k5 := HO.out.1 5 _ rfl
  have hf := HO.out.2
  go_upto_region 7 with (fail)
  have HO := Lib.hid (HO.out.set 5 (.int .i64 (0)) (by simp))
  have HP := Lib.hid (HP.out.other (c := w.heap.size) (by omega) 5 (.int .i64 (0)))
  have HB := Lib.hid (HB.out.setCell (p := ⟨w.heap.size, 5, none⟩) (by simp) (.int .i64 (0)))
  have hlt' : w.heap.size + 1 < (w2.setCell ⟨w.heap.size, 5, none⟩ (.int .i64 (0))).heap.size := by simpa using hlt
  clear k0 k1 k2 k3 k4 k5 hf hlt
  have hlt := hlt'
  clear hlt'
  generalize w2.setCell ⟨w.heap.size, 5, none⟩ (.int .i64 (0)) = w3 at *
  have k0 := HO.out.1 0 _ rfl
  have k1 := HO.out.1 1 _ rfl
  have k2 := HO.out.1 2 _ rfl
  have k3 := HO.out.1 3 _ rfl
  have k4 := HO.out.1 4 _ rfl
  have k5 := HO.out.1 5 _ rfl
  have hf := HO.out.2
  go_upto_region 8 with (fail)
  have HO := Lib.hid (HO.out.set 4 (.int .i64 (i + 1)) (by simp))
  have HP := Lib.hid (HP.out.other (c := w.heap.size) (by omega) 4 (.int .i64 (i + 1)))
  have HB := Lib.hid (HB.out.setCell (p := ⟨w.heap.size, 4, none⟩) (by simp) (.int .i64 (i + 1)))
  have hlt' : w.heap.size + 1 < (w3.setCell ⟨w.heap.size, 4, none⟩ (.int .i64 (i + 1))).heap.size := by simpa using hlt
  clear k0 k1 k2 k3 k4 k5 hf hlt
  have hlt := hlt'
  clear hlt'
  generalize w3.setCell ⟨w.heap.size, 4, none⟩ (.int .i64 (i + 1)) = w4 at *
  have k0 := HO.out.1 0 _ rfl
  have k1 := HO.out.1 1 _ rfl
  have k2 := HO.out.1 2 _ rfl
  have k3 := HO.out.1 3 _ rfl
  have k4 := HO.out.1 4 _ rfl
  have k5 := HO.out.1 5 _ rfl
  have hf := HO.out.2
  have z0 := HP.out.1 0 _ rfl
  have z1 := HP.out.1 1 _ rfl
  have z2 := HP.out.1 2 _ rfl
  have z3 := HP.out.1 3 _ rfl
  have z4 := HP.out.1 4 _ rfl
  have z5 := HP.out.1 5 _ rfl
  have hg := HP.out.2
  go_wp2
  refine bodyPost_ret (v := .tuple #[.agg #[.int .i64 y, .int .i64 m, .int .i64 d, .int .i64 h, .int .i64 (i + 1), .int .i64 0], .int .i64 0]) (by simp [results, Try.results17, go_sem, z0, z1, z2, z3, z4, z5]) rfl ⟨rfl, ?_⟩
  exact ((((((HB.out).setCell (by simp) _).setCell (by simp) _).setCell (by simp) _).setCell (by simp) _).setCell (by simp) _).setCell (by simp) _
set_option maxHeartbeats 2000000 in
theorem next_2 (y m d h i s : Int) (w : World) (h0 : rightB y m d h i s = true) (n0 : 60 ≤ s + 2) (n1 : 60 ≤ i + 1) (c2 : h + 1 < 24) : Calls Try.prog 17 #[.agg #[.int .i64 y, .int .i64 m, .int .i64 d, .int .i64 h, .int .i64 i, .int .i64 s]] w fun e w' => e = .returned (.tuple #[.agg #[.int .i64 y, .int .i64 m, .int .i64 d, .int .i64 (h + 1), .int .i64 0, .int .i64 0], .int .i64 0]) ∧ Below w.heap.size w w' := by
  obtain ⟨a1, a2, a3, a4, a5, a6, a7, a8, a9, a10, a11, a12, a13⟩ := right_elim h0
  have hdl := days_le y m
  have HR := Lib.hid (fun W => right_any y m d h i s W)
  rw [h0] at HR
  clear h0 a13
  have e0 : decide (s + 2 < 60) = false := by simp; omega
  have e1 : decide (i + 1 < 60) = false := by simp; omega
  have e2 : decide (h + 1 < 24) = true := by simp; omega
  go_enter Try.func17, Try.ntmps17
  go_wp2_with fail
  refine (HR.out _).mono ?_
  rintro e w1 ⟨rfl, hb⟩
  have hs := hb.size
  simp only [World.size_alloc] at hs
  have HO := Lib.hid (((Own.new_at w [.int .i64 y, .int .i64 m, .int .i64 d, .int .i64 h, .int .i64 i, .int .i64 s] 23 w.heap.size rfl).below ((Below.refl _ _).alloc (Nat.le_refl _) _) (by simp)).below hb (by simp; omega))
  have HP := Lib.hid ((Own.new_at (w.alloc (.cells #[.int .i64 y, .int .i64 m, .int .i64 d, .int .i64 h, .int .i64 i, .int .i64 s] 23)) [.int .i64 0, .int .i64 0, .int .i64 0, .int .i64 0, .int .i64 0, .int .i64 0] 23 (w.heap.size + 1) (by simp)).below hb (by simp))
  have HB := Lib.hid ((((Below.refl _ _).alloc (Nat.le_refl _) _).alloc (by simp) _).trans (hb.mono (by simp; omega)) : Below w.heap.size w w1)
  have hlt : w.heap.size + 1 < w1.heap.size := by omega
  clear hb hs
  have k0 := HO.out.1 0 _ rfl
  have k1 := HO.out.1 1 _ rfl
  have k2 := HO.out.1 2 _ rfl
  have k3 := HO.out.1 3 _ rfl
  have k4 := HO.out.1 4 _ rfl
  have k5 := HO.out.1 5 _ rfl
  have hf := HO.out.2
  go_upto_region 4 with (fail)
  have HO := Lib.hid (HO.out.set 5 (.int .i64 (s + 2)) (by simp))
  have HP := Lib.hid (HP.out.other (c := w.heap.size) (by omega) 5 (.int .i64 (s + 2)))
  have HB := Lib.hid (HB.out.setCell (p := ⟨w.heap.size, 5, none⟩) (by simp) (.int .i64 (s + 2)))
  have hlt' : w.heap.size + 1 < (w1.setCell ⟨w.heap.size, 5, none⟩ (.int .i64 (s + 2))).heap.size := by simpa using hlt
  clear k0 k1 k2 k3 k4 k5 hf hlt
  have hlt := hlt'
  clear hlt'
  generalize w1.setCell ⟨w.heap.size, 5, none⟩ (.int .i64 (s + 2)) = w2 at *
  have k0 := HO.out.1 0 _ rfl
  have k1 := HO.out.1 1 _ rfl
  have k2 := HO.out.1 2 _ rfl
  have k3 := HO.out.1 3 _ rfl
  have k4 := HO.out.1 4 _ rfl
  have k5 := HO.out.1 5 _ rfl
  have hf := HO.out.2
  go_upto_region 7 with (fail)
  have HO := Lib.hid (HO.out.set 5 (.int .i64 (0)) (by simp))
  have HP := Lib.hid (HP.out.other (c := w.heap.size) (by omega) 5 (.int .i64 (0)))
  have HB := Lib.hid (HB.out.setCell (p := ⟨w.heap.size, 5, none⟩) (by simp) (.int .i64 (0)))
  have hlt' : w.heap.size + 1 < (w2.setCell ⟨w.heap.size, 5, none⟩ (.int .i64 (0))).heap.size := by simpa using hlt
  clear k0 k1 k2 k3 k4 k5 hf hlt
  have hlt := hlt'
  clear hlt'
  generalize w2.setCell ⟨w.heap.size, 5, none⟩ (.int .i64 (0)) = w3 at *
  have k0 := HO.out.1 0 _ rfl
  have k1 := HO.out.1 1 _ rfl
  have k2 := HO.out.1 2 _ rfl
  have k3 := HO.out.1 3 _ rfl
  have k4 := HO.out.1 4 _ rfl
  have k5 := HO.out.1 5 _ rfl
  have hf := HO.out.2
  go_upto_region 8 with (fail)
  have HO := Lib.hid (HO.out.set 4 (.int .i64 (i + 1)) (by simp))
  have HP := Lib.hid (HP.out.other (c := w.heap.size) (by omega) 4 (.int .i64 (i + 1)))
  have HB := Lib.hid (HB.out.setCell (p := ⟨w.heap.size, 4, none⟩) (by simp) (.int .i64 (i + 1)))
  have hlt' : w.heap.size + 1 < (w3.setCell ⟨w.heap.size, 4, none⟩ (.int .i64 (i + 1))).heap.size := by simpa using hlt
  clear k0 k1 k2 k3 k4 k5 hf hlt
  have hlt := hlt'
  clear hlt'
  generalize w3.setCell ⟨w.heap.size, 4, none⟩ (.int .i64 (i + 1)) = w4 at *
  have k0 := HO.out.1 0 _ rfl
  have k1 := HO.out.1 1 _ rfl
  have k2 := HO.out.1 2 _ rfl
  have k3 := HO.out.1 3 _ rfl
  have k4 := HO.out.1 4 _ rfl
  have k5 := HO.out.1 5 _ rfl
  have hf := HO.out.2
  go_upto_region 11 with (fail)
  have HO := Lib.hid (HO.out.set 4 (.int .i64 (0)) (by simp))
  have HP := Lib.hid (HP.out.other (c := w.heap.size) (by omega) 4 (.int .i64 (0)))
  have HB := Lib.hid (HB.out.setCell (p := ⟨w.heap.size, 4, none⟩) (by simp) (.int .i64 (0)))
  have hlt' : w.heap.size + 1 < (w4.setCell ⟨w.heap.size, 4, none⟩ (.int .i64 (0))).heap.size := by simpa using hlt
  clear k0 k1 k2 k3 k4 k5 hf hlt
  have hlt := hlt'
  clear hlt'
  generalize w4.setCell ⟨w.heap.size, 4, none⟩ (.int .i64 (0)) = w5 at *
  have k0 := HO.out.1 0 _ rfl
  have k1 := HO.out.1 1 _ rfl
  have k2 := HO.out.1 2 _ rfl
  have k3 := HO.out.1 3 _ rfl
  have k4 := HO.out.1 4 _ rfl
  have k5 := HO.out.1 5 _ rfl
  have hf := HO.out.2
  go_upto_region 12 with (fail)
  have HO := Lib.hid (HO.out.set 3 (.int .i64 (h + 1)) (by simp))
  have HP := Lib.hid (HP.out.other (c := w.heap.size) (by omega) 3 (.int .i64 (h + 1)))
  have HB := Lib.hid (HB.out.setCell (p := ⟨w.heap.size, 3, none⟩) (by simp) (.int .i64 (h + 1)))
  have hlt' : w.heap.size + 1 < (w5.setCell ⟨w.heap.size, 3, none⟩ (.int .i64 (h + 1))).heap.size := by simpa using hlt
  clear k0 k1 k2 k3 k4 k5 hf hlt
  have hlt := hlt'
  clear hlt'
  generalize w5.setCell ⟨w.heap.size, 3, none⟩ (.int .i64 (h + 1)) = w6 at *
  have k0 := HO.out.1 0 _ rfl
  have k1 := HO.out.1 1 _ rfl
  have k2 := HO.out.1 2 _ rfl
  have k3 := HO.out.1 3 _ rfl
  have k4 := HO.out.1 4 _ rfl
  have k5 := HO.out.1 5 _ rfl
  have hf := HO.out.2
  have z0 := HP.out.1 0 _ rfl
  have z1 := HP.out.1 1 _ rfl
  have z2 := HP.out.1 2 _ rfl
  have z3 := HP.out.1 3 _ rfl
  have z4 := HP.out.1 4 _ rfl
  have z5 := HP.out.1 5 _ rfl
  have hg := HP.out.2
  go_wp2
  refine bodyPost_ret (v := .tuple #[.agg #[.int .i64 y, .int .i64 m, .int .i64 d, .int .i64 (h + 1), .int .i64 0, .int .i64 0], .int .i64 0]) (by simp [results, Try.results17, go_sem, z0, z1, z2, z3, z4, z5]) rfl ⟨rfl, ?_⟩
  exact ((((((HB.out).setCell (by simp) _).setCell (by simp) _).setCell (by simp) _).setCell (by simp) _).setCell (by simp) _).setCell (by simp) _
set_option maxHeartbeats 2000000 in
theorem next_3 (y m d h i s : Int) (w : World) (h0 : rightB y m d h i s = true) (n0 : 60 ≤ s + 2) (n1 : 60 ≤ i + 1) (n2 : 24 ≤ h + 1) (c3 : d + 1 ≤ days y m) : Calls Try.prog 17 #[.agg #[.int .i64 y, .int .i64 m, .int .i64 d, .int .i64 h, .int .i64 i, .int .i64 s]] w fun e w' => e = .returned (.tuple #[.agg #[.int .i64 y, .int .i64 m, .int .i64 (d + 1), .int .i64 0, .int .i64 0, .int .i64 0], .int .i64 0]) ∧ Below w.heap.size w w' := by
  obtain ⟨a1, a2, a3, a4, a5, a6, a7, a8, a9, a10, a11, a12, a13⟩ := right_elim h0
  have hdl := days_le y m
  have HR := Lib.hid (fun W => right_any y m d h i s W)
  rw [h0] at HR
  clear h0 a13
  have e0 : decide (s + 2 < 60) = false := by simp; omega
  have e1 : decide (i + 1 < 60) = false := by simp; omega
  have e2 : decide (h + 1 < 24) = false := by simp; omega
  have e3 : decide (d + 1 ≤ days y m) = true := by simp; omega
  have HD := Lib.hid (fun W => days_any y m W)
  generalize days y m = dm at *
  go_enter Try.func17, Try.ntmps17
  go_wp2_with fail
  refine (HR.out _).mono ?_
  rintro e w1 ⟨rfl, hb⟩
  have hs := hb.size
  simp only [World.size_alloc] at hs
  have HO := Lib.hid (((Own.new_at w [.int .i64 y, .int .i64 m, .int .i64 d, .int .i64 h, .int .i64 i, .int .i64 s] 23 w.heap.size rfl).below ((Below.refl _ _).alloc (Nat.le_refl _) _) (by simp)).below hb (by simp; omega))
  have HP := Lib.hid ((Own.new_at (w.alloc (.cells #[.int .i64 y, .int .i64 m, .int .i64 d, .int .i64 h, .int .i64 i, .int .i64 s] 23)) [.int .i64 0, .int .i64 0, .int .i64 0, .int .i64 0, .int .i64 0, .int .i64 0] 23 (w.heap.size + 1) (by simp)).below hb (by simp))
  have HB := Lib.hid ((((Below.refl _ _).alloc (Nat.le_refl _) _).alloc (by simp) _).trans (hb.mono (by simp; omega)) : Below w.heap.size w w1)
  have hlt : w.heap.size + 1 < w1.heap.size := by omega
  clear hb hs
  have k0 := HO.out.1 0 _ rfl
  have k1 := HO.out.1 1 _ rfl
  have k2 := HO.out.1 2 _ rfl
  have k3 := HO.out.1 3 _ rfl
  have k4 := HO.out.1 4 _ rfl
  have k5 := HO.out.1 5 _ rfl
  have hf := HO.out.2
  go_upto_region 4 with (fail)
  have HO := Lib.hid (HO.out.set 5 (.int .i64 (s + 2)) (by simp))
  have HP := Lib.hid (HP.out.other (c := w.heap.size) (by omega) 5 (.int .i64 (s + 2)))
  have HB := Lib.hid (HB.out.setCell (p := ⟨w.heap.size, 5, none⟩) (by simp) (.int .i64 (s + 2)))
  have hlt' : w.heap.size + 1 < (w1.setCell ⟨w.heap.size, 5, none⟩ (.int .i64 (s + 2))).heap.size := by simpa using hlt
  clear k0 k1 k2 k3 k4 k5 hf hlt
  have hlt := hlt'
  clear hlt'
  generalize w1.setCell ⟨w.heap.size, 5, none⟩ (.int .i64 (s + 2)) = w2 at *
  have k0 := HO.out.1 0 _ rfl
  have k1 := HO.out.1 1 _ rfl
  have k2 := HO.out.1 2 _ rfl
  have k3 := HO.out.1 3 _ rfl
  have k4 := HO.out.1 4 _ rfl
  have k5 := HO.out.1 5 _ rfl
  have hf := HO.out.2
  go_upto_region 7 with (fail)
  have HO := Lib.hid (HO.out.set 5 (.int .i64 (0)) (by simp))
  have HP := Lib.hid (HP.out.other (c := w.heap.size) (by omega) 5 (.int .i64 (0)))
  have HB := Lib.hid (HB.out.setCell (p := ⟨w.heap.size, 5, none⟩) (by simp) (.int .i64 (0)))
  have hlt' : w.heap.size + 1 < (w2.setCell ⟨w.heap.size, 5, none⟩ (.int .i64 (0))).heap.size := by simpa using hlt
  clear k0 k1 k2 k3 k4 k5 hf hlt
  have hlt := hlt'
  clear hlt'
  generalize w2.setCell ⟨w.heap.size, 5, none⟩ (.int .i64 (0)) = w3 at *
  have k0 := HO.out.1 0 _ rfl
  have k1 := HO.out.1 1 _ rfl
  have k2 := HO.out.1 2 _ rfl
  have k3 := HO.out.1 3 _ rfl
  have k4 := HO.out.1 4 _ rfl
  have k5 := HO.out.1 5 _ rfl
  have hf := HO.out.2
  go_upto_region 8 with (fail)
  have HO := Lib.hid (HO.out.set 4 (.int .i64 (i + 1)) (by simp))
  have HP := Lib.hid (HP.out.other (c := w.heap.size) (by omega) 4 (.int .i64 (i + 1)))
  have HB := Lib.hid (HB.out.setCell (p := ⟨w.heap.size, 4, none⟩) (by simp) (.int .i64 (i + 1)))
  have hlt' : w.heap.size + 1 < (w3.setCell ⟨w.heap.size, 4, none⟩ (.int .i64 (i + 1))).heap.size := by simpa using hlt
  clear k0 k1 k2 k3 k4 k5 hf hlt
  have hlt := hlt'
  clear hlt'
  generalize w3.setCell ⟨w.heap.size, 4, none⟩ (.int .i64 (i + 1)) = w4 at *
  have k0 := HO.out.1 0 _ rfl
  have k1 := HO.out.1 1 _ rfl
  have k2 := HO.out.1 2 _ rfl
  have k3 := HO.out.1 3 _ rfl
  have k4 := HO.out.1 4 _ rfl
  have k5 := HO.out.1 5 _ rfl
  have hf := HO.out.2
  go_upto_region 11 with (fail)
  have HO := Lib.hid (HO.out.set 4 (.int .i64 (0)) (by simp))
  have HP := Lib.hid (HP.out.other (c := w.heap.size) (by omega) 4 (.int .i64 (0)))
  have HB := Lib.hid (HB.out.setCell (p := ⟨w.heap.size, 4, none⟩) (by simp) (.int .i64 (0)))
  have hlt' : w.heap.size + 1 < (w4.setCell ⟨w.heap.size, 4, none⟩ (.int .i64 (0))).heap.size := by simpa using hlt
  clear k0 k1 k2 k3 k4 k5 hf hlt
  have hlt := hlt'
  clear hlt'
  generalize w4.setCell ⟨w.heap.size, 4, none⟩ (.int .i64 (0)) = w5 at *
  have k0 := HO.out.1 0 _ rfl
  have k1 := HO.out.1 1 _ rfl
  have k2 := HO.out.1 2 _ rfl
  have k3 := HO.out.1 3 _ rfl
  have k4 := HO.out.1 4 _ rfl
  have k5 := HO.out.1 5 _ rfl
  have hf := HO.out.2
  go_upto_region 12 with (fail)
  have HO := Lib.hid (HO.out.set 3 (.int .i64 (h + 1)) (by simp))
  have HP := Lib.hid (HP.out.other (c := w.heap.size) (by omega) 3 (.int .i64 (h + 1)))
  have HB := Lib.hid (HB.out.setCell (p := ⟨w.heap.size, 3, none⟩) (by simp) (.int .i64 (h + 1)))
  have hlt' : w.heap.size + 1 < (w5.setCell ⟨w.heap.size, 3, none⟩ (.int .i64 (h + 1))).heap.size := by simpa using hlt
  clear k0 k1 k2 k3 k4 k5 hf hlt
  have hlt := hlt'
  clear hlt'
  generalize w5.setCell ⟨w.heap.size, 3, none⟩ (.int .i64 (h + 1)) = w6 at *
  have k0 := HO.out.1 0 _ rfl
  have k1 := HO.out.1 1 _ rfl
  have k2 := HO.out.1 2 _ rfl
  have k3 := HO.out.1 3 _ rfl
  have k4 := HO.out.1 4 _ rfl
  have k5 := HO.out.1 5 _ rfl
  have hf := HO.out.2
  go_upto_region 15 with (fail)
  have HO := Lib.hid (HO.out.set 3 (.int .i64 (0)) (by simp))
  have HP := Lib.hid (HP.out.other (c := w.heap.size) (by omega) 3 (.int .i64 (0)))
  have HB := Lib.hid (HB.out.setCell (p := ⟨w.heap.size, 3, none⟩) (by simp) (.int .i64 (0)))
  have hlt' : w.heap.size + 1 < (w6.setCell ⟨w.heap.size, 3, none⟩ (.int .i64 (0))).heap.size := by simpa using hlt
  clear k0 k1 k2 k3 k4 k5 hf hlt
  have hlt := hlt'
  clear hlt'
  generalize w6.setCell ⟨w.heap.size, 3, none⟩ (.int .i64 (0)) = w7 at *
  have k0 := HO.out.1 0 _ rfl
  have k1 := HO.out.1 1 _ rfl
  have k2 := HO.out.1 2 _ rfl
  have k3 := HO.out.1 3 _ rfl
  have k4 := HO.out.1 4 _ rfl
  have k5 := HO.out.1 5 _ rfl
  have hf := HO.out.2
  go_upto_region 16 with (fail)
  have HO := Lib.hid (HO.out.set 2 (.int .i64 (d + 1)) (by simp))
  have HP := Lib.hid (HP.out.other (c := w.heap.size) (by omega) 2 (.int .i64 (d + 1)))
  have HB := Lib.hid (HB.out.setCell (p := ⟨w.heap.size, 2, none⟩) (by simp) (.int .i64 (d + 1)))
  have hlt' : w.heap.size + 1 < (w7.setCell ⟨w.heap.size, 2, none⟩ (.int .i64 (d + 1))).heap.size := by simpa using hlt
  clear k0 k1 k2 k3 k4 k5 hf hlt
  have hlt := hlt'
  clear hlt'
  generalize w7.setCell ⟨w.heap.size, 2, none⟩ (.int .i64 (d + 1)) = w8 at *
  have k0 := HO.out.1 0 _ rfl
  have k1 := HO.out.1 1 _ rfl
  have k2 := HO.out.1 2 _ rfl
  have k3 := HO.out.1 3 _ rfl
  have k4 := HO.out.1 4 _ rfl
  have k5 := HO.out.1 5 _ rfl
  have hf := HO.out.2
  go_wp2
  go_quiet ((go_at_call 15; exact Calls.quiet_of_same (HD.out _)))
  have z0 := HP.out.1 0 _ rfl
  have z1 := HP.out.1 1 _ rfl
  have z2 := HP.out.1 2 _ rfl
  have z3 := HP.out.1 3 _ rfl
  have z4 := HP.out.1 4 _ rfl
  have z5 := HP.out.1 5 _ rfl
  have hg := HP.out.2
  go_wp2
  refine bodyPost_ret (v := .tuple #[.agg #[.int .i64 y, .int .i64 m, .int .i64 (d + 1), .int .i64 0, .int .i64 0, .int .i64 0], .int .i64 0]) (by simp [results, Try.results17, go_sem, z0, z1, z2, z3, z4, z5]) rfl ⟨rfl, ?_⟩
  exact ((((((below_drewN HB.out nq).setCell (by simp) _).setCell (by simp) _).setCell (by simp) _).setCell (by simp) _).setCell (by simp) _).setCell (by simp) _
set_option maxHeartbeats 2000000 in
theorem next_4 (y m d h i s : Int) (w : World) (h0 : rightB y m d h i s = true) (n0 : 60 ≤ s + 2) (n1 : 60 ≤ i + 1) (n2 : 24 ≤ h + 1) (n3 : days y m < d + 1) (c4 : m + 1 ≤ 12) : Calls Try.prog 17 #[.agg #[.int .i64 y, .int .i64 m, .int .i64 d, .int .i64 h, .int .i64 i, .int .i64 s]] w fun e w' => e = .returned (.tuple #[.agg #[.int .i64 y, .int .i64 (m + 1), .int .i64 1, .int .i64 0, .int .i64 0, .int .i64 0], .int .i64 0]) ∧ Below w.heap.size w w' := by
  obtain ⟨a1, a2, a3, a4, a5, a6, a7, a8, a9, a10, a11, a12, a13⟩ := right_elim h0
  have hdl := days_le y m
  have HR := Lib.hid (fun W => right_any y m d h i s W)
  rw [h0] at HR
  clear h0 a13
  have e0 : decide (s + 2 < 60) = false := by simp; omega
  have e1 : decide (i + 1 < 60) = false := by simp; omega
  have e2 : decide (h + 1 < 24) = false := by simp; omega
  have e3 : decide (d + 1 ≤ days y m) = false := by simp; omega
  have e4 : decide (m + 1 ≤ 12) = true := by simp; omega
  have HD := Lib.hid (fun W => days_any y m W)
  generalize days y m = dm at *
  go_enter Try.func17, Try.ntmps17
  go_wp2_with fail
  refine (HR.out _).mono ?_
  rintro e w1 ⟨rfl, hb⟩
  have hs := hb.size
  simp only [World.size_alloc] at hs
  have HO := Lib.hid (((Own.new_at w [.int .i64 y, .int .i64 m, .int .i64 d, .int .i64 h, .int .i64 i, .int .i64 s] 23 w.heap.size rfl).below ((Below.refl _ _).alloc (Nat.le_refl _) _) (by simp)).below hb (by simp; omega))
  have HP := Lib.hid ((Own.new_at (w.alloc (.cells #[.int .i64 y, .int .i64 m, .int .i64 d, .int .i64 h, .int .i64 i, .int .i64 s] 23)) [.int .i64 0, .int .i64 0, .int .i64 0, .int .i64 0, .int .i64 0, .int .i64 0] 23 (w.heap.size + 1) (by simp)).below hb (by simp))
  have HB := Lib.hid ((((Below.refl _ _).alloc (Nat.le_refl _) _).alloc (by simp) _).trans (hb.mono (by simp; omega)) : Below w.heap.size w w1)
  have hlt : w.heap.size + 1 < w1.heap.size := by omega
  clear hb hs
  have k0 := HO.out.1 0 _ rfl
  have k1 := HO.out.1 1 _ rfl
  have k2 := HO.out.1 2 _ rfl
  have k3 := HO.out.1 3 _ rfl
  have k4 := HO.out.1 4 _ rfl
  have k5 := HO.out.1 5 _ rfl
  have hf := HO.out.2
  go_upto_region 4 with (fail)
  have HO := Lib.hid (HO.out.set 5 (.int .i64 (s + 2)) (by simp))
  have HP := Lib.hid (HP.out.other (c := w.heap.size) (by omega) 5 (.int .i64 (s + 2)))
  have HB := Lib.hid (HB.out.setCell (p := ⟨w.heap.size, 5, none⟩) (by simp) (.int .i64 (s + 2)))
  have hlt' : w.heap.size + 1 < (w1.setCell ⟨w.heap.size, 5, none⟩ (.int .i64 (s + 2))).heap.size := by simpa using hlt
  clear k0 k1 k2 k3 k4 k5 hf hlt
  have hlt := hlt'
  clear hlt'
  generalize w1.setCell ⟨w.heap.size, 5, none⟩ (.int .i64 (s + 2)) = w2 at *
  have k0 := HO.out.1 0 _ rfl
  have k1 := HO.out.1 1 _ rfl
  have k2 := HO.out.1 2 _ rfl
  have k3 := HO.out.1 3 _ rfl
  have k4 := HO.out.1 4 _ rfl
  have k5 := HO.out.1 5 _ rfl
  have hf := HO.out.2
  go_upto_region 7 with (fail)
  have HO := Lib.hid (HO.out.set 5 (.int .i64 (0)) (by simp))
  have HP := Lib.hid (HP.out.other (c := w.heap.size) (by omega) 5 (.int .i64 (0)))
  have HB := Lib.hid (HB.out.setCell (p := ⟨w.heap.size, 5, none⟩) (by simp) (.int .i64 (0)))
  have hlt' : w.heap.size + 1 < (w2.setCell ⟨w.heap.size, 5, none⟩ (.int .i64 (0))).heap.size := by simpa using hlt
  clear k0 k1 k2 k3 k4 k5 hf hlt
  have hlt := hlt'
  clear hlt'
  generalize w2.setCell ⟨w.heap.size, 5, none⟩ (.int .i64 (0)) = w3 at *
  have k0 := HO.out.1 0 _ rfl
  have k1 := HO.out.1 1 _ rfl
  have k2 := HO.out.1 2 _ rfl
  have k3 := HO.out.1 3 _ rfl
  have k4 := HO.out.1 4 _ rfl
  have k5 := HO.out.1 5 _ rfl
  have hf := HO.out.2
  go_upto_region 8 with (fail)
  have HO := Lib.hid (HO.out.set 4 (.int .i64 (i + 1)) (by simp))
  have HP := Lib.hid (HP.out.other (c := w.heap.size) (by omega) 4 (.int .i64 (i + 1)))
  have HB := Lib.hid (HB.out.setCell (p := ⟨w.heap.size, 4, none⟩) (by simp) (.int .i64 (i + 1)))
  have hlt' : w.heap.size + 1 < (w3.setCell ⟨w.heap.size, 4, none⟩ (.int .i64 (i + 1))).heap.size := by simpa using hlt
  clear k0 k1 k2 k3 k4 k5 hf hlt
  have hlt := hlt'
  clear hlt'
  generalize w3.setCell ⟨w.heap.size, 4, none⟩ (.int .i64 (i + 1)) = w4 at *
  have k0 := HO.out.1 0 _ rfl
  have k1 := HO.out.1 1 _ rfl
  have k2 := HO.out.1 2 _ rfl
  have k3 := HO.out.1 3 _ rfl
  have k4 := HO.out.1 4 _ rfl
  have k5 := HO.out.1 5 _ rfl
  have hf := HO.out.2
  go_upto_region 11 with (fail)
  have HO := Lib.hid (HO.out.set 4 (.int .i64 (0)) (by simp))
  have HP := Lib.hid (HP.out.other (c := w.heap.size) (by omega) 4 (.int .i64 (0)))
  have HB := Lib.hid (HB.out.setCell (p := ⟨w.heap.size, 4, none⟩) (by simp) (.int .i64 (0)))
  have hlt' : w.heap.size + 1 < (w4.setCell ⟨w.heap.size, 4, none⟩ (.int .i64 (0))).heap.size := by simpa using hlt
  clear k0 k1 k2 k3 k4 k5 hf hlt
  have hlt := hlt'
  clear hlt'
  generalize w4.setCell ⟨w.heap.size, 4, none⟩ (.int .i64 (0)) = w5 at *
  have k0 := HO.out.1 0 _ rfl
  have k1 := HO.out.1 1 _ rfl
  have k2 := HO.out.1 2 _ rfl
  have k3 := HO.out.1 3 _ rfl
  have k4 := HO.out.1 4 _ rfl
  have k5 := HO.out.1 5 _ rfl
  have hf := HO.out.2
  go_upto_region 12 with (fail)
  have HO := Lib.hid (HO.out.set 3 (.int .i64 (h + 1)) (by simp))
  have HP := Lib.hid (HP.out.other (c := w.heap.size) (by omega) 3 (.int .i64 (h + 1)))
  have HB := Lib.hid (HB.out.setCell (p := ⟨w.heap.size, 3, none⟩) (by simp) (.int .i64 (h + 1)))
  have hlt' : w.heap.size + 1 < (w5.setCell ⟨w.heap.size, 3, none⟩ (.int .i64 (h + 1))).heap.size := by simpa using hlt
  clear k0 k1 k2 k3 k4 k5 hf hlt
  have hlt := hlt'
  clear hlt'
  generalize w5.setCell ⟨w.heap.size, 3, none⟩ (.int .i64 (h + 1)) = w6 at *
  have k0 := HO.out.1 0 _ rfl
  have k1 := HO.out.1 1 _ rfl
  have k2 := HO.out.1 2 _ rfl
  have k3 := HO.out.1 3 _ rfl
  have k4 := HO.out.1 4 _ rfl
  have k5 := HO.out.1 5 _ rfl
  have hf := HO.out.2
  go_upto_region 15 with (fail)
  have HO := Lib.hid (HO.out.set 3 (.int .i64 (0)) (by simp))
  have HP := Lib.hid (HP.out.other (c := w.heap.size) (by omega) 3 (.int .i64 (0)))
  have HB := Lib.hid (HB.out.setCell (p := ⟨w.heap.size, 3, none⟩) (by simp) (.int .i64 (0)))
  have hlt' : w.heap.size + 1 < (w6.setCell ⟨w.heap.size, 3, none⟩ (.int .i64 (0))).heap.size := by simpa using hlt
  clear k0 k1 k2 k3 k4 k5 hf hlt
  have hlt := hlt'
  clear hlt'
  generalize w6.setCell ⟨w.heap.size, 3, none⟩ (.int .i64 (0)) = w7 at *
  have k0 := HO.out.1 0 _ rfl
  have k1 := HO.out.1 1 _ rfl
  have k2 := HO.out.1 2 _ rfl
  have k3 := HO.out.1 3 _ rfl
  have k4 := HO.out.1 4 _ rfl
  have k5 := HO.out.1 5 _ rfl
  have hf := HO.out.2
  go_upto_region 16 with (fail)
  have HO := Lib.hid (HO.out.set 2 (.int .i64 (d + 1)) (by simp))
  have HP := Lib.hid (HP.out.other (c := w.heap.size) (by omega) 2 (.int .i64 (d + 1)))
  have HB := Lib.hid (HB.out.setCell (p := ⟨w.heap.size, 2, none⟩) (by simp) (.int .i64 (d + 1)))
  have hlt' : w.heap.size + 1 < (w7.setCell ⟨w.heap.size, 2, none⟩ (.int .i64 (d + 1))).heap.size := by simpa using hlt
  clear k0 k1 k2 k3 k4 k5 hf hlt
  have hlt := hlt'
  clear hlt'
  generalize w7.setCell ⟨w.heap.size, 2, none⟩ (.int .i64 (d + 1)) = w8 at *
  have k0 := HO.out.1 0 _ rfl
  have k1 := HO.out.1 1 _ rfl
  have k2 := HO.out.1 2 _ rfl
  have k3 := HO.out.1 3 _ rfl
  have k4 := HO.out.1 4 _ rfl
  have k5 := HO.out.1 5 _ rfl
  have hf := HO.out.2
  go_upto_region 16 with (fail)
  go_quiet ((go_at_call 15; exact Calls.quiet_of_same (HD.out _)))
  have HO := Lib.hid (HO.out.below (below_drewN (Below.refl _ _) nq) (show w.heap.size < w8.heap.size by omega))
  have HP := Lib.hid (HP.out.below (below_drewN (Below.refl _ _) nq) (show w.heap.size + 1 < w8.heap.size by omega))
  have HB := Lib.hid (below_drewN HB.out nq)
  have hlt' : w.heap.size + 1 < (w8.drewN nq).heap.size := hlt
  clear k0 k1 k2 k3 k4 k5 hf hlt
  have hlt := hlt'
  clear hlt'
  generalize w8.drewN nq = w9 at *
  have k0 := HO.out.1 0 _ rfl
  have k1 := HO.out.1 1 _ rfl
  have k2 := HO.out.1 2 _ rfl
  have k3 := HO.out.1 3 _ rfl
  have k4 := HO.out.1 4 _ rfl
  have k5 := HO.out.1 5 _ rfl
  have hf := HO.out.2
  go_upto_region 19 with (fail)
  have HO := Lib.hid (HO.out.set 2 (.int .i64 (1)) (by simp))
  have HP := Lib.hid (HP.out.other (c := w.heap.size) (by omega) 2 (.int .i64 (1)))
  have HB := Lib.hid (HB.out.setCell (p := ⟨w.heap.size, 2, none⟩) (by simp) (.int .i64 (1)))
  have hlt' : w.heap.size + 1 < (w9.setCell ⟨w.heap.size, 2, none⟩ (.int .i64 (1))).heap.size := by simpa using hlt
  clear k0 k1 k2 k3 k4 k5 hf hlt
  have hlt := hlt'
  clear hlt'
  generalize w9.setCell ⟨w.heap.size, 2, none⟩ (.int .i64 (1)) = w10 at *
  have k0 := HO.out.1 0 _ rfl
  have k1 := HO.out.1 1 _ rfl
  have k2 := HO.out.1 2 _ rfl
  have k3 := HO.out.1 3 _ rfl
  have k4 := HO.out.1 4 _ rfl
  have k5 := HO.out.1 5 _ rfl
  have hf := HO.out.2
  go_upto_region 20 with (fail)
  have HO := Lib.hid (HO.out.set 1 (.int .i64 (m + 1)) (by simp))
  have HP := Lib.hid (HP.out.other (c := w.heap.size) (by omega) 1 (.int .i64 (m + 1)))
  have HB := Lib.hid (HB.out.setCell (p := ⟨w.heap.size, 1, none⟩) (by simp) (.int .i64 (m + 1)))
  have hlt' : w.heap.size + 1 < (w10.setCell ⟨w.heap.size, 1, none⟩ (.int .i64 (m + 1))).heap.size := by simpa using hlt
  clear k0 k1 k2 k3 k4 k5 hf hlt
  have hlt := hlt'
  clear hlt'
  generalize w10.setCell ⟨w.heap.size, 1, none⟩ (.int .i64 (m + 1)) = w11 at *
  have k0 := HO.out.1 0 _ rfl
  have k1 := HO.out.1 1 _ rfl
  have k2 := HO.out.1 2 _ rfl
  have k3 := HO.out.1 3 _ rfl
  have k4 := HO.out.1 4 _ rfl
  have k5 := HO.out.1 5 _ rfl
  have hf := HO.out.2
  have z0 := HP.out.1 0 _ rfl
  have z1 := HP.out.1 1 _ rfl
  have z2 := HP.out.1 2 _ rfl
  have z3 := HP.out.1 3 _ rfl
  have z4 := HP.out.1 4 _ rfl
  have z5 := HP.out.1 5 _ rfl
  have hg := HP.out.2
  go_wp2
  refine bodyPost_ret (v := .tuple #[.agg #[.int .i64 y, .int .i64 (m + 1), .int .i64 1, .int .i64 0, .int .i64 0, .int .i64 0], .int .i64 0]) (by simp [results, Try.results17, go_sem, z0, z1, z2, z3, z4, z5]) rfl ⟨rfl, ?_⟩
  exact ((((((HB.out).setCell (by simp) _).setCell (by simp) _).setCell (by simp) _).setCell (by simp) _).setCell (by simp) _).setCell (by simp) _
set_option maxHeartbeats 2000000 in
theorem next_5 (y m d h i s : Int) (w : World) (h0 : rightB y m d h i s = true) (n0 : 60 ≤ s + 2) (n1 : 60 ≤ i + 1) (n2 : 24 ≤ h + 1) (n3 : days y m < d + 1) (n4 : 12 < m + 1) (c5 : y + 1 ≤ 2107) : Calls Try.prog 17 #[.agg #[.int .i64 y, .int .i64 m, .int .i64 d, .int .i64 h, .int .i64 i, .int .i64 s]] w fun e w' => e = .returned (.tuple #[.agg #[.int .i64 (y + 1), .int .i64 1, .int .i64 1, .int .i64 0, .int .i64 0, .int .i64 0], .int .i64 0]) ∧ Below w.heap.size w w' := by
  obtain ⟨a1, a2, a3, a4, a5, a6, a7, a8, a9, a10, a11, a12, a13⟩ := right_elim h0
  have hdl := days_le y m
  have HR := Lib.hid (fun W => right_any y m d h i s W)
  rw [h0] at HR
  clear h0 a13
  have e0 : decide (s + 2 < 60) = false := by simp; omega
  have e1 : decide (i + 1 < 60) = false := by simp; omega
  have e2 : decide (h + 1 < 24) = false := by simp; omega
  have e3 : decide (d + 1 ≤ days y m) = false := by simp; omega
  have e4 : decide (m + 1 ≤ 12) = false := by simp; omega
  have e5 : decide (y + 1 ≤ 2107) = true := by simp; omega
  have HD := Lib.hid (fun W => days_any y m W)
  generalize days y m = dm at *
  go_enter Try.func17, Try.ntmps17
  go_wp2_with fail
  refine (HR.out _).mono ?_
  rintro e w1 ⟨rfl, hb⟩
  have hs := hb.size
  simp only [World.size_alloc] at hs
  have HO := Lib.hid (((Own.new_at w [.int .i64 y, .int .i64 m, .int .i64 d, .int .i64 h, .int .i64 i, .int .i64 s] 23 w.heap.size rfl).below ((Below.refl _ _).alloc (Nat.le_refl _) _) (by simp)).below hb (by simp; omega))
  have HP := Lib.hid ((Own.new_at (w.alloc (.cells #[.int .i64 y, .int .i64 m, .int .i64 d, .int .i64 h, .int .i64 i, .int .i64 s] 23)) [.int .i64 0, .int .i64 0, .int .i64 0, .int .i64 0, .int .i64 0, .int .i64 0] 23 (w.heap.size + 1) (by simp)).below hb (by simp))
  have HB := Lib.hid ((((Below.refl _ _).alloc (Nat.le_refl _) _).alloc (by simp) _).trans (hb.mono (by simp; omega)) : Below w.heap.size w w1)
  have hlt : w.heap.size + 1 < w1.heap.size := by omega
  clear hb hs
  have k0 := HO.out.1 0 _ rfl
  have k1 := HO.out.1 1 _ rfl
  have k2 := HO.out.1 2 _ rfl
  have k3 := HO.out.1 3 _ rfl
  have k4 := HO.out.1 4 _ rfl
  have k5 := HO.out.1 5 _ rfl
  have hf := HO.out.2
  go_upto_region 4 with (fail)
  have HO := Lib.hid (HO.out.set 5 (.int .i64 (s + 2)) (by simp))
  have HP := Lib.hid (HP.out.other (c := w.heap.size) (by omega) 5 (.int .i64 (s + 2)))
  have HB := Lib.hid (HB.out.setCell (p := ⟨w.heap.size, 5, none⟩) (by simp) (.int .i64 (s + 2)))
  have hlt' : w.heap.size + 1 < (w1.setCell ⟨w.heap.size, 5, none⟩ (.int .i64 (s + 2))).heap.size := by simpa using hlt
  clear k0 k1 k2 k3 k4 k5 hf hlt
  have hlt := hlt'
  clear hlt'
  generalize w1.setCell ⟨w.heap.size, 5, none⟩ (.int .i64 (s + 2)) = w2 at *
  have k0 := HO.out.1 0 _ rfl
  have k1 := HO.out.1 1 _ rfl
  have k2 := HO.out.1 2 _ rfl
  have k3 := HO.out.1 3 _ rfl
  have k4 := HO.out.1 4 _ rfl
  have k5 := HO.out.1 5 _ rfl
  have hf := HO.out.2
  go_upto_region 7 with (fail)
  have HO := Lib.hid (HO.out.set 5 (.int .i64 (0)) (by simp))
  have HP := Lib.hid (HP.out.other (c := w.heap.size) (by omega) 5 (.int .i64 (0)))
  have HB := Lib.hid (HB.out.setCell (p := ⟨w.heap.size, 5, none⟩) (by simp) (.int .i64 (0)))
  have hlt' : w.heap.size + 1 < (w2.setCell ⟨w.heap.size, 5, none⟩ (.int .i64 (0))).heap.size := by simpa using hlt
  clear k0 k1 k2 k3 k4 k5 hf hlt
  have hlt := hlt'
  clear hlt'
  generalize w2.setCell ⟨w.heap.size, 5, none⟩ (.int .i64 (0)) = w3 at *
  have k0 := HO.out.1 0 _ rfl
  have k1 := HO.out.1 1 _ rfl
  have k2 := HO.out.1 2 _ rfl
  have k3 := HO.out.1 3 _ rfl
  have k4 := HO.out.1 4 _ rfl
  have k5 := HO.out.1 5 _ rfl
  have hf := HO.out.2
  go_upto_region 8 with (fail)
  have HO := Lib.hid (HO.out.set 4 (.int .i64 (i + 1)) (by simp))
  have HP := Lib.hid (HP.out.other (c := w.heap.size) (by omega) 4 (.int .i64 (i + 1)))
  have HB := Lib.hid (HB.out.setCell (p := ⟨w.heap.size, 4, none⟩) (by simp) (.int .i64 (i + 1)))
  have hlt' : w.heap.size + 1 < (w3.setCell ⟨w.heap.size, 4, none⟩ (.int .i64 (i + 1))).heap.size := by simpa using hlt
  clear k0 k1 k2 k3 k4 k5 hf hlt
  have hlt := hlt'
  clear hlt'
  generalize w3.setCell ⟨w.heap.size, 4, none⟩ (.int .i64 (i + 1)) = w4 at *
  have k0 := HO.out.1 0 _ rfl
  have k1 := HO.out.1 1 _ rfl
  have k2 := HO.out.1 2 _ rfl
  have k3 := HO.out.1 3 _ rfl
  have k4 := HO.out.1 4 _ rfl
  have k5 := HO.out.1 5 _ rfl
  have hf := HO.out.2
  go_upto_region 11 with (fail)
  have HO := Lib.hid (HO.out.set 4 (.int .i64 (0)) (by simp))
  have HP := Lib.hid (HP.out.other (c := w.heap.size) (by omega) 4 (.int .i64 (0)))
  have HB := Lib.hid (HB.out.setCell (p := ⟨w.heap.size, 4, none⟩) (by simp) (.int .i64 (0)))
  have hlt' : w.heap.size + 1 < (w4.setCell ⟨w.heap.size, 4, none⟩ (.int .i64 (0))).heap.size := by simpa using hlt
  clear k0 k1 k2 k3 k4 k5 hf hlt
  have hlt := hlt'
  clear hlt'
  generalize w4.setCell ⟨w.heap.size, 4, none⟩ (.int .i64 (0)) = w5 at *
  have k0 := HO.out.1 0 _ rfl
  have k1 := HO.out.1 1 _ rfl
  have k2 := HO.out.1 2 _ rfl
  have k3 := HO.out.1 3 _ rfl
  have k4 := HO.out.1 4 _ rfl
  have k5 := HO.out.1 5 _ rfl
  have hf := HO.out.2
  go_upto_region 12 with (fail)
  have HO := Lib.hid (HO.out.set 3 (.int .i64 (h + 1)) (by simp))
  have HP := Lib.hid (HP.out.other (c := w.heap.size) (by omega) 3 (.int .i64 (h + 1)))
  have HB := Lib.hid (HB.out.setCell (p := ⟨w.heap.size, 3, none⟩) (by simp) (.int .i64 (h + 1)))
  have hlt' : w.heap.size + 1 < (w5.setCell ⟨w.heap.size, 3, none⟩ (.int .i64 (h + 1))).heap.size := by simpa using hlt
  clear k0 k1 k2 k3 k4 k5 hf hlt
  have hlt := hlt'
  clear hlt'
  generalize w5.setCell ⟨w.heap.size, 3, none⟩ (.int .i64 (h + 1)) = w6 at *
  have k0 := HO.out.1 0 _ rfl
  have k1 := HO.out.1 1 _ rfl
  have k2 := HO.out.1 2 _ rfl
  have k3 := HO.out.1 3 _ rfl
  have k4 := HO.out.1 4 _ rfl
  have k5 := HO.out.1 5 _ rfl
  have hf := HO.out.2
  go_upto_region 15 with (fail)
  have HO := Lib.hid (HO.out.set 3 (.int .i64 (0)) (by simp))
  have HP := Lib.hid (HP.out.other (c := w.heap.size) (by omega) 3 (.int .i64 (0)))
  have HB := Lib.hid (HB.out.setCell (p := ⟨w.heap.size, 3, none⟩) (by simp) (.int .i64 (0)))
  have hlt' : w.heap.size + 1 < (w6.setCell ⟨w.heap.size, 3, none⟩ (.int .i64 (0))).heap.size := by simpa using hlt
  clear k0 k1 k2 k3 k4 k5 hf hlt
  have hlt := hlt'
  clear hlt'
  generalize w6.setCell ⟨w.heap.size, 3, none⟩ (.int .i64 (0)) = w7 at *
  have k0 := HO.out.1 0 _ rfl
  have k1 := HO.out.1 1 _ rfl
  have k2 := HO.out.1 2 _ rfl
  have k3 := HO.out.1 3 _ rfl
  have k4 := HO.out.1 4 _ rfl
  have k5 := HO.out.1 5 _ rfl
  have hf := HO.out.2
  go_upto_region 16 with (fail)
  have HO := Lib.hid (HO.out.set 2 (.int .i64 (d + 1)) (by simp))
  have HP := Lib.hid (HP.out.other (c := w.heap.size) (by omega) 2 (.int .i64 (d + 1)))
  have HB := Lib.hid (HB.out.setCell (p := ⟨w.heap.size, 2, none⟩) (by simp) (.int .i64 (d + 1)))
  have hlt' : w.heap.size + 1 < (w7.setCell ⟨w.heap.size, 2, none⟩ (.int .i64 (d + 1))).heap.size := by simpa using hlt
  clear k0 k1 k2 k3 k4 k5 hf hlt
  have hlt := hlt'
  clear hlt'
  generalize w7.setCell ⟨w.heap.size, 2, none⟩ (.int .i64 (d + 1)) = w8 at *
  have k0 := HO.out.1 0 _ rfl
  have k1 := HO.out.1 1 _ rfl
  have k2 := HO.out.1 2 _ rfl
  have k3 := HO.out.1 3 _ rfl
  have k4 := HO.out.1 4 _ rfl
  have k5 := HO.out.1 5 _ rfl
  have hf := HO.out.2
  go_upto_region 16 with (fail)
  go_quiet ((go_at_call 15; exact Calls.quiet_of_same (HD.out _)))
  have HO := Lib.hid (HO.out.below (below_drewN (Below.refl _ _) nq) (show w.heap.size < w8.heap.size by omega))
  have HP := Lib.hid (HP.out.below (below_drewN (Below.refl _ _) nq) (show w.heap.size + 1 < w8.heap.size by omega))
  have HB := Lib.hid (below_drewN HB.out nq)
  have hlt' : w.heap.size + 1 < (w8.drewN nq).heap.size := hlt
  clear k0 k1 k2 k3 k4 k5 hf hlt
  have hlt := hlt'
  clear hlt'
  generalize w8.drewN nq = w9 at *
  have k0 := HO.out.1 0 _ rfl
  have k1 := HO.out.1 1 _ rfl
  have k2 := HO.out.1 2 _ rfl
  have k3 := HO.out.1 3 _ rfl
  have k4 := HO.out.1 4 _ rfl
  have k5 := HO.out.1 5 _ rfl
  have hf := HO.out.2
  go_upto_region 19 with (fail)
  have HO := Lib.hid (HO.out.set 2 (.int .i64 (1)) (by simp))
  have HP := Lib.hid (HP.out.other (c := w.heap.size) (by omega) 2 (.int .i64 (1)))
  have HB := Lib.hid (HB.out.setCell (p := ⟨w.heap.size, 2, none⟩) (by simp) (.int .i64 (1)))
  have hlt' : w.heap.size + 1 < (w9.setCell ⟨w.heap.size, 2, none⟩ (.int .i64 (1))).heap.size := by simpa using hlt
  clear k0 k1 k2 k3 k4 k5 hf hlt
  have hlt := hlt'
  clear hlt'
  generalize w9.setCell ⟨w.heap.size, 2, none⟩ (.int .i64 (1)) = w10 at *
  have k0 := HO.out.1 0 _ rfl
  have k1 := HO.out.1 1 _ rfl
  have k2 := HO.out.1 2 _ rfl
  have k3 := HO.out.1 3 _ rfl
  have k4 := HO.out.1 4 _ rfl
  have k5 := HO.out.1 5 _ rfl
  have hf := HO.out.2
  go_upto_region 20 with (fail)
  have HO := Lib.hid (HO.out.set 1 (.int .i64 (m + 1)) (by simp))
  have HP := Lib.hid (HP.out.other (c := w.heap.size) (by omega) 1 (.int .i64 (m + 1)))
  have HB := Lib.hid (HB.out.setCell (p := ⟨w.heap.size, 1, none⟩) (by simp) (.int .i64 (m + 1)))
  have hlt' : w.heap.size + 1 < (w10.setCell ⟨w.heap.size, 1, none⟩ (.int .i64 (m + 1))).heap.size := by simpa using hlt
  clear k0 k1 k2 k3 k4 k5 hf hlt
  have hlt := hlt'
  clear hlt'
  generalize w10.setCell ⟨w.heap.size, 1, none⟩ (.int .i64 (m + 1)) = w11 at *
  have k0 := HO.out.1 0 _ rfl
  have k1 := HO.out.1 1 _ rfl
  have k2 := HO.out.1 2 _ rfl
  have k3 := HO.out.1 3 _ rfl
  have k4 := HO.out.1 4 _ rfl
  have k5 := HO.out.1 5 _ rfl
  have hf := HO.out.2
  go_upto_region 23 with (fail)
  have HO := Lib.hid (HO.out.set 1 (.int .i64 (1)) (by simp))
  have HP := Lib.hid (HP.out.other (c := w.heap.size) (by omega) 1 (.int .i64 (1)))
  have HB := Lib.hid (HB.out.setCell (p := ⟨w.heap.size, 1, none⟩) (by simp) (.int .i64 (1)))
  have hlt' : w.heap.size + 1 < (w11.setCell ⟨w.heap.size, 1, none⟩ (.int .i64 (1))).heap.size := by simpa using hlt
  clear k0 k1 k2 k3 k4 k5 hf hlt
  have hlt := hlt'
  clear hlt'
  generalize w11.setCell ⟨w.heap.size, 1, none⟩ (.int .i64 (1)) = w12 at *
  have k0 := HO.out.1 0 _ rfl
  have k1 := HO.out.1 1 _ rfl
  have k2 := HO.out.1 2 _ rfl
  have k3 := HO.out.1 3 _ rfl
  have k4 := HO.out.1 4 _ rfl
  have k5 := HO.out.1 5 _ rfl
  have hf := HO.out.2
  go_upto_region 24 with (fail)
  have HO := Lib.hid (HO.out.set 0 (.int .i64 (y + 1)) (by simp))
  have HP := Lib.hid (HP.out.other (c := w.heap.size) (by omega) 0 (.int .i64 (y + 1)))
  have HB := Lib.hid (HB.out.setCell (p := ⟨w.heap.size, 0, none⟩) (by simp) (.int .i64 (y + 1)))
  have hlt' : w.heap.size + 1 < (w12.setCell ⟨w.heap.size, 0, none⟩ (.int .i64 (y + 1))).heap.size := by simpa using hlt
  clear k0 k1 k2 k3 k4 k5 hf hlt
  have hlt := hlt'
  clear hlt'
  generalize w12.setCell ⟨w.heap.size, 0, none⟩ (.int .i64 (y + 1)) = w13 at *
  have k0 := HO.out.1 0 _ rfl
  have k1 := HO.out.1 1 _ rfl
  have k2 := HO.out.1 2 _ rfl
  have k3 := HO.out.1 3 _ rfl
  have k4 := HO.out.1 4 _ rfl
  have k5 := HO.out.1 5 _ rfl
  have hf := HO.out.2
  have z0 := HP.out.1 0 _ rfl
  have z1 := HP.out.1 1 _ rfl
  have z2 := HP.out.1 2 _ rfl
  have z3 := HP.out.1 3 _ rfl
  have z4 := HP.out.1 4 _ rfl
  have z5 := HP.out.1 5 _ rfl
  have hg := HP.out.2
  go_wp2
  refine bodyPost_ret (v := .tuple #[.agg #[.int .i64 (y + 1), .int .i64 1, .int .i64 1, .int .i64 0, .int .i64 0, .int .i64 0], .int .i64 0]) (by simp [results, Try.results17, go_sem, z0, z1, z2, z3, z4, z5]) rfl ⟨rfl, ?_⟩
  exact ((((((HB.out).setCell (by simp) _).setCell (by simp) _).setCell (by simp) _).setCell (by simp) _).setCell (by simp) _).setCell (by simp) _
set_option maxHeartbeats 2000000 in
theorem next_6 (y m d h i s : Int) (w : World) (h0 : rightB y m d h i s = true) (n0 : 60 ≤ s + 2) (n1 : 60 ≤ i + 1) (n2 : 24 ≤ h + 1) (n3 : days y m < d + 1) (n4 : 12 < m + 1) (n5 : 2107 < y + 1) : Calls Try.prog 17 #[.agg #[.int .i64 y, .int .i64 m, .int .i64 d, .int .i64 h, .int .i64 i, .int .i64 s]] w fun e w' => e = .returned (.tuple #[.agg #[.int .i64 0, .int .i64 0, .int .i64 0, .int .i64 0, .int .i64 0, .int .i64 0], .int .i64 34]) ∧ Below w.heap.size w w' := by
  obtain ⟨a1, a2, a3, a4, a5, a6, a7, a8, a9, a10, a11, a12, a13⟩ := right_elim h0
  have hdl := days_le y m
  have HR := Lib.hid (fun W => right_any y m d h i s W)
  rw [h0] at HR
  clear h0 a13
  have e0 : decide (s + 2 < 60) = false := by simp; omega
  have e1 : decide (i + 1 < 60) = false := by simp; omega
  have e2 : decide (h + 1 < 24) = false := by simp; omega
  have e3 : decide (d + 1 ≤ days y m) = false := by simp; omega
  have e4 : decide (m + 1 ≤ 12) = false := by simp; omega
  have e5 : decide (y + 1 ≤ 2107) = false := by simp; omega
  have HD := Lib.hid (fun W => days_any y m W)
  generalize days y m = dm at *
  go_enter Try.func17, Try.ntmps17
  go_wp2_with fail
  refine (HR.out _).mono ?_
  rintro e w1 ⟨rfl, hb⟩
  have hs := hb.size
  simp only [World.size_alloc] at hs
  have HO := Lib.hid (((Own.new_at w [.int .i64 y, .int .i64 m, .int .i64 d, .int .i64 h, .int .i64 i, .int .i64 s] 23 w.heap.size rfl).below ((Below.refl _ _).alloc (Nat.le_refl _) _) (by simp)).below hb (by simp; omega))
  have HP := Lib.hid ((Own.new_at (w.alloc (.cells #[.int .i64 y, .int .i64 m, .int .i64 d, .int .i64 h, .int .i64 i, .int .i64 s] 23)) [.int .i64 0, .int .i64 0, .int .i64 0, .int .i64 0, .int .i64 0, .int .i64 0] 23 (w.heap.size + 1) (by simp)).below hb (by simp))
  have HB := Lib.hid ((((Below.refl _ _).alloc (Nat.le_refl _) _).alloc (by simp) _).trans (hb.mono (by simp; omega)) : Below w.heap.size w w1)
  have hlt : w.heap.size + 1 < w1.heap.size := by omega
  clear hb hs
  have k0 := HO.out.1 0 _ rfl
  have k1 := HO.out.1 1 _ rfl
  have k2 := HO.out.1 2 _ rfl
  have k3 := HO.out.1 3 _ rfl
  have k4 := HO.out.1 4 _ rfl
  have k5 := HO.out.1 5 _ rfl
  have hf := HO.out.2
  go_upto_region 4 with (fail)
  have HO := Lib.hid (HO.out.set 5 (.int .i64 (s + 2)) (by simp))
  have HP := Lib.hid (HP.out.other (c := w.heap.size) (by omega) 5 (.int .i64 (s + 2)))
  have HB := Lib.hid (HB.out.setCell (p := ⟨w.heap.size, 5, none⟩) (by simp) (.int .i64 (s + 2)))
  have hlt' : w.heap.size + 1 < (w1.setCell ⟨w.heap.size, 5, none⟩ (.int .i64 (s + 2))).heap.size := by simpa using hlt
  clear k0 k1 k2 k3 k4 k5 hf hlt
  have hlt := hlt'
  clear hlt'
  generalize w1.setCell ⟨w.heap.size, 5, none⟩ (.int .i64 (s + 2)) = w2 at *
  have k0 := HO.out.1 0 _ rfl
  have k1 := HO.out.1 1 _ rfl
  have k2 := HO.out.1 2 _ rfl
  have k3 := HO.out.1 3 _ rfl
  have k4 := HO.out.1 4 _ rfl
  have k5 := HO.out.1 5 _ rfl
  have hf := HO.out.2
  go_upto_region 7 with (fail)
  have HO := Lib.hid (HO.out.set 5 (.int .i64 (0)) (by simp))
  have HP := Lib.hid (HP.out.other (c := w.heap.size) (by omega) 5 (.int .i64 (0)))
  have HB := Lib.hid (HB.out.setCell (p := ⟨w.heap.size, 5, none⟩) (by simp) (.int .i64 (0)))
  have hlt' : w.heap.size + 1 < (w2.setCell ⟨w.heap.size, 5, none⟩ (.int .i64 (0))).heap.size := by simpa using hlt
  clear k0 k1 k2 k3 k4 k5 hf hlt
  have hlt := hlt'
  clear hlt'
  generalize w2.setCell ⟨w.heap.size, 5, none⟩ (.int .i64 (0)) = w3 at *
  have k0 := HO.out.1 0 _ rfl
  have k1 := HO.out.1 1 _ rfl
  have k2 := HO.out.1 2 _ rfl
  have k3 := HO.out.1 3 _ rfl
  have k4 := HO.out.1 4 _ rfl
  have k5 := HO.out.1 5 _ rfl
  have hf := HO.out.2
  go_upto_region 8 with (fail)
  have HO := Lib.hid (HO.out.set 4 (.int .i64 (i + 1)) (by simp))
  have HP := Lib.hid (HP.out.other (c := w.heap.size) (by omega) 4 (.int .i64 (i + 1)))
  have HB := Lib.hid (HB.out.setCell (p := ⟨w.heap.size, 4, none⟩) (by simp) (.int .i64 (i + 1)))
  have hlt' : w.heap.size + 1 < (w3.setCell ⟨w.heap.size, 4, none⟩ (.int .i64 (i + 1))).heap.size := by simpa using hlt
  clear k0 k1 k2 k3 k4 k5 hf hlt
  have hlt := hlt'
  clear hlt'
  generalize w3.setCell ⟨w.heap.size, 4, none⟩ (.int .i64 (i + 1)) = w4 at *
  have k0 := HO.out.1 0 _ rfl
  have k1 := HO.out.1 1 _ rfl
  have k2 := HO.out.1 2 _ rfl
  have k3 := HO.out.1 3 _ rfl
  have k4 := HO.out.1 4 _ rfl
  have k5 := HO.out.1 5 _ rfl
  have hf := HO.out.2
  go_upto_region 11 with (fail)
  have HO := Lib.hid (HO.out.set 4 (.int .i64 (0)) (by simp))
  have HP := Lib.hid (HP.out.other (c := w.heap.size) (by omega) 4 (.int .i64 (0)))
  have HB := Lib.hid (HB.out.setCell (p := ⟨w.heap.size, 4, none⟩) (by simp) (.int .i64 (0)))
  have hlt' : w.heap.size + 1 < (w4.setCell ⟨w.heap.size, 4, none⟩ (.int .i64 (0))).heap.size := by simpa using hlt
  clear k0 k1 k2 k3 k4 k5 hf hlt
  have hlt := hlt'
  clear hlt'
  generalize w4.setCell ⟨w.heap.size, 4, none⟩ (.int .i64 (0)) = w5 at *
  have k0 := HO.out.1 0 _ rfl
  have k1 := HO.out.1 1 _ rfl
  have k2 := HO.out.1 2 _ rfl
  have k3 := HO.out.1 3 _ rfl
  have k4 := HO.out.1 4 _ rfl
  have k5 := HO.out.1 5 _ rfl
  have hf := HO.out.2
  go_upto_region 12 with (fail)
  have HO := Lib.hid (HO.out.set 3 (.int .i64 (h + 1)) (by simp))
  have HP := Lib.hid (HP.out.other (c := w.heap.size) (by omega) 3 (.int .i64 (h + 1)))
  have HB := Lib.hid (HB.out.setCell (p := ⟨w.heap.size, 3, none⟩) (by simp) (.int .i64 (h + 1)))
  have hlt' : w.heap.size + 1 < (w5.setCell ⟨w.heap.size, 3, none⟩ (.int .i64 (h + 1))).heap.size := by simpa using hlt
  clear k0 k1 k2 k3 k4 k5 hf hlt
  have hlt := hlt'
  clear hlt'
  generalize w5.setCell ⟨w.heap.size, 3, none⟩ (.int .i64 (h + 1)) = w6 at *
  have k0 := HO.out.1 0 _ rfl
  have k1 := HO.out.1 1 _ rfl
  have k2 := HO.out.1 2 _ rfl
  have k3 := HO.out.1 3 _ rfl
  have k4 := HO.out.1 4 _ rfl
  have k5 := HO.out.1 5 _ rfl
  have hf := HO.out.2
  go_upto_region 15 with (fail)
  have HO := Lib.hid (HO.out.set 3 (.int .i64 (0)) (by simp))
  have HP := Lib.hid (HP.out.other (c := w.heap.size) (by omega) 3 (.int .i64 (0)))
  have HB := Lib.hid (HB.out.setCell (p := ⟨w.heap.size, 3, none⟩) (by simp) (.int .i64 (0)))
  have hlt' : w.heap.size + 1 < (w6.setCell ⟨w.heap.size, 3, none⟩ (.int .i64 (0))).heap.size := by simpa using hlt
  clear k0 k1 k2 k3 k4 k5 hf hlt
  have hlt := hlt'
  clear hlt'
  generalize w6.setCell ⟨w.heap.size, 3, none⟩ (.int .i64 (0)) = w7 at *
  have k0 := HO.out.1 0 _ rfl
  have k1 := HO.out.1 1 _ rfl
  have k2 := HO.out.1 2 _ rfl
  have k3 := HO.out.1 3 _ rfl
  have k4 := HO.out.1 4 _ rfl
  have k5 := HO.out.1 5 _ rfl
  have hf := HO.out.2
  go_upto_region 16 with (fail)
  have HO := Lib.hid (HO.out.set 2 (.int .i64 (d + 1)) (by simp))
  have HP := Lib.hid (HP.out.other (c := w.heap.size) (by omega) 2 (.int .i64 (d + 1)))
  have HB := Lib.hid (HB.out.setCell (p := ⟨w.heap.size, 2, none⟩) (by simp) (.int .i64 (d + 1)))
  have hlt' : w.heap.size + 1 < (w7.setCell ⟨w.heap.size, 2, none⟩ (.int .i64 (d + 1))).heap.size := by simpa using hlt
  clear k0 k1 k2 k3 k4 k5 hf hlt
  have hlt := hlt'
  clear hlt'
  generalize w7.setCell ⟨w.heap.size, 2, none⟩ (.int .i64 (d + 1)) = w8 at *
  have k0 := HO.out.1 0 _ rfl
  have k1 := HO.out.1 1 _ rfl
  have k2 := HO.out.1 2 _ rfl
  have k3 := HO.out.1 3 _ rfl
  have k4 := HO.out.1 4 _ rfl
  have k5 := HO.out.1 5 _ rfl
  have hf := HO.out.2
  go_upto_region 16 with (fail)
  go_quiet ((go_at_call 15; exact Calls.quiet_of_same (HD.out _)))
  have HO := Lib.hid (HO.out.below (below_drewN (Below.refl _ _) nq) (show w.heap.size < w8.heap.size by omega))
  have HP := Lib.hid (HP.out.below (below_drewN (Below.refl _ _) nq) (show w.heap.size + 1 < w8.heap.size by omega))
  have HB := Lib.hid (below_drewN HB.out nq)
  have hlt' : w.heap.size + 1 < (w8.drewN nq).heap.size := hlt
  clear k0 k1 k2 k3 k4 k5 hf hlt
  have hlt := hlt'
  clear hlt'
  generalize w8.drewN nq = w9 at *
  have k0 := HO.out.1 0 _ rfl
  have k1 := HO.out.1 1 _ rfl
  have k2 := HO.out.1 2 _ rfl
  have k3 := HO.out.1 3 _ rfl
  have k4 := HO.out.1 4 _ rfl
  have k5 := HO.out.1 5 _ rfl
  have hf := HO.out.2
  go_upto_region 19 with (fail)
  have HO := Lib.hid (HO.out.set 2 (.int .i64 (1)) (by simp))
  have HP := Lib.hid (HP.out.other (c := w.heap.size) (by omega) 2 (.int .i64 (1)))
  have HB := Lib.hid (HB.out.setCell (p := ⟨w.heap.size, 2, none⟩) (by simp) (.int .i64 (1)))
  have hlt' : w.heap.size + 1 < (w9.setCell ⟨w.heap.size, 2, none⟩ (.int .i64 (1))).heap.size := by simpa using hlt
  clear k0 k1 k2 k3 k4 k5 hf hlt
  have hlt := hlt'
  clear hlt'
  generalize w9.setCell ⟨w.heap.size, 2, none⟩ (.int .i64 (1)) = w10 at *
  have k0 := HO.out.1 0 _ rfl
  have k1 := HO.out.1 1 _ rfl
  have k2 := HO.out.1 2 _ rfl
  have k3 := HO.out.1 3 _ rfl
  have k4 := HO.out.1 4 _ rfl
  have k5 := HO.out.1 5 _ rfl
  have hf := HO.out.2
  go_upto_region 20 with (fail)
  have HO := Lib.hid (HO.out.set 1 (.int .i64 (m + 1)) (by simp))
  have HP := Lib.hid (HP.out.other (c := w.heap.size) (by omega) 1 (.int .i64 (m + 1)))
  have HB := Lib.hid (HB.out.setCell (p := ⟨w.heap.size, 1, none⟩) (by simp) (.int .i64 (m + 1)))
  have hlt' : w.heap.size + 1 < (w10.setCell ⟨w.heap.size, 1, none⟩ (.int .i64 (m + 1))).heap.size := by simpa using hlt
  clear k0 k1 k2 k3 k4 k5 hf hlt
  have hlt := hlt'
  clear hlt'
  generalize w10.setCell ⟨w.heap.size, 1, none⟩ (.int .i64 (m + 1)) = w11 at *
  have k0 := HO.out.1 0 _ rfl
  have k1 := HO.out.1 1 _ rfl
  have k2 := HO.out.1 2 _ rfl
  have k3 := HO.out.1 3 _ rfl
  have k4 := HO.out.1 4 _ rfl
  have k5 := HO.out.1 5 _ rfl
  have hf := HO.out.2
  go_upto_region 23 with (fail)
  have HO := Lib.hid (HO.out.set 1 (.int .i64 (1)) (by simp))
  have HP := Lib.hid (HP.out.other (c := w.heap.size) (by omega) 1 (.int .i64 (1)))
  have HB := Lib.hid (HB.out.setCell (p := ⟨w.heap.size, 1, none⟩) (by simp) (.int .i64 (1)))
  have hlt' : w.heap.size + 1 < (w11.setCell ⟨w.heap.size, 1, none⟩ (.int .i64 (1))).heap.size := by simpa using hlt
  clear k0 k1 k2 k3 k4 k5 hf hlt
  have hlt := hlt'
  clear hlt'
  generalize w11.setCell ⟨w.heap.size, 1, none⟩ (.int .i64 (1)) = w12 at *
  have k0 := HO.out.1 0 _ rfl
  have k1 := HO.out.1 1 _ rfl
  have k2 := HO.out.1 2 _ rfl
  have k3 := HO.out.1 3 _ rfl
  have k4 := HO.out.1 4 _ rfl
  have k5 := HO.out.1 5 _ rfl
  have hf := HO.out.2
  go_upto_region 24 with (fail)
  have HO := Lib.hid (HO.out.set 0 (.int .i64 (y + 1)) (by simp))
  have HP := Lib.hid (HP.out.other (c := w.heap.size) (by omega) 0 (.int .i64 (y + 1)))
  have HB := Lib.hid (HB.out.setCell (p := ⟨w.heap.size, 0, none⟩) (by simp) (.int .i64 (y + 1)))
  have hlt' : w.heap.size + 1 < (w12.setCell ⟨w.heap.size, 0, none⟩ (.int .i64 (y + 1))).heap.size := by simpa using hlt
  clear k0 k1 k2 k3 k4 k5 hf hlt
  have hlt := hlt'
  clear hlt'
  generalize w12.setCell ⟨w.heap.size, 0, none⟩ (.int .i64 (y + 1)) = w13 at *
  have k0 := HO.out.1 0 _ rfl
  have k1 := HO.out.1 1 _ rfl
  have k2 := HO.out.1 2 _ rfl
  have k3 := HO.out.1 3 _ rfl
  have k4 := HO.out.1 4 _ rfl
  have k5 := HO.out.1 5 _ rfl
  have hf := HO.out.2
  have z0 := HP.out.1 0 _ rfl
  have z1 := HP.out.1 1 _ rfl
  have z2 := HP.out.1 2 _ rfl
  have z3 := HP.out.1 3 _ rfl
  have z4 := HP.out.1 4 _ rfl
  have z5 := HP.out.1 5 _ rfl
  have hg := HP.out.2
  go_wp2
  refine bodyPost_ret (v := .tuple #[.agg #[.int .i64 0, .int .i64 0, .int .i64 0, .int .i64 0, .int .i64 0, .int .i64 0], .int .i64 34]) (by simp [results, Try.results17, go_sem, z0, z1, z2, z3, z4, z5]) rfl ⟨rfl, ?_⟩
  exact ((((((HB.out).setCell (by simp) _).setCell (by simp) _).setCell (by simp) _).setCell (by simp) _).setCell (by simp) _).setCell (by simp) _
end Go.Proofs.Ytpobmngkafmegaa
