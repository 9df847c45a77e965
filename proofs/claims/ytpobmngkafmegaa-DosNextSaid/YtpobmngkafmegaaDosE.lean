/- The walk of DosCodes. -/
import Derived.Test.YtpobmngkafmegaaDosD
import Derived.Test.YtpobmngkafmegaaCells
namespace Go.Proofs.Ytpobmngkafmegaa
open Go.RowKit
theorem awake_any (w : World) : Calls Try.prog 6 #[] w fun e w' => e = .returned (.bool true) ∧ Below w.heap.size w w' := by
  have H := Lib.hid (fun W => encode_yes 2024 5 6 7 8 10 W (by decide))
  rw [show dateOf 2024 5 6 = 22694 from by decide, show clockOf 7 8 10 = 14597 from by decide] at H
  go_enter Try.func6, Try.ntmps6
  go_wp2_with fail
  refine (H.out _).mono ?_
  rintro e w1 ⟨rfl, hb⟩
  have HB := Lib.hid hb
  clear hb
  go_wp2
  go_ret
  exact ⟨rfl, HB.out⟩
theorem decode_enc (y m d h i s : Int) (w : World) (h0 : rightB y m d h i s = true) : Calls Try.prog 9 #[.int .u16 (dateOf y m d), .int .u16 (clockOf h i s)] w fun e w' => e = .returned (.tuple #[.agg #[.int .i64 y, .int .i64 m, .int .i64 d, .int .i64 h, .int .i64 i, .int .i64 s], .int .i64 0]) ∧ Below w.heap.size w w' := by
  obtain ⟨a1, a2, a3, a4, a5, a6, a7, a8, a9, a10, a11, a12, a13⟩ := right_elim h0
  have hdl := days_le y m
  have e1 : 1980 + dateOf y m d / 512 = y := by unfold dateOf; omega
  have e2 : dateOf y m d / 32 % 16 = m := by unfold dateOf; omega
  have e3 : dateOf y m d % 32 = d := by unfold dateOf; omega
  have e4 : clockOf h i s / 2048 = h := by unfold clockOf; omega
  have e5 : clockOf h i s / 32 % 64 = i := by unfold clockOf; omega
  have e6 : clockOf h i s % 32 * 2 = s := by unfold clockOf; omega
  have H := decode_yes (dateOf y m d) (clockOf h i s) w (by unfold dateOf; omega) (by unfold dateOf; omega) (by unfold clockOf; omega) (by unfold clockOf; omega) (by rw [e1, e2, e3, e4, e5, e6]; exact h0)
  rw [e1, e2, e3, e4, e5, e6] at H
  exact H
set_option maxRecDepth 100000 in
set_option maxHeartbeats 4000000 in
theorem dosCodes_11 (y m d h i s : Int) (D C : Int) (w : World) (hD0 : 0 ≤ D) (hD1 : D ≤ 65535) (hC0 : 0 ≤ C) (hC1 : C ≤ 65535) (h0 : rightB y m d h i s = true) (h1 : rightB (1980 + D / 512) (D / 32 % 16) (D % 32) (C / 2048) (C / 32 % 64) (C % 32 * 2) = true) :
    Calls Try.prog 3 #[.agg #[.int .i64 y, .int .i64 m, .int .i64 d, .int .i64 h, .int .i64 i, .int .i64 s], .int .u16 D, .int .u16 C] w fun e w' => e = .returned (.bool true) ∧ Below w.heap.size w w' := by
  have RR := Lib.hid (fun W => refRight_any y m d h i s W)
  have DR := Lib.hid (fun W => right_any y m d h i s W)
  rw [h0] at RR DR
  have EN := Lib.hid (fun W => encode_yes y m d h i s W h0)
  have DE := Lib.hid (fun W => decode_yes D C W hD0 hD1 hC0 hC1 h1)
  have RD := Lib.hid (fun W => refDecode_yes D C W hD0 (by omega) hC0 (by omega) h1)
  have RE := Lib.hid (fun W => refEncode_any y m d h i s W h0)
  have DD := Lib.hid (fun W => decode_enc y m d h i s W h0)
  obtain ⟨a1, a2, a3, a4, a5, a6, a7, a8, a9, a10, a11, a12, a13⟩ := right_elim h0
  have hdl := days_le y m
  have hd0 : 0 ≤ dateOf y m d := by unfold dateOf; omega
  have hd1 : dateOf y m d ≤ 65535 := by unfold dateOf; omega
  have hc0 : 0 ≤ clockOf h i s := by unfold clockOf; omega
  have hc1 : clockOf h i s ≤ 65535 := by unfold clockOf; omega
  clear a1 a2 a3 a4 a5 a6 a7 a8 a9 a10 a11 a12 a13 hdl
  clear h0 h1
  go_enter Try.func3, Try.ntmps3
  go_wp2_with fail
  refine (awake_any _).mono ?_
  rintro e w1 ⟨rfl, hb⟩
  have hs := hb.size
  simp only [World.size_alloc] at hs
  have HT := Lib.hid ((Cells.new w [Value.int .i64 y, .int .i64 m, .int .i64 d, .int .i64 h, .int .i64 i, .int .i64 s] 23).below hb (by simp))
  have HB := Lib.hid (below_new (Below.refl _ _) hb)
  clear hb
  have k0 := HT.out 0 _ rfl
  have k1 := HT.out 1 _ rfl
  have k2 := HT.out 2 _ rfl
  have k3 := HT.out 3 _ rfl
  have k4 := HT.out 4 _ rfl
  have k5 := HT.out 5 _ rfl
  go_wp2_with fail
  refine (RR.out _).mono ?_
  rintro e w2 ⟨rfl, hb⟩
  have hs2 := hb.size
  have HT := Lib.hid (HT.out.below hb (by omega))
  have HB := Lib.hid (HB.out.trans (hb.mono (by omega)))
  clear k0 k1 k2 k3 k4 k5
  clear hb
  have k0 := HT.out 0 _ rfl
  have k1 := HT.out 1 _ rfl
  have k2 := HT.out 2 _ rfl
  have k3 := HT.out 3 _ rfl
  have k4 := HT.out 4 _ rfl
  have k5 := HT.out 5 _ rfl
  go_wp2_with fail
  refine (EN.out _).mono ?_
  rintro e w3 ⟨rfl, hb⟩
  have hs3 := hb.size
  have HT := Lib.hid (HT.out.below hb (by omega))
  have HB := Lib.hid (HB.out.trans (hb.mono (by omega)))
  clear k0 k1 k2 k3 k4 k5
  clear hb
  go_wp2_with fail
  refine (DE.out _).mono ?_
  rintro e w4 ⟨rfl, hb⟩
  have hs4 := hb.size
  have HT := Lib.hid (HT.out.below hb (by omega))
  have HB := Lib.hid (HB.out.trans (hb.mono (by omega)))
  clear hb
  go_wp2_with fail
  refine (RD.out _).mono ?_
  rintro e w5 ⟨rfl, hb⟩
  have hs5 := hb.size
  simp only [World.size_alloc] at hs5
  have HX := Lib.hid ((Cells.new w4 [Value.int .i64 (1980 + D / 512), .int .i64 (D / 32 % 16), .int .i64 (D % 32), .int .i64 (C / 2048), .int .i64 (C / 32 % 64), .int .i64 (C % 32 * 2)] 23).below hb (by simp))
  have HT := Lib.hid (HT.out.below (((Below.refl w4.heap.size w4).alloc (Nat.le_refl _) _).trans (hb.mono (by simp))) (by omega))
  have HB := Lib.hid (below_new HB.out hb)
  clear hb
  have l5 : w.heap.size < w5.heap.size := by omega
  have m5 : w4.heap.size < w5.heap.size := by omega
  have k0 := HT.out 0 _ rfl
  have k1 := HT.out 1 _ rfl
  have k2 := HT.out 2 _ rfl
  have k3 := HT.out 3 _ rfl
  have k4 := HT.out 4 _ rfl
  have k5 := HT.out 5 _ rfl
  go_wp2_with fail
  refine (DR.out _).mono ?_
  rintro e w6 ⟨rfl, hb⟩
  have hs6 := hb.size
  simp only [World.size_alloc] at hs6
  have HY := Lib.hid ((Cells.new w5 [Value.int .i64 (1980 + D / 512), .int .i64 (D / 32 % 16), .int .i64 (D % 32), .int .i64 (C / 2048), .int .i64 (C / 32 % 64), .int .i64 (C % 32 * 2)] 23).below hb (by simp))
  have hb6 := ((Below.refl w5.heap.size w5).alloc (Nat.le_refl _) _).trans (hb.mono (by simp))
  have HT := Lib.hid (HT.out.below hb6 (by omega))
  have HX := Lib.hid (HX.out.below hb6 (by omega))
  have HB := Lib.hid (below_new HB.out hb)
  clear hb hb6
  clear k0 k1 k2 k3 k4 k5
  have k0 := HT.out 0 _ rfl
  have k1 := HT.out 1 _ rfl
  have k2 := HT.out 2 _ rfl
  have k3 := HT.out 3 _ rfl
  have k4 := HT.out 4 _ rfl
  have k5 := HT.out 5 _ rfl
  have x0 := HX.out 0 _ rfl
  have x1 := HX.out 1 _ rfl
  have x2 := HX.out 2 _ rfl
  have x3 := HX.out 3 _ rfl
  have x4 := HX.out 4 _ rfl
  have x5 := HX.out 5 _ rfl
  have z0 := HY.out 0 _ rfl
  have z1 := HY.out 1 _ rfl
  have z2 := HY.out 2 _ rfl
  have z3 := HY.out 3 _ rfl
  have z4 := HY.out 4 _ rfl
  have z5 := HY.out 5 _ rfl
  go_wp2_with fail
  refine (RE.out _).mono ?_
  rintro e w7 ⟨rfl, hb⟩
  have hs7 := hb.size
  have HT := Lib.hid (HT.out.below hb (by omega))
  have HB := Lib.hid (HB.out.trans (hb.mono (by omega)))
  clear hb
  clear k0 k1 k2 k3 k4 k5
  clear x0 x1 x2 x3 x4 x5
  clear z0 z1 z2 z3 z4 z5
  go_wp2_with fail
  refine (DD.out _).mono ?_
  rintro e w8 ⟨rfl, hb⟩
  have hs8 := hb.size
  have HT := Lib.hid (HT.out.below hb (by omega))
  have HB := Lib.hid (HB.out.trans (hb.mono (by omega)))
  clear hb
  have l8 : w.heap.size < w8.heap.size := by omega
  have k0 := HT.out 0 _ rfl
  have k1 := HT.out 1 _ rfl
  have k2 := HT.out 2 _ rfl
  have k3 := HT.out 3 _ rfl
  have k4 := HT.out 4 _ rfl
  have k5 := HT.out 5 _ rfl
  have y1 : (dateOf y m d == dateOf y m d) = true := by simp
  have y2 : (clockOf h i s == clockOf h i s) = true := by simp
  go_wp2
  go_ret
  exact ⟨by simp, HB.out.alloc HB.out.size _⟩
set_option maxRecDepth 100000 in
set_option maxHeartbeats 4000000 in
theorem dosCodes_10 (y m d h i s : Int) (D C : Int) (w : World) (hD0 : 0 ≤ D) (hD1 : D ≤ 65535) (hC0 : 0 ≤ C) (hC1 : C ≤ 65535) (h0 : rightB y m d h i s = true) (h1 : rightB (1980 + D / 512) (D / 32 % 16) (D % 32) (C / 2048) (C / 32 % 64) (C % 32 * 2) = false) :
    Calls Try.prog 3 #[.agg #[.int .i64 y, .int .i64 m, .int .i64 d, .int .i64 h, .int .i64 i, .int .i64 s], .int .u16 D, .int .u16 C] w fun e w' => e = .returned (.bool true) ∧ Below w.heap.size w w' := by
  have RR := Lib.hid (fun W => refRight_any y m d h i s W)
  have DR := Lib.hid (fun W => right_any y m d h i s W)
  rw [h0] at RR DR
  have EN := Lib.hid (fun W => encode_yes y m d h i s W h0)
  have DE := Lib.hid (fun W => decode_no D C W hD0 hD1 hC0 hC1 h1)
  have RD := Lib.hid (fun W => refDecode_no D C W hD0 (by omega) hC0 (by omega) h1)
  have RE := Lib.hid (fun W => refEncode_any y m d h i s W h0)
  have DD := Lib.hid (fun W => decode_enc y m d h i s W h0)
  obtain ⟨a1, a2, a3, a4, a5, a6, a7, a8, a9, a10, a11, a12, a13⟩ := right_elim h0
  have hdl := days_le y m
  have hd0 : 0 ≤ dateOf y m d := by unfold dateOf; omega
  have hd1 : dateOf y m d ≤ 65535 := by unfold dateOf; omega
  have hc0 : 0 ≤ clockOf h i s := by unfold clockOf; omega
  have hc1 : clockOf h i s ≤ 65535 := by unfold clockOf; omega
  clear a1 a2 a3 a4 a5 a6 a7 a8 a9 a10 a11 a12 a13 hdl
  clear h0 h1
  go_enter Try.func3, Try.ntmps3
  go_wp2_with fail
  refine (awake_any _).mono ?_
  rintro e w1 ⟨rfl, hb⟩
  have hs := hb.size
  simp only [World.size_alloc] at hs
  have HT := Lib.hid ((Cells.new w [Value.int .i64 y, .int .i64 m, .int .i64 d, .int .i64 h, .int .i64 i, .int .i64 s] 23).below hb (by simp))
  have HB := Lib.hid (below_new (Below.refl _ _) hb)
  clear hb
  have k0 := HT.out 0 _ rfl
  have k1 := HT.out 1 _ rfl
  have k2 := HT.out 2 _ rfl
  have k3 := HT.out 3 _ rfl
  have k4 := HT.out 4 _ rfl
  have k5 := HT.out 5 _ rfl
  go_wp2_with fail
  refine (RR.out _).mono ?_
  rintro e w2 ⟨rfl, hb⟩
  have hs2 := hb.size
  have HT := Lib.hid (HT.out.below hb (by omega))
  have HB := Lib.hid (HB.out.trans (hb.mono (by omega)))
  clear k0 k1 k2 k3 k4 k5
  clear hb
  have k0 := HT.out 0 _ rfl
  have k1 := HT.out 1 _ rfl
  have k2 := HT.out 2 _ rfl
  have k3 := HT.out 3 _ rfl
  have k4 := HT.out 4 _ rfl
  have k5 := HT.out 5 _ rfl
  go_wp2_with fail
  refine (EN.out _).mono ?_
  rintro e w3 ⟨rfl, hb⟩
  have hs3 := hb.size
  have HT := Lib.hid (HT.out.below hb (by omega))
  have HB := Lib.hid (HB.out.trans (hb.mono (by omega)))
  clear k0 k1 k2 k3 k4 k5
  clear hb
  go_wp2_with fail
  refine (DE.out _).mono ?_
  rintro e w4 ⟨rfl, hb⟩
  have hs4 := hb.size
  have HT := Lib.hid (HT.out.below hb (by omega))
  have HB := Lib.hid (HB.out.trans (hb.mono (by omega)))
  clear hb
  go_wp2_with fail
  refine (RD.out _).mono ?_
  rintro e w5 ⟨rfl, hb⟩
  have hs5 := hb.size
  simp only [World.size_alloc] at hs5
  have HX := Lib.hid ((Cells.new w4 [Value.int .i64 0, .int .i64 0, .int .i64 0, .int .i64 0, .int .i64 0, .int .i64 0] 23).below hb (by simp))
  have HT := Lib.hid (HT.out.below (((Below.refl w4.heap.size w4).alloc (Nat.le_refl _) _).trans (hb.mono (by simp))) (by omega))
  have HB := Lib.hid (below_new HB.out hb)
  clear hb
  have l5 : w.heap.size < w5.heap.size := by omega
  have m5 : w4.heap.size < w5.heap.size := by omega
  have k0 := HT.out 0 _ rfl
  have k1 := HT.out 1 _ rfl
  have k2 := HT.out 2 _ rfl
  have k3 := HT.out 3 _ rfl
  have k4 := HT.out 4 _ rfl
  have k5 := HT.out 5 _ rfl
  go_wp2_with fail
  refine (DR.out _).mono ?_
  rintro e w6 ⟨rfl, hb⟩
  have hs6 := hb.size
  simp only [World.size_alloc] at hs6
  have HY := Lib.hid ((Cells.new w5 [Value.int .i64 0, .int .i64 0, .int .i64 0, .int .i64 0, .int .i64 0, .int .i64 0] 23).below hb (by simp))
  have hb6 := ((Below.refl w5.heap.size w5).alloc (Nat.le_refl _) _).trans (hb.mono (by simp))
  have HT := Lib.hid (HT.out.below hb6 (by omega))
  have HX := Lib.hid (HX.out.below hb6 (by omega))
  have HB := Lib.hid (below_new HB.out hb)
  clear hb hb6
  clear k0 k1 k2 k3 k4 k5
  have k0 := HT.out 0 _ rfl
  have k1 := HT.out 1 _ rfl
  have k2 := HT.out 2 _ rfl
  have k3 := HT.out 3 _ rfl
  have k4 := HT.out 4 _ rfl
  have k5 := HT.out 5 _ rfl
  have x0 := HX.out 0 _ rfl
  have x1 := HX.out 1 _ rfl
  have x2 := HX.out 2 _ rfl
  have x3 := HX.out 3 _ rfl
  have x4 := HX.out 4 _ rfl
  have x5 := HX.out 5 _ rfl
  have z0 := HY.out 0 _ rfl
  have z1 := HY.out 1 _ rfl
  have z2 := HY.out 2 _ rfl
  have z3 := HY.out 3 _ rfl
  have z4 := HY.out 4 _ rfl
  have z5 := HY.out 5 _ rfl
  go_wp2_with fail
  refine (RE.out _).mono ?_
  rintro e w7 ⟨rfl, hb⟩
  have hs7 := hb.size
  have HT := Lib.hid (HT.out.below hb (by omega))
  have HB := Lib.hid (HB.out.trans (hb.mono (by omega)))
  clear hb
  clear k0 k1 k2 k3 k4 k5
  clear x0 x1 x2 x3 x4 x5
  clear z0 z1 z2 z3 z4 z5
  go_wp2_with fail
  refine (DD.out _).mono ?_
  rintro e w8 ⟨rfl, hb⟩
  have hs8 := hb.size
  have HT := Lib.hid (HT.out.below hb (by omega))
  have HB := Lib.hid (HB.out.trans (hb.mono (by omega)))
  clear hb
  have l8 : w.heap.size < w8.heap.size := by omega
  have k0 := HT.out 0 _ rfl
  have k1 := HT.out 1 _ rfl
  have k2 := HT.out 2 _ rfl
  have k3 := HT.out 3 _ rfl
  have k4 := HT.out 4 _ rfl
  have k5 := HT.out 5 _ rfl
  have y1 : (dateOf y m d == dateOf y m d) = true := by simp
  have y2 : (clockOf h i s == clockOf h i s) = true := by simp
  go_wp2
  go_ret
  exact ⟨by simp, HB.out.alloc HB.out.size _⟩
set_option maxRecDepth 100000 in
set_option maxHeartbeats 4000000 in
theorem dosCodes_01 (y m d h i s : Int) (D C : Int) (w : World) (hD0 : 0 ≤ D) (hD1 : D ≤ 65535) (hC0 : 0 ≤ C) (hC1 : C ≤ 65535) (h0 : rightB y m d h i s = false) (h1 : rightB (1980 + D / 512) (D / 32 % 16) (D % 32) (C / 2048) (C / 32 % 64) (C % 32 * 2) = true) :
    Calls Try.prog 3 #[.agg #[.int .i64 y, .int .i64 m, .int .i64 d, .int .i64 h, .int .i64 i, .int .i64 s], .int .u16 D, .int .u16 C] w fun e w' => e = .returned (.bool true) ∧ Below w.heap.size w w' := by
  have RR := Lib.hid (fun W => refRight_any y m d h i s W)
  have DR := Lib.hid (fun W => right_any y m d h i s W)
  rw [h0] at RR DR
  have EN := Lib.hid (fun W => encode_no y m d h i s W h0)
  have DE := Lib.hid (fun W => decode_yes D C W hD0 hD1 hC0 hC1 h1)
  have RD := Lib.hid (fun W => refDecode_yes D C W hD0 (by omega) hC0 (by omega) h1)
  clear h0 h1
  go_enter Try.func3, Try.ntmps3
  go_wp2_with fail
  refine (awake_any _).mono ?_
  rintro e w1 ⟨rfl, hb⟩
  have hs := hb.size
  simp only [World.size_alloc] at hs
  have HT := Lib.hid ((Cells.new w [Value.int .i64 y, .int .i64 m, .int .i64 d, .int .i64 h, .int .i64 i, .int .i64 s] 23).below hb (by simp))
  have HB := Lib.hid (below_new (Below.refl _ _) hb)
  clear hb
  have k0 := HT.out 0 _ rfl
  have k1 := HT.out 1 _ rfl
  have k2 := HT.out 2 _ rfl
  have k3 := HT.out 3 _ rfl
  have k4 := HT.out 4 _ rfl
  have k5 := HT.out 5 _ rfl
  go_wp2_with fail
  refine (RR.out _).mono ?_
  rintro e w2 ⟨rfl, hb⟩
  have hs2 := hb.size
  have HT := Lib.hid (HT.out.below hb (by omega))
  have HB := Lib.hid (HB.out.trans (hb.mono (by omega)))
  clear k0 k1 k2 k3 k4 k5
  clear hb
  have k0 := HT.out 0 _ rfl
  have k1 := HT.out 1 _ rfl
  have k2 := HT.out 2 _ rfl
  have k3 := HT.out 3 _ rfl
  have k4 := HT.out 4 _ rfl
  have k5 := HT.out 5 _ rfl
  go_wp2_with fail
  refine (EN.out _).mono ?_
  rintro e w3 ⟨rfl, hb⟩
  have hs3 := hb.size
  have HT := Lib.hid (HT.out.below hb (by omega))
  have HB := Lib.hid (HB.out.trans (hb.mono (by omega)))
  clear k0 k1 k2 k3 k4 k5
  clear hb
  go_wp2_with fail
  refine (DE.out _).mono ?_
  rintro e w4 ⟨rfl, hb⟩
  have hs4 := hb.size
  have HT := Lib.hid (HT.out.below hb (by omega))
  have HB := Lib.hid (HB.out.trans (hb.mono (by omega)))
  clear hb
  go_wp2_with fail
  refine (RD.out _).mono ?_
  rintro e w5 ⟨rfl, hb⟩
  have hs5 := hb.size
  simp only [World.size_alloc] at hs5
  have HX := Lib.hid ((Cells.new w4 [Value.int .i64 (1980 + D / 512), .int .i64 (D / 32 % 16), .int .i64 (D % 32), .int .i64 (C / 2048), .int .i64 (C / 32 % 64), .int .i64 (C % 32 * 2)] 23).below hb (by simp))
  have HT := Lib.hid (HT.out.below (((Below.refl w4.heap.size w4).alloc (Nat.le_refl _) _).trans (hb.mono (by simp))) (by omega))
  have HB := Lib.hid (below_new HB.out hb)
  clear hb
  have l5 : w.heap.size < w5.heap.size := by omega
  have m5 : w4.heap.size < w5.heap.size := by omega
  have k0 := HT.out 0 _ rfl
  have k1 := HT.out 1 _ rfl
  have k2 := HT.out 2 _ rfl
  have k3 := HT.out 3 _ rfl
  have k4 := HT.out 4 _ rfl
  have k5 := HT.out 5 _ rfl
  go_wp2_with fail
  refine (DR.out _).mono ?_
  rintro e w6 ⟨rfl, hb⟩
  have hs6 := hb.size
  simp only [World.size_alloc] at hs6
  have HY := Lib.hid ((Cells.new w5 [Value.int .i64 (1980 + D / 512), .int .i64 (D / 32 % 16), .int .i64 (D % 32), .int .i64 (C / 2048), .int .i64 (C / 32 % 64), .int .i64 (C % 32 * 2)] 23).below hb (by simp))
  have hb6 := ((Below.refl w5.heap.size w5).alloc (Nat.le_refl _) _).trans (hb.mono (by simp))
  have HT := Lib.hid (HT.out.below hb6 (by omega))
  have HX := Lib.hid (HX.out.below hb6 (by omega))
  have HB := Lib.hid (below_new HB.out hb)
  clear hb hb6
  clear k0 k1 k2 k3 k4 k5
  have k0 := HT.out 0 _ rfl
  have k1 := HT.out 1 _ rfl
  have k2 := HT.out 2 _ rfl
  have k3 := HT.out 3 _ rfl
  have k4 := HT.out 4 _ rfl
  have k5 := HT.out 5 _ rfl
  have x0 := HX.out 0 _ rfl
  have x1 := HX.out 1 _ rfl
  have x2 := HX.out 2 _ rfl
  have x3 := HX.out 3 _ rfl
  have x4 := HX.out 4 _ rfl
  have x5 := HX.out 5 _ rfl
  have z0 := HY.out 0 _ rfl
  have z1 := HY.out 1 _ rfl
  have z2 := HY.out 2 _ rfl
  have z3 := HY.out 3 _ rfl
  have z4 := HY.out 4 _ rfl
  have z5 := HY.out 5 _ rfl
  go_wp2
  go_ret
  exact ⟨by simp, HB.out⟩
set_option maxRecDepth 100000 in
set_option maxHeartbeats 4000000 in
theorem dosCodes_00 (y m d h i s : Int) (D C : Int) (w : World) (hD0 : 0 ≤ D) (hD1 : D ≤ 65535) (hC0 : 0 ≤ C) (hC1 : C ≤ 65535) (h0 : rightB y m d h i s = false) (h1 : rightB (1980 + D / 512) (D / 32 % 16) (D % 32) (C / 2048) (C / 32 % 64) (C % 32 * 2) = false) :
    Calls Try.prog 3 #[.agg #[.int .i64 y, .int .i64 m, .int .i64 d, .int .i64 h, .int .i64 i, .int .i64 s], .int .u16 D, .int .u16 C] w fun e w' => e = .returned (.bool true) ∧ Below w.heap.size w w' := by
  have RR := Lib.hid (fun W => refRight_any y m d h i s W)
  have DR := Lib.hid (fun W => right_any y m d h i s W)
  rw [h0] at RR DR
  have EN := Lib.hid (fun W => encode_no y m d h i s W h0)
  have DE := Lib.hid (fun W => decode_no D C W hD0 hD1 hC0 hC1 h1)
  have RD := Lib.hid (fun W => refDecode_no D C W hD0 (by omega) hC0 (by omega) h1)
  clear h0 h1
  go_enter Try.func3, Try.ntmps3
  go_wp2_with fail
  refine (awake_any _).mono ?_
  rintro e w1 ⟨rfl, hb⟩
  have hs := hb.size
  simp only [World.size_alloc] at hs
  have HT := Lib.hid ((Cells.new w [Value.int .i64 y, .int .i64 m, .int .i64 d, .int .i64 h, .int .i64 i, .int .i64 s] 23).below hb (by simp))
  have HB := Lib.hid (below_new (Below.refl _ _) hb)
  clear hb
  have k0 := HT.out 0 _ rfl
  have k1 := HT.out 1 _ rfl
  have k2 := HT.out 2 _ rfl
  have k3 := HT.out 3 _ rfl
  have k4 := HT.out 4 _ rfl
  have k5 := HT.out 5 _ rfl
  go_wp2_with fail
  refine (RR.out _).mono ?_
  rintro e w2 ⟨rfl, hb⟩
  have hs2 := hb.size
  have HT := Lib.hid (HT.out.below hb (by omega))
  have HB := Lib.hid (HB.out.trans (hb.mono (by omega)))
  clear k0 k1 k2 k3 k4 k5
  clear hb
  have k0 := HT.out 0 _ rfl
  have k1 := HT.out 1 _ rfl
  have k2 := HT.out 2 _ rfl
  have k3 := HT.out 3 _ rfl
  have k4 := HT.out 4 _ rfl
  have k5 := HT.out 5 _ rfl
  go_wp2_with fail
  refine (EN.out _).mono ?_
  rintro e w3 ⟨rfl, hb⟩
  have hs3 := hb.size
  have HT := Lib.hid (HT.out.below hb (by omega))
  have HB := Lib.hid (HB.out.trans (hb.mono (by omega)))
  clear k0 k1 k2 k3 k4 k5
  clear hb
  go_wp2_with fail
  refine (DE.out _).mono ?_
  rintro e w4 ⟨rfl, hb⟩
  have hs4 := hb.size
  have HT := Lib.hid (HT.out.below hb (by omega))
  have HB := Lib.hid (HB.out.trans (hb.mono (by omega)))
  clear hb
  go_wp2_with fail
  refine (RD.out _).mono ?_
  rintro e w5 ⟨rfl, hb⟩
  have hs5 := hb.size
  simp only [World.size_alloc] at hs5
  have HX := Lib.hid ((Cells.new w4 [Value.int .i64 0, .int .i64 0, .int .i64 0, .int .i64 0, .int .i64 0, .int .i64 0] 23).below hb (by simp))
  have HT := Lib.hid (HT.out.below (((Below.refl w4.heap.size w4).alloc (Nat.le_refl _) _).trans (hb.mono (by simp))) (by omega))
  have HB := Lib.hid (below_new HB.out hb)
  clear hb
  have l5 : w.heap.size < w5.heap.size := by omega
  have m5 : w4.heap.size < w5.heap.size := by omega
  have k0 := HT.out 0 _ rfl
  have k1 := HT.out 1 _ rfl
  have k2 := HT.out 2 _ rfl
  have k3 := HT.out 3 _ rfl
  have k4 := HT.out 4 _ rfl
  have k5 := HT.out 5 _ rfl
  go_wp2_with fail
  refine (DR.out _).mono ?_
  rintro e w6 ⟨rfl, hb⟩
  have hs6 := hb.size
  simp only [World.size_alloc] at hs6
  have HY := Lib.hid ((Cells.new w5 [Value.int .i64 0, .int .i64 0, .int .i64 0, .int .i64 0, .int .i64 0, .int .i64 0] 23).below hb (by simp))
  have hb6 := ((Below.refl w5.heap.size w5).alloc (Nat.le_refl _) _).trans (hb.mono (by simp))
  have HT := Lib.hid (HT.out.below hb6 (by omega))
  have HX := Lib.hid (HX.out.below hb6 (by omega))
  have HB := Lib.hid (below_new HB.out hb)
  clear hb hb6
  clear k0 k1 k2 k3 k4 k5
  have k0 := HT.out 0 _ rfl
  have k1 := HT.out 1 _ rfl
  have k2 := HT.out 2 _ rfl
  have k3 := HT.out 3 _ rfl
  have k4 := HT.out 4 _ rfl
  have k5 := HT.out 5 _ rfl
  have x0 := HX.out 0 _ rfl
  have x1 := HX.out 1 _ rfl
  have x2 := HX.out 2 _ rfl
  have x3 := HX.out 3 _ rfl
  have x4 := HX.out 4 _ rfl
  have x5 := HX.out 5 _ rfl
  have z0 := HY.out 0 _ rfl
  have z1 := HY.out 1 _ rfl
  have z2 := HY.out 2 _ rfl
  have z3 := HY.out 3 _ rfl
  have z4 := HY.out 4 _ rfl
  have z5 := HY.out 5 _ rfl
  go_wp2
  go_ret
  exact ⟨by simp, HB.out⟩
theorem dosCodes_walk (y m d h i s : Int) (D C : Int) (w : World) (hD0 : 0 ≤ D) (hD1 : D ≤ 65535) (hC0 : 0 ≤ C) (hC1 : C ≤ 65535) :
    Calls Try.prog 3 #[.agg #[.int .i64 y, .int .i64 m, .int .i64 d, .int .i64 h, .int .i64 i, .int .i64 s], .int .u16 D, .int .u16 C] w fun e w' => e = .returned (.bool true) ∧ Below w.heap.size w w' := by
  cases h0 : rightB y m d h i s with
  | true =>
    cases h1 : rightB (1980 + D / 512) (D / 32 % 16) (D % 32) (C / 2048) (C / 32 % 64) (C % 32 * 2) with
    | true => exact dosCodes_11 y m d h i s D C w hD0 hD1 hC0 hC1 h0 h1
    | false => exact dosCodes_10 y m d h i s D C w hD0 hD1 hC0 hC1 h0 h1
  | false =>
    cases h1 : rightB (1980 + D / 512) (D / 32 % 16) (D % 32) (C / 2048) (C / 32 % 64) (C % 32 * 2) with
    | true => exact dosCodes_01 y m d h i s D C w hD0 hD1 hC0 hC1 h0 h1
    | false => exact dosCodes_00 y m d h i s D C w hD0 hD1 hC0 hC1 h0 h1
end Go.Proofs.Ytpobmngkafmegaa
