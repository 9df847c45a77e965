/- The law OctetBack, whatever the input. -/
import Derived.Test.YtephiopgpfdchaaOctJ
namespace Go.Proofs.Ytephiopgpfdchaa
open Go.RowKit
set_option maxHeartbeats 2000000 in
set_option maxRecDepth 100000 in
theorem back_no (ad : Option Addr) (c : Nat) (l : List UInt8) (q1 q2 v : Nat) (w : World) (h : Byt w w.heap.size (.slice ad l.length c) l) (hl : l.length ≤ 1000) (hl0 : 0 < l.length) (hb1 : q1 ≤ 255) (hb2 : q2 ≤ 255) (hex : existsB l.length (q1 % l.length : Nat) (1 + q2 % 8 : Nat) = false) :
    Calls Try.prog 4 #[.slice ad l.length c, .agg #[.int .u8 (q1 : Nat), .int .u8 (q2 : Nat)], .int .u64 (v : Nat)] w (numbersQ w) := by
  have hl8 : l.length ≤ 100000000 := by omega
  obtain ⟨p, hp⟩ : ∃ p, p = q1 % l.length := ⟨_, rfl⟩
  obtain ⟨n, hn⟩ : ∃ n, n = 1 + q2 % 8 := ⟨_, rfl⟩
  have hpl : p < l.length := by rw [hp]; exact Nat.mod_lt _ hl0
  have n1 : 1 ≤ n := by omega
  have n2 : n ≤ 8 := by omega
  have hm1 : Int.tmod (q1 : Int) (l.length : Int) = (p : Int) := by rw [hp, Int.tmod_eq_emod_of_nonneg (by omega)]; simp
  have hm2 : 1 + Int.tmod (q2 : Int) 8 = (n : Int) := by rw [hn, Int.tmod_eq_emod_of_nonneg (by omega)]; simp
  have hm3 : 1 + (q2 : Int) % 8 = (n : Int) := by rw [hn]; simp
  have hm4 : (q1 : Int) % (l.length : Int) = (p : Int) := by rw [hp]; simp
  rw [← hp, ← hn] at hex
  clear hp hn
  have HH := Lib.hid h
  have HA : Hid (Below w.heap.size w (w.alloc (.cells #[.int .u8 (q1 : Nat), .int .u8 (q2 : Nat)] 39))) := (Below.refl _ _).alloc (Nat.le_refl _) _
  have hl1 : decide ((l.length : Int) > 1000) = false := by simp; omega
  have hl2 : decide (1000 < (l.length : Int)) = false := by simp; omega
  have hl3 : ((l.length : Int) == 0) = false := by rw [beq_eq_false_iff_ne]; omega
  have hl4 : ¬ ((l.length : Int) = 0) := by omega
  have hgt : decide ((l.length : Int) - (p : Int) < (n : Int)) = true := by
    simp [existsB, rightW_true (show (1 : Int) ≤ n by omega) (by omega)] at hex
    simp; omega
  clear h
  go_enter Try.func4, Try.ntmps4
  go_wp2_with fail
  refine (awake_any _).mono ?_
  rintro e w1 ⟨rfl, hb⟩
  have hs1 := hb.size
  have hs2 := HA.out.size
  have hc0 : w1.cell? ⟨w.heap.size, 0, none⟩ = some (.int .u8 (q1 : Nat)) := (hb.cell (p := ⟨w.heap.size, 0, none⟩) (by simp)).trans (by go_simp)
  have hc1 : w1.cell? ⟨w.heap.size, 1, none⟩ = some (.int .u8 (q2 : Nat)) := (hb.cell (p := ⟨w.heap.size, 1, none⟩) (by simp)).trans (by go_simp)
  have HB1 : Hid (Below w.heap.size w w1) := HA.out.trans (hb.mono hs2)
  clear hb HA
  go_wp2_with fail
  go_quiet (fail)
  clear hc0 hc1
  have HBq : Hid (Below w.heap.size w (w1.drewN nq)) := ⟨HB1.out.os, HB1.out.tape, HB1.out.output, HB1.out.size, HB1.out.block⟩
  go_wp2_with fail
  refine (put_no ad c l p n v _ (HH.out.below HBq.out) hl8 (by omega) hex).mono ?_
  rintro e w6 ⟨y, rfl, ho, hb⟩
  have HB3 : Hid (Below w.heap.size w w6) := HBq.out.trans (hb.mono HBq.out.size)
  have hcv1 := convert_byt (src := 22) (dst := 9) (e := 5) rfl rfl rfl (Byt.of_own ho)
  have hcv2 := convert_byt (src := 22) (dst := 9) (e := 5) rfl rfl rfl (HH.out.below HB3.out)
  clear ho hb
  go_wp2
  go_ret
  exact ⟨rfl, HB3.out⟩
set_option maxHeartbeats 2000000 in
set_option maxRecDepth 100000 in
theorem back_fit (ad : Option Addr) (c : Nat) (l : List UInt8) (q1 q2 v : Nat) (w : World) (h : Byt w w.heap.size (.slice ad l.length c) l) (hl : l.length ≤ 1000) (hl0 : 0 < l.length) (hb1 : q1 ≤ 255) (hb2 : q2 ≤ 255) (hv : v < 18446744073709551616) (hc : l.length ≤ c) (hex : existsB l.length (q1 % l.length : Nat) (1 + q2 % 8 : Nat) = true) (hfv : fitsB v (1 + q2 % 8 : Nat) = true) :
    Calls Try.prog 4 #[.slice ad l.length c, .agg #[.int .u8 (q1 : Nat), .int .u8 (q2 : Nat)], .int .u64 (v : Nat)] w (numbersQ w) := by
  have hl8 : l.length ≤ 100000000 := by omega
  obtain ⟨p, hp⟩ : ∃ p, p = q1 % l.length := ⟨_, rfl⟩
  obtain ⟨n, hn⟩ : ∃ n, n = 1 + q2 % 8 := ⟨_, rfl⟩
  have hpl : p < l.length := by rw [hp]; exact Nat.mod_lt _ hl0
  have n1 : 1 ≤ n := by omega
  have n2 : n ≤ 8 := by omega
  have hm1 : Int.tmod (q1 : Int) (l.length : Int) = (p : Int) := by rw [hp, Int.tmod_eq_emod_of_nonneg (by omega)]; simp
  have hm2 : 1 + Int.tmod (q2 : Int) 8 = (n : Int) := by rw [hn, Int.tmod_eq_emod_of_nonneg (by omega)]; simp
  have hm3 : 1 + (q2 : Int) % 8 = (n : Int) := by rw [hn]; simp
  have hm4 : (q1 : Int) % (l.length : Int) = (p : Int) := by rw [hp]; simp
  rw [← hp, ← hn] at hex
  rw [← hn] at hfv
  clear hp hn
  have HH := Lib.hid h
  have HA : Hid (Below w.heap.size w (w.alloc (.cells #[.int .u8 (q1 : Nat), .int .u8 (q2 : Nat)] 39))) := (Below.refl _ _).alloc (Nat.le_refl _) _
  have hl1 : decide ((l.length : Int) > 1000) = false := by simp; omega
  have hl2 : decide (1000 < (l.length : Int)) = false := by simp; omega
  have hl3 : ((l.length : Int) == 0) = false := by rw [beq_eq_false_iff_ne]; omega
  have hl4 : ¬ ((l.length : Int) = 0) := by omega
  have hpn : p + n ≤ l.length := by
    have := existsB_elim hex
    omega
  have hbl := byt_length n v
  have HFV := Lib.hid (fun W => fits_any v n W hv)
  rw [hfv] at HFV
  have h256 : 256 ^ n ≤ 18446744073709551616 := by
    have := pow256_le n2
    have h3 : 256 ^ 8 = 18446744073709551616 := by decide
    omega
  have hmod := Nat.mod_lt v (show 0 < 256 ^ n from Nat.pow_pos (by decide))
  have hxx : v % 256 ^ n = v := by
    simp [fitsB] at hfv
    exact Nat.mod_eq_of_lt hfv.2
  have HFX : Hid (∀ W, Calls Try.prog 10 #[.int .u64 (((v : Nat)) : Nat), .int .i64 (n : Nat)] W fun e w' => e = .returned (.bool true) ∧ w' = W) := by
    intro W
    have := fits_any (v) n W (by omega)
    rw [show fitsB (v) n = true from by simp [fitsB, rightW_true (show (1 : Int) ≤ n by omega) (show (n : Int) ≤ 8 by omega)]; omega] at this
    exact this
  have hsub : num (((putAt l p (byt n v)).drop p).take n) = v := by
    have e1 : (putAt l p (byt n v)).drop p = byt n v ++ l.drop (p + (byt n v).length) := by
      rw [putAt, List.drop_left' (by rw [List.length_take]; omega)]
    rw [e1, List.take_left' hbl, num_byt, hxx]
  have htk : (putAt l p (byt n v)).take p = l.take p := by
    rw [putAt, List.take_left' (by rw [List.length_take]; omega)]
  have hdr : (putAt l p (byt n v)).drop (p + n) = l.drop (p + n) := by
    have e1 : putAt l p (byt n v) = (l.take p ++ byt n v) ++ l.drop (p + n) := by rw [putAt, hbl, List.append_assoc]
    rw [e1, List.drop_left' (by rw [List.length_append, List.length_take]; omega)]
  have hpl2 : (putAt l p (byt n v)).length = l.length := putAt_length _ _ _ (by omega)
  have HWR : Hid (IntKind.i64.wrap ((p : Int) + (n : Int)) = (p : Int) + (n : Int)) := IntWalk.i64_in _ (by omega)
  have HSL2 := Lib.hid (fun W => slice_h (t := 22) (e := 5) (size := 1) rfl size_u8 ad l.length c (p : Int) (by omega) (by omega) W)
  have HSL4 := Lib.hid (fun W => slice_l (t := 22) (e := 5) (size := 1) rfl size_u8 ad l.length c ((p : Int) + (n : Int)) (by omega) (by omega) W)
  rw [Int.toNat_natCast, Nat.sub_zero, Nat.sub_zero] at HSL2
  rw [show ((p : Int) + (n : Int)).toNat = p + n from by omega] at HSL4
  have HS2 := Lib.hid (sub_byt h 0 p (by omega))
  have HS4 := Lib.hid (sub_byt h (p + n) (l.length - (p + n)) (by omega))
  rw [List.drop_zero, Nat.sub_zero] at HS2
  rw [List.take_of_length_le (by rw [List.length_drop]; omega)] at HS4
  generalize Value.slice (if c = 0 then ad else ad.map (·.add (0 * 1))) p c = s2 at HSL2 HS2
  generalize Value.slice (if c = p + n then ad else ad.map (·.add ((p + n) * 1))) (l.length - (p + n)) (c - (p + n)) = s4 at HSL4 HS4
  clear h
  go_enter Try.func4, Try.ntmps4
  go_wp2_with fail
  refine (awake_any _).mono ?_
  rintro e w1 ⟨rfl, hb⟩
  have hs1 := hb.size
  have hs2 := HA.out.size
  have hc0 : w1.cell? ⟨w.heap.size, 0, none⟩ = some (.int .u8 (q1 : Nat)) := (hb.cell (p := ⟨w.heap.size, 0, none⟩) (by simp)).trans (by go_simp)
  have hc1 : w1.cell? ⟨w.heap.size, 1, none⟩ = some (.int .u8 (q2 : Nat)) := (hb.cell (p := ⟨w.heap.size, 1, none⟩) (by simp)).trans (by go_simp)
  have HB1 : Hid (Below w.heap.size w w1) := HA.out.trans (hb.mono hs2)
  clear hb HA
  go_wp2_with fail
  go_quiet (fail)
  clear hc0 hc1
  have HBq : Hid (Below w.heap.size w (w1.drewN nq)) := ⟨HB1.out.os, HB1.out.tape, HB1.out.output, HB1.out.size, HB1.out.block⟩
  go_wp2_with fail
  refine (put_yes ad c l p n v _ (HH.out.below HBq.out) hl8 hv hex).mono ?_
  rintro e w6 ⟨y, rfl, ho, hb⟩
  rw [Int.toNat_natCast, Int.toNat_natCast] at ho
  have hy : Byt w6 w6.heap.size y (putAt l p (byt n v)) := Byt.of_own (by rw [hpl2]; exact ho)
  obtain ⟨yb, yo, yc, rfl, hyc⟩ : ∃ yb yo yc, y = .slice (some ⟨yb, yo, none⟩) l.length yc ∧ l.length ≤ yc := by
    rcases hy with ⟨_, _, _, h0, _⟩ | ⟨yb, yo, yc, h1, h2, _⟩
    · rw [h0] at hpl2; simp at hpl2; omega
    · rw [hpl2] at h1 h2; exact ⟨yb, yo, yc, h1, h2⟩
  have hy2 := hy
  rw [← hpl2] at hy2 hyc
  have hG := get_yes _ yc _ _ (p : Int) (n : Int) w6 hy2 (by omega) hyc (by rw [hpl2]; exact hex)
  have hs1 := sub_byt hy2 0 p (by omega)
  have hs3 := sub_byt hy2 (p + n) (l.length - (p + n)) (by omega)
  rw [Int.toNat_natCast, Int.toNat_natCast, hsub] at hG
  rw [hpl2] at hG hyc
  have HG := Lib.hid hG
  have HSL1 := Lib.hid (fun W => slice_h (t := 22) (e := 5) (size := 1) rfl size_u8 (some ⟨yb, yo, none⟩) l.length yc (p : Int) (by omega) (by omega) W)
  have HSL3 := Lib.hid (fun W => slice_l (t := 22) (e := 5) (size := 1) rfl size_u8 (some ⟨yb, yo, none⟩) l.length yc ((p : Int) + (n : Int)) (by omega) (by omega) W)
  rw [Int.toNat_natCast, Nat.sub_zero, Nat.sub_zero] at HSL1
  rw [show ((p : Int) + (n : Int)).toNat = p + n from by omega] at HSL3
  rw [List.drop_zero, Nat.sub_zero, htk] at hs1
  rw [hdr, List.take_of_length_le (by rw [List.length_drop]; omega)] at hs3
  have HS1 := Lib.hid hs1
  have HS3 := Lib.hid hs3
  generalize Value.slice (if yc = 0 then some ⟨yb, yo, none⟩ else (some (⟨yb, yo, none⟩ : Addr)).map (·.add (0 * 1))) p yc = s1 at HSL1 HS1
  generalize Value.slice (if yc = p + n then some ⟨yb, yo, none⟩ else (some (⟨yb, yo, none⟩ : Addr)).map (·.add ((p + n) * 1))) (l.length - (p + n)) (yc - (p + n)) = s3 at HSL3 HS3
  have HB3 : Hid (Below w.heap.size w w6) := HBq.out.trans (hb.mono HBq.out.size)
  replace HS2 := Lib.hid (HS2.out.below HB3.out)
  replace HS4 := Lib.hid (HS4.out.below HB3.out)
  have hBs := HB3.out.size
  have hYs := Nat.le_refl w6.heap.size
  clear ho hb hy hy2 hs1 hs3 hG
  go_wp2_with fail
  refine HG.out.mono ?_
  rintro e w7 ⟨rfl, rfl⟩
  go_wp2_with fail
  refine Mono.region_list (fun W W' => Below W.heap.size W W') (by kernel_rfl) (by kernel_rfl) (by kernel_rfl) hRr hRt ?_
  change Mono.RGL _ _ _ w7.drew _ _ _ _
  refine Mono.rgl_val (v := ?v0) rfl hRr (fun ρ a W hR hd hf => ?h0) ?_
  case h0 =>
    have e12 := Mono.init_get hf (t := 12) (by kernel_rfl)
    clear hd hf
    (go_simp; try with_reducible rfl)
  refine Mono.rgl_val (v := ?v1) rfl hRr (fun ρ a W hR hd hf => ?h1) ?_
  case h1 =>
    have e64 := Mono.dep_val hd hf (t := 64) (k := 0) (by kernel_rfl) rfl
    clear hd hf
    (go_simp; try with_reducible rfl)
  refine Mono.rgl_valg (v := ?v2) rfl hRr (fun ρ W hd => Mono.guard_val hd (t := 65) (k := 1) (by kernel_rfl) rfl) (fun ρ a W hR hd hf => ?h2) ?_
  case h2 =>
    have e11 := Mono.init_get hf (t := 11) (by kernel_rfl)
    clear hd hf
    (go_simp; try with_reducible rfl)
  refine Mono.rgl_valg (v := ?v3) rfl hRr (fun ρ W hd => Mono.guard_val hd (t := 65) (k := 1) (by kernel_rfl) rfl) (fun ρ a W hR hd hf => ?h3) ?_
  case h3 =>
    have e8 := Mono.init_get hf (t := 8) (by kernel_rfl)
    clear hd hf
    (go_simp; try with_reducible rfl)
  refine Mono.rgl_callg (fun x _ => x = .bool true) rfl hRr (fun _ _ _ h _ => h) (fun ρ W hd => Mono.guard_val hd (t := 65) (k := 1) (by kernel_rfl) rfl) (fun ρ a W hR hd hf => ?h4) ?_
  case h4 =>
    have e66 := Mono.dep_val hd hf (t := 66) (k := 2) (by kernel_rfl) rfl
    have e67 := Mono.dep_val hd hf (t := 67) (k := 3) (by kernel_rfl) rfl
    clear hd hf
    refine ⟨_, _, by go_simp; first | rfl | exact ⟨rfl, rfl⟩, ?_⟩
    exact (HFX.out W).mono (fun e W' ⟨he, hw⟩ => ⟨_, he, hw ▸ hRr _, rfl⟩)
  refine Mono.rgl_val (v := ?v5) rfl hRr (fun ρ a W hR hd hf => ?h5) ?_
  case h5 =>
    have e65 := Mono.dep_val hd hf (t := 65) (k := 1) (by kernel_rfl) rfl
    have e68 := Mono.dep_val hd hf (t := 68) (k := 4) (by kernel_rfl) rfl
    clear hd hf
    (go_simp; try with_reducible rfl)
  refine Mono.rgl_val (v := ?v6) rfl hRr (fun ρ a W hR hd hf => ?h6) ?_
  case h6 =>
    have e69 := Mono.dep_val hd hf (t := 69) (k := 5) (by kernel_rfl) rfl
    clear hd hf
    (go_simp; try with_reducible rfl)
  refine Mono.rgl_valg (v := ?v7) rfl hRr (fun ρ W hd => Mono.guard_val hd (t := 70) (k := 6) (by kernel_rfl) rfl) (fun ρ a W hR hd hf => ?h7) ?_
  case h7 =>
    have e2 := Mono.init_get hf (t := 2) (by kernel_rfl)
    clear hd hf
    (go_simp; try with_reducible rfl)
  refine Mono.rgl_valg (v := ?v8) rfl hRr (fun ρ W hd => Mono.guard_val hd (t := 70) (k := 6) (by kernel_rfl) rfl) (fun ρ a W hR hd hf => ?h8) ?_
  case h8 =>
    have e8 := Mono.init_get hf (t := 8) (by kernel_rfl)
    clear hd hf
    (go_simp; try with_reducible rfl)
  refine Mono.rgl_callg (fun x _ => x = .bool true) rfl hRr (fun _ _ _ h _ => h) (fun ρ W hd => Mono.guard_val hd (t := 70) (k := 6) (by kernel_rfl) rfl) (fun ρ a W hR hd hf => ?h9) ?_
  case h9 =>
    have e71 := Mono.dep_val hd hf (t := 71) (k := 7) (by kernel_rfl) rfl
    have e72 := Mono.dep_val hd hf (t := 72) (k := 8) (by kernel_rfl) rfl
    clear hd hf
    refine ⟨_, _, by go_simp; first | rfl | exact ⟨rfl, rfl⟩, ?_⟩
    exact (HFV.out W).mono (fun e W' ⟨he, hw⟩ => ⟨_, he, hw ▸ hRr _, rfl⟩)
  refine Mono.rgl_valg (v := ?v10) rfl hRr (fun ρ W hd => Mono.guard_val hd (t := 70) (k := 6) (by kernel_rfl) rfl) (fun ρ a W hR hd hf => ?h10) ?_
  case h10 =>
    have e73 := Mono.dep_val hd hf (t := 73) (k := 9) (by kernel_rfl) rfl
    clear hd hf
    (go_simp; try with_reducible rfl)
  refine Mono.rgl_valg (v := ?v11) rfl hRr (fun ρ W hd => Mono.guard_val hd (t := 70) (k := 6) (by kernel_rfl) rfl) (fun ρ a W hR hd hf => ?h11) ?_
  case h11 =>
    have e74 := Mono.dep_val hd hf (t := 74) (k := 10) (by kernel_rfl) rfl
    clear hd hf
    (go_simp; try with_reducible rfl)
  refine Mono.rgl_valg (v := ?v12) rfl hRr (fun ρ W hd => Mono.guard_val hd (t := 75) (k := 11) (by kernel_rfl) rfl) (fun ρ a W hR hd hf => ?h12) ?_
  case h12 =>
    have e11 := Mono.init_get hf (t := 11) (by kernel_rfl)
    clear hd hf
    (go_simp; try with_reducible rfl)
  refine Mono.rgl_valg (v := ?v13) rfl hRr (fun ρ W hd => Mono.guard_val hd (t := 75) (k := 11) (by kernel_rfl) rfl) (fun ρ a W hR hd hf => ?h13) ?_
  case h13 =>
    have e2 := Mono.init_get hf (t := 2) (by kernel_rfl)
    clear hd hf
    (go_simp; try with_reducible rfl)
  refine Mono.rgl_valg (v := ?v14) rfl hRr (fun ρ W hd => Mono.guard_val hd (t := 75) (k := 11) (by kernel_rfl) rfl) (fun ρ a W hR hd hf => ?h14) ?_
  case h14 =>
    have e76 := Mono.dep_val hd hf (t := 76) (k := 12) (by kernel_rfl) rfl
    have e77 := Mono.dep_val hd hf (t := 77) (k := 13) (by kernel_rfl) rfl
    clear hd hf
    (go_simp; try with_reducible rfl)
  refine Mono.rgl_valg (v := ?v15) rfl hRr (fun ρ W hd => Mono.guard_val hd (t := 70) (k := 6) (by kernel_rfl) rfl) (fun ρ a W hR hd hf => ?h15) ?_
  case h15 =>
    have e75 := Mono.dep_val hd hf (t := 75) (k := 11) (by kernel_rfl) rfl
    have e78 := Mono.dep_val hd hf (t := 78) (k := 14) (by kernel_rfl) rfl
    clear hd hf
    (go_simp; try with_reducible rfl)
  refine Mono.rgl_val (v := ?v16) rfl hRr (fun ρ a W hR hd hf => ?h16) ?_
  case h16 =>
    have e70 := Mono.dep_val hd hf (t := 70) (k := 6) (by kernel_rfl) rfl
    have e79 := Mono.dep_val hd hf (t := 79) (k := 15) (by kernel_rfl) rfl
    clear hd hf
    (go_simp; try with_reducible rfl)
  refine Mono.rgl_val (v := ?v17) rfl hRr (fun ρ a W hR hd hf => ?h17) ?_
  case h17 =>
    have e80 := Mono.dep_val hd hf (t := 80) (k := 16) (by kernel_rfl) rfl
    clear hd hf
    (go_simp; try with_reducible rfl)
  refine Mono.rgl_valg (v := ?v18) rfl hRr (fun ρ W hd => Mono.guard_val hd (t := 81) (k := 17) (by kernel_rfl) rfl) (fun ρ a W hR hd hf => ?h18) ?_
  case h18 =>
    have e9 := Mono.init_get hf (t := 9) (by kernel_rfl)
    clear hd hf
    (go_simp; try with_reducible rfl)
  refine Mono.rgl_valg (v := ?v19) rfl hRr (fun ρ W hd => Mono.guard_val hd (t := 81) (k := 17) (by kernel_rfl) rfl) (fun ρ a W hR hd hf => ?h19) ?_
  case h19 =>
    have e82 := Mono.dep_val hd hf (t := 82) (k := 18) (by kernel_rfl) rfl
    clear hd hf
    (go_simp; try with_reducible rfl)
  refine Mono.rgl_valg (v := ?v20) rfl hRr (fun ρ W hd => Mono.guard_val hd (t := 81) (k := 17) (by kernel_rfl) rfl) (fun ρ a W hR hd hf => ?h20) ?_
  case h20 =>
    have e0 := Mono.init_get hf (t := 0) (by kernel_rfl)
    clear hd hf
    (go_simp; try with_reducible rfl)
  refine Mono.rgl_valg (v := ?v21) rfl hRr (fun ρ W hd => Mono.guard_val hd (t := 81) (k := 17) (by kernel_rfl) rfl) (fun ρ a W hR hd hf => ?h21) ?_
  case h21 =>
    have e84 := Mono.dep_val hd hf (t := 84) (k := 20) (by kernel_rfl) rfl
    clear hd hf
    (go_simp; try with_reducible rfl)
  refine Mono.rgl_valg (v := ?v22) rfl hRr (fun ρ W hd => Mono.guard_val hd (t := 81) (k := 17) (by kernel_rfl) rfl) (fun ρ a W hR hd hf => ?h22) ?_
  case h22 =>
    have e83 := Mono.dep_val hd hf (t := 83) (k := 19) (by kernel_rfl) rfl
    have e85 := Mono.dep_val hd hf (t := 85) (k := 21) (by kernel_rfl) rfl
    clear hd hf
    (go_simp; try with_reducible rfl)
  refine Mono.rgl_val (v := ?v23) rfl hRr (fun ρ a W hR hd hf => ?h23) ?_
  case h23 =>
    have e81 := Mono.dep_val hd hf (t := 81) (k := 17) (by kernel_rfl) rfl
    have e86 := Mono.dep_val hd hf (t := 86) (k := 22) (by kernel_rfl) rfl
    clear hd hf
    (go_simp; try with_reducible rfl)
  refine Mono.rgl_val (v := ?v24) rfl hRr (fun ρ a W hR hd hf => ?h24) ?_
  case h24 =>
    have e87 := Mono.dep_val hd hf (t := 87) (k := 23) (by kernel_rfl) rfl
    clear hd hf
    (go_simp; try with_reducible rfl)
  refine Mono.rgl_valg (v := ?v25) rfl hRr (fun ρ W hd => Mono.guard_val hd (t := 88) (k := 24) (by kernel_rfl) rfl) (fun ρ a W hR hd hf => ?h25) ?_
  case h25 =>
    have e9 := Mono.init_get hf (t := 9) (by kernel_rfl)
    clear hd hf
    (go_simp; try with_reducible rfl)
  refine Mono.rgl_valg (v := ?v26) rfl hRr (fun ρ W hd => Mono.guard_val hd (t := 88) (k := 24) (by kernel_rfl) rfl) (fun ρ a W hR hd hf => ?h26) ?_
  case h26 =>
    have e7 := Mono.init_get hf (t := 7) (by kernel_rfl)
    clear hd hf
    (go_simp; try with_reducible rfl)
  refine Mono.rgl_valg (v := ?v27) rfl hRr (fun ρ W hd => Mono.guard_val hd (t := 88) (k := 24) (by kernel_rfl) rfl) (fun ρ a W hR hd hf => ?h27) ?_
  case h27 =>
    have e89 := Mono.dep_val hd hf (t := 89) (k := 25) (by kernel_rfl) rfl
    have e90 := Mono.dep_val hd hf (t := 90) (k := 26) (by kernel_rfl) rfl
    have hsl := HSL1.out W
    clear hd hf
    (go_simp; try with_reducible rfl)
  refine Mono.rgl_valg (v := ?v28) rfl hRr (fun ρ W hd => Mono.guard_val hd (t := 88) (k := 24) (by kernel_rfl) rfl) (fun ρ a W hR hd hf => ?h28) ?_
  case h28 =>
    have e91 := Mono.dep_val hd hf (t := 91) (k := 27) (by kernel_rfl) rfl
    have hcv := convert_byt (src := 22) (dst := 9) (e := 5) rfl rfl rfl (HS1.out.reg hYs hR)
    clear hd hf
    (go_simp; try with_reducible rfl)
  refine Mono.rgl_valg (v := ?v29) rfl hRr (fun ρ W hd => Mono.guard_val hd (t := 88) (k := 24) (by kernel_rfl) rfl) (fun ρ a W hR hd hf => ?h29) ?_
  case h29 =>
    have e0 := Mono.init_get hf (t := 0) (by kernel_rfl)
    clear hd hf
    (go_simp; try with_reducible rfl)
  refine Mono.rgl_valg (v := ?v30) rfl hRr (fun ρ W hd => Mono.guard_val hd (t := 88) (k := 24) (by kernel_rfl) rfl) (fun ρ a W hR hd hf => ?h30) ?_
  case h30 =>
    have e7 := Mono.init_get hf (t := 7) (by kernel_rfl)
    clear hd hf
    (go_simp; try with_reducible rfl)
  refine Mono.rgl_valg (v := ?v31) rfl hRr (fun ρ W hd => Mono.guard_val hd (t := 88) (k := 24) (by kernel_rfl) rfl) (fun ρ a W hR hd hf => ?h31) ?_
  case h31 =>
    have e93 := Mono.dep_val hd hf (t := 93) (k := 29) (by kernel_rfl) rfl
    have e94 := Mono.dep_val hd hf (t := 94) (k := 30) (by kernel_rfl) rfl
    have hsl := HSL2.out W
    clear hd hf
    (go_simp; try with_reducible rfl)
  refine Mono.rgl_valg (v := ?v32) rfl hRr (fun ρ W hd => Mono.guard_val hd (t := 88) (k := 24) (by kernel_rfl) rfl) (fun ρ a W hR hd hf => ?h32) ?_
  case h32 =>
    have e95 := Mono.dep_val hd hf (t := 95) (k := 31) (by kernel_rfl) rfl
    have hcv := convert_byt (src := 22) (dst := 9) (e := 5) rfl rfl rfl (HS2.out.reg hBs hR)
    clear hd hf
    (go_simp; try with_reducible rfl)
  refine Mono.rgl_valg (v := ?v33) rfl hRr (fun ρ W hd => Mono.guard_val hd (t := 88) (k := 24) (by kernel_rfl) rfl) (fun ρ a W hR hd hf => ?h33) ?_
  case h33 =>
    have e92 := Mono.dep_val hd hf (t := 92) (k := 28) (by kernel_rfl) rfl
    have e96 := Mono.dep_val hd hf (t := 96) (k := 32) (by kernel_rfl) rfl
    clear hd hf
    (go_simp; try with_reducible rfl)
  refine Mono.rgl_val (v := ?v34) rfl hRr (fun ρ a W hR hd hf => ?h34) ?_
  case h34 =>
    have e88 := Mono.dep_val hd hf (t := 88) (k := 24) (by kernel_rfl) rfl
    have e97 := Mono.dep_val hd hf (t := 97) (k := 33) (by kernel_rfl) rfl
    clear hd hf
    (go_simp; try with_reducible rfl)
  refine Mono.rgl_val (v := ?v35) rfl hRr (fun ρ a W hR hd hf => ?h35) ?_
  case h35 =>
    have e98 := Mono.dep_val hd hf (t := 98) (k := 34) (by kernel_rfl) rfl
    clear hd hf
    (go_simp; try with_reducible rfl)
  refine Mono.rgl_valg (v := ?v36) rfl hRr (fun ρ W hd => Mono.guard_val hd (t := 99) (k := 35) (by kernel_rfl) rfl) (fun ρ a W hR hd hf => ?h36) ?_
  case h36 =>
    have e9 := Mono.init_get hf (t := 9) (by kernel_rfl)
    clear hd hf
    (go_simp; try with_reducible rfl)
  refine Mono.rgl_valg (v := ?v37) rfl hRr (fun ρ W hd => Mono.guard_val hd (t := 99) (k := 35) (by kernel_rfl) rfl) (fun ρ a W hR hd hf => ?h37) ?_
  case h37 =>
    have e7 := Mono.init_get hf (t := 7) (by kernel_rfl)
    clear hd hf
    (go_simp; try with_reducible rfl)
  refine Mono.rgl_valg (v := ?v38) rfl hRr (fun ρ W hd => Mono.guard_val hd (t := 99) (k := 35) (by kernel_rfl) rfl) (fun ρ a W hR hd hf => ?h38) ?_
  case h38 =>
    have e8 := Mono.init_get hf (t := 8) (by kernel_rfl)
    clear hd hf
    (go_simp; try with_reducible rfl)
  refine Mono.rgl_valg (v := ?v39) rfl hRr (fun ρ W hd => Mono.guard_val hd (t := 99) (k := 35) (by kernel_rfl) rfl) (fun ρ a W hR hd hf => ?h39) ?_
  case h39 =>
    have e101 := Mono.dep_val hd hf (t := 101) (k := 37) (by kernel_rfl) rfl
    have e102 := Mono.dep_val hd hf (t := 102) (k := 38) (by kernel_rfl) rfl
    have hw := HWR.out
    clear hd hf
    (go_simp; try with_reducible rfl)
  refine Mono.rgl_valg (v := ?v40) rfl hRr (fun ρ W hd => Mono.guard_val hd (t := 99) (k := 35) (by kernel_rfl) rfl) (fun ρ a W hR hd hf => ?h40) ?_
  case h40 =>
    have e100 := Mono.dep_val hd hf (t := 100) (k := 36) (by kernel_rfl) rfl
    have e103 := Mono.dep_val hd hf (t := 103) (k := 39) (by kernel_rfl) rfl
    have hsl := HSL3.out W
    clear hd hf
    (go_simp; try with_reducible rfl)
  refine Mono.rgl_valg (v := ?v41) rfl hRr (fun ρ W hd => Mono.guard_val hd (t := 99) (k := 35) (by kernel_rfl) rfl) (fun ρ a W hR hd hf => ?h41) ?_
  case h41 =>
    have e104 := Mono.dep_val hd hf (t := 104) (k := 40) (by kernel_rfl) rfl
    have hcv := convert_byt (src := 22) (dst := 9) (e := 5) rfl rfl rfl (HS3.out.reg hYs hR)
    clear hd hf
    (go_simp; try with_reducible rfl)
  refine Mono.rgl_valg (v := ?v42) rfl hRr (fun ρ W hd => Mono.guard_val hd (t := 99) (k := 35) (by kernel_rfl) rfl) (fun ρ a W hR hd hf => ?h42) ?_
  case h42 =>
    have e0 := Mono.init_get hf (t := 0) (by kernel_rfl)
    clear hd hf
    (go_simp; try with_reducible rfl)
  refine Mono.rgl_valg (v := ?v43) rfl hRr (fun ρ W hd => Mono.guard_val hd (t := 99) (k := 35) (by kernel_rfl) rfl) (fun ρ a W hR hd hf => ?h43) ?_
  case h43 =>
    have e7 := Mono.init_get hf (t := 7) (by kernel_rfl)
    clear hd hf
    (go_simp; try with_reducible rfl)
  refine Mono.rgl_valg (v := ?v44) rfl hRr (fun ρ W hd => Mono.guard_val hd (t := 99) (k := 35) (by kernel_rfl) rfl) (fun ρ a W hR hd hf => ?h44) ?_
  case h44 =>
    have e8 := Mono.init_get hf (t := 8) (by kernel_rfl)
    clear hd hf
    (go_simp; try with_reducible rfl)
  refine Mono.rgl_valg (v := ?v45) rfl hRr (fun ρ W hd => Mono.guard_val hd (t := 99) (k := 35) (by kernel_rfl) rfl) (fun ρ a W hR hd hf => ?h45) ?_
  case h45 =>
    have e107 := Mono.dep_val hd hf (t := 107) (k := 43) (by kernel_rfl) rfl
    have e108 := Mono.dep_val hd hf (t := 108) (k := 44) (by kernel_rfl) rfl
    have hw := HWR.out
    clear hd hf
    (go_simp; try with_reducible rfl)
  refine Mono.rgl_valg (v := ?v46) rfl hRr (fun ρ W hd => Mono.guard_val hd (t := 99) (k := 35) (by kernel_rfl) rfl) (fun ρ a W hR hd hf => ?h46) ?_
  case h46 =>
    have e106 := Mono.dep_val hd hf (t := 106) (k := 42) (by kernel_rfl) rfl
    have e109 := Mono.dep_val hd hf (t := 109) (k := 45) (by kernel_rfl) rfl
    have hsl := HSL4.out W
    clear hd hf
    (go_simp; try with_reducible rfl)
  refine Mono.rgl_valg (v := ?v47) rfl hRr (fun ρ W hd => Mono.guard_val hd (t := 99) (k := 35) (by kernel_rfl) rfl) (fun ρ a W hR hd hf => ?h47) ?_
  case h47 =>
    have e110 := Mono.dep_val hd hf (t := 110) (k := 46) (by kernel_rfl) rfl
    have hcv := convert_byt (src := 22) (dst := 9) (e := 5) rfl rfl rfl (HS4.out.reg hBs hR)
    clear hd hf
    (go_simp; try with_reducible rfl)
  refine Mono.rgl_valg (v := ?v48) rfl hRr (fun ρ W hd => Mono.guard_val hd (t := 99) (k := 35) (by kernel_rfl) rfl) (fun ρ a W hR hd hf => ?h48) ?_
  case h48 =>
    have e105 := Mono.dep_val hd hf (t := 105) (k := 41) (by kernel_rfl) rfl
    have e111 := Mono.dep_val hd hf (t := 111) (k := 47) (by kernel_rfl) rfl
    clear hd hf
    (go_simp; try with_reducible rfl)
  refine Mono.rgl_val (v := ?v49) rfl hRr (fun ρ a W hR hd hf => ?h49) ?_
  case h49 =>
    have e99 := Mono.dep_val hd hf (t := 99) (k := 35) (by kernel_rfl) rfl
    have e112 := Mono.dep_val hd hf (t := 112) (k := 48) (by kernel_rfl) rfl
    clear hd hf
    (go_simp; try with_reducible rfl)
  refine Mono.rgl_val (v := ?v50) rfl hRr (fun ρ a W hR hd hf => ?h50) ?_
  case h50 =>
    have e113 := Mono.dep_val hd hf (t := 113) (k := 49) (by kernel_rfl) rfl
    clear hd hf
    (go_simp; try with_reducible rfl)
  refine Mono.rgl_done rfl (fun ρ W hR ht => ?_)
  obtain ⟨d50, d49, d48, d47, d46, d45, d44, d43, d42, d41, d40, d39, d38, d37, d36, d35, d34, d33, d32, d31, d30, d29, d28, d27, d26, d25, d24, d23, d22, d21, d20, d19, d18, d17, d16, d15, d14, d13, d12, d11, d10, d9, d8, d7, d6, d5, d4, d3, d2, d1, d0, _⟩ := ht
  simp only [List.length_cons, List.length_nil, Nat.reduceAdd] at d0 d1 d2 d3 d4 d5 d6 d7 d8 d9 d10 d11 d12 d13 d14 d15 d16 d17 d18 d19 d20 d21 d22 d23 d24 d25 d26 d27 d28 d29 d30 d31 d32 d33 d34 d35 d36 d37 d38 d39 d40 d41 d42 d43 d44 d45 d46 d47 d48 d49 d50
  simp only [Mono.putAll, Nat.reduceAdd, d0, d1, d2, d3, d4, d5, d6, d7, d8, d9, d10, d11, d12, d13, d14, d15, d16, d17, d18, d19, d20, d21, d22, d23, d24, d25, d26, d27, d28, d29, d30, d31, d32, d33, d34, d35, d36, d37, d38, d39, d40, d41, d42, d43, d44, d45, d46, d47, d48, d49, d50, Act.put, List.setIfInBounds_toArray, List.set_cons_zero, List.set_cons_succ]
  clear d0 d1 d2 d3 d4 d5 d6 d7 d8 d9 d10 d11 d12 d13 d14 d15 d16 d17 d18 d19 d20 d21 d22 d23 d24 d25 d26 d27 d28 d29 d30 d31 d32 d33 d34 d35 d36 d37 d38 d39 d40 d41 d42 d43 d44 d45 d46 d47 d48 d49 d50
  have HZ3 : Hid (Below w.heap.size w W) := HB3.out.trans (drew_reg hR HB3.out.size)
  clear hR
  go_wp2
  go_ret
  exact ⟨rfl, HZ3.out⟩
set_option maxHeartbeats 2000000 in
set_option maxRecDepth 100000 in
theorem back_cut (ad : Option Addr) (c : Nat) (l : List UInt8) (q1 q2 v : Nat) (w : World) (h : Byt w w.heap.size (.slice ad l.length c) l) (hl : l.length ≤ 1000) (hl0 : 0 < l.length) (hb1 : q1 ≤ 255) (hb2 : q2 ≤ 255) (hv : v < 18446744073709551616) (hc : l.length ≤ c) (hex : existsB l.length (q1 % l.length : Nat) (1 + q2 % 8 : Nat) = true) (hfv : fitsB v (1 + q2 % 8 : Nat) = false) :
    Calls Try.prog 4 #[.slice ad l.length c, .agg #[.int .u8 (q1 : Nat), .int .u8 (q2 : Nat)], .int .u64 (v : Nat)] w (numbersQ w) := by
  have hl8 : l.length ≤ 100000000 := by omega
  obtain ⟨p, hp⟩ : ∃ p, p = q1 % l.length := ⟨_, rfl⟩
  obtain ⟨n, hn⟩ : ∃ n, n = 1 + q2 % 8 := ⟨_, rfl⟩
  have hpl : p < l.length := by rw [hp]; exact Nat.mod_lt _ hl0
  have n1 : 1 ≤ n := by omega
  have n2 : n ≤ 8 := by omega
  have hm1 : Int.tmod (q1 : Int) (l.length : Int) = (p : Int) := by rw [hp, Int.tmod_eq_emod_of_nonneg (by omega)]; simp
  have hm2 : 1 + Int.tmod (q2 : Int) 8 = (n : Int) := by rw [hn, Int.tmod_eq_emod_of_nonneg (by omega)]; simp
  have hm3 : 1 + (q2 : Int) % 8 = (n : Int) := by rw [hn]; simp
  have hm4 : (q1 : Int) % (l.length : Int) = (p : Int) := by rw [hp]; simp
  rw [← hp, ← hn] at hex
  rw [← hn] at hfv
  clear hp hn
  have HH := Lib.hid h
  have HA : Hid (Below w.heap.size w (w.alloc (.cells #[.int .u8 (q1 : Nat), .int .u8 (q2 : Nat)] 39))) := (Below.refl _ _).alloc (Nat.le_refl _) _
  have hl1 : decide ((l.length : Int) > 1000) = false := by simp; omega
  have hl2 : decide (1000 < (l.length : Int)) = false := by simp; omega
  have hl3 : ((l.length : Int) == 0) = false := by rw [beq_eq_false_iff_ne]; omega
  have hl4 : ¬ ((l.length : Int) = 0) := by omega
  have hpn : p + n ≤ l.length := by
    have := existsB_elim hex
    omega
  have hbl := byt_length n v
  have HFV := Lib.hid (fun W => fits_any v n W hv)
  rw [hfv] at HFV
  have h256 : 256 ^ n ≤ 18446744073709551616 := by
    have := pow256_le n2
    have h3 : 256 ^ 8 = 18446744073709551616 := by decide
    omega
  have hmod := Nat.mod_lt v (show 0 < 256 ^ n from Nat.pow_pos (by decide))
  have hxx : v % 256 ^ n = (v % 256 ^ n) := rfl
  have HFX : Hid (∀ W, Calls Try.prog 10 #[.int .u64 ((((v % 256 ^ n) : Nat)) : Nat), .int .i64 (n : Nat)] W fun e w' => e = .returned (.bool true) ∧ w' = W) := by
    intro W
    have := fits_any ((v % 256 ^ n)) n W (by omega)
    rw [show fitsB ((v % 256 ^ n)) n = true from by simp [fitsB, rightW_true (show (1 : Int) ≤ n by omega) (show (n : Int) ≤ 8 by omega)]; omega] at this
    exact this
  have hsub : num (((putAt l p (byt n v)).drop p).take n) = (v % 256 ^ n) := by
    have e1 : (putAt l p (byt n v)).drop p = byt n v ++ l.drop (p + (byt n v).length) := by
      rw [putAt, List.drop_left' (by rw [List.length_take]; omega)]
    rw [e1, List.take_left' hbl, num_byt, hxx]
  have htk : (putAt l p (byt n v)).take p = l.take p := by
    rw [putAt, List.take_left' (by rw [List.length_take]; omega)]
  have hdr : (putAt l p (byt n v)).drop (p + n) = l.drop (p + n) := by
    have e1 : putAt l p (byt n v) = (l.take p ++ byt n v) ++ l.drop (p + n) := by rw [putAt, hbl, List.append_assoc]
    rw [e1, List.drop_left' (by rw [List.length_append, List.length_take]; omega)]
  have hpl2 : (putAt l p (byt n v)).length = l.length := putAt_length _ _ _ (by omega)
  have HWR : Hid (IntKind.i64.wrap ((p : Int) + (n : Int)) = (p : Int) + (n : Int)) := IntWalk.i64_in _ (by omega)
  have HSL2 := Lib.hid (fun W => slice_h (t := 22) (e := 5) (size := 1) rfl size_u8 ad l.length c (p : Int) (by omega) (by omega) W)
  have HSL4 := Lib.hid (fun W => slice_l (t := 22) (e := 5) (size := 1) rfl size_u8 ad l.length c ((p : Int) + (n : Int)) (by omega) (by omega) W)
  rw [Int.toNat_natCast, Nat.sub_zero, Nat.sub_zero] at HSL2
  rw [show ((p : Int) + (n : Int)).toNat = p + n from by omega] at HSL4
  have HS2 := Lib.hid (sub_byt h 0 p (by omega))
  have HS4 := Lib.hid (sub_byt h (p + n) (l.length - (p + n)) (by omega))
  rw [List.drop_zero, Nat.sub_zero] at HS2
  rw [List.take_of_length_le (by rw [List.length_drop]; omega)] at HS4
  generalize Value.slice (if c = 0 then ad else ad.map (·.add (0 * 1))) p c = s2 at HSL2 HS2
  generalize Value.slice (if c = p + n then ad else ad.map (·.add ((p + n) * 1))) (l.length - (p + n)) (c - (p + n)) = s4 at HSL4 HS4
  clear h
  go_enter Try.func4, Try.ntmps4
  go_wp2_with fail
  refine (awake_any _).mono ?_
  rintro e w1 ⟨rfl, hb⟩
  have hs1 := hb.size
  have hs2 := HA.out.size
  have hc0 : w1.cell? ⟨w.heap.size, 0, none⟩ = some (.int .u8 (q1 : Nat)) := (hb.cell (p := ⟨w.heap.size, 0, none⟩) (by simp)).trans (by go_simp)
  have hc1 : w1.cell? ⟨w.heap.size, 1, none⟩ = some (.int .u8 (q2 : Nat)) := (hb.cell (p := ⟨w.heap.size, 1, none⟩) (by simp)).trans (by go_simp)
  have HB1 : Hid (Below w.heap.size w w1) := HA.out.trans (hb.mono hs2)
  clear hb HA
  go_wp2_with fail
  go_quiet (fail)
  clear hc0 hc1
  have HBq : Hid (Below w.heap.size w (w1.drewN nq)) := ⟨HB1.out.os, HB1.out.tape, HB1.out.output, HB1.out.size, HB1.out.block⟩
  go_wp2_with fail
  refine (put_yes ad c l p n v _ (HH.out.below HBq.out) hl8 hv hex).mono ?_
  rintro e w6 ⟨y, rfl, ho, hb⟩
  rw [Int.toNat_natCast, Int.toNat_natCast] at ho
  have hy : Byt w6 w6.heap.size y (putAt l p (byt n v)) := Byt.of_own (by rw [hpl2]; exact ho)
  obtain ⟨yb, yo, yc, rfl, hyc⟩ : ∃ yb yo yc, y = .slice (some ⟨yb, yo, none⟩) l.length yc ∧ l.length ≤ yc := by
    rcases hy with ⟨_, _, _, h0, _⟩ | ⟨yb, yo, yc, h1, h2, _⟩
    · rw [h0] at hpl2; simp at hpl2; omega
    · rw [hpl2] at h1 h2; exact ⟨yb, yo, yc, h1, h2⟩
  have hy2 := hy
  rw [← hpl2] at hy2 hyc
  have hG := get_yes _ yc _ _ (p : Int) (n : Int) w6 hy2 (by omega) hyc (by rw [hpl2]; exact hex)
  have hs1 := sub_byt hy2 0 p (by omega)
  have hs3 := sub_byt hy2 (p + n) (l.length - (p + n)) (by omega)
  rw [Int.toNat_natCast, Int.toNat_natCast, hsub] at hG
  rw [hpl2] at hG hyc
  have HG := Lib.hid hG
  have HSL1 := Lib.hid (fun W => slice_h (t := 22) (e := 5) (size := 1) rfl size_u8 (some ⟨yb, yo, none⟩) l.length yc (p : Int) (by omega) (by omega) W)
  have HSL3 := Lib.hid (fun W => slice_l (t := 22) (e := 5) (size := 1) rfl size_u8 (some ⟨yb, yo, none⟩) l.length yc ((p : Int) + (n : Int)) (by omega) (by omega) W)
  rw [Int.toNat_natCast, Nat.sub_zero, Nat.sub_zero] at HSL1
  rw [show ((p : Int) + (n : Int)).toNat = p + n from by omega] at HSL3
  rw [List.drop_zero, Nat.sub_zero, htk] at hs1
  rw [hdr, List.take_of_length_le (by rw [List.length_drop]; omega)] at hs3
  have HS1 := Lib.hid hs1
  have HS3 := Lib.hid hs3
  generalize Value.slice (if yc = 0 then some ⟨yb, yo, none⟩ else (some (⟨yb, yo, none⟩ : Addr)).map (·.add (0 * 1))) p yc = s1 at HSL1 HS1
  generalize Value.slice (if yc = p + n then some ⟨yb, yo, none⟩ else (some (⟨yb, yo, none⟩ : Addr)).map (·.add ((p + n) * 1))) (l.length - (p + n)) (yc - (p + n)) = s3 at HSL3 HS3
  have HB3 : Hid (Below w.heap.size w w6) := HBq.out.trans (hb.mono HBq.out.size)
  replace HS2 := Lib.hid (HS2.out.below HB3.out)
  replace HS4 := Lib.hid (HS4.out.below HB3.out)
  have hBs := HB3.out.size
  have hYs := Nat.le_refl w6.heap.size
  clear ho hb hy hy2 hs1 hs3 hG
  go_wp2_with fail
  refine HG.out.mono ?_
  rintro e w7 ⟨rfl, rfl⟩
  go_wp2_with fail
  refine Mono.region_list (fun W W' => Below W.heap.size W W') (by kernel_rfl) (by kernel_rfl) (by kernel_rfl) hRr hRt ?_
  change Mono.RGL _ _ _ w7.drew _ _ _ _
  refine Mono.rgl_val (v := ?v0) rfl hRr (fun ρ a W hR hd hf => ?h0) ?_
  case h0 =>
    have e12 := Mono.init_get hf (t := 12) (by kernel_rfl)
    clear hd hf
    (go_simp; try with_reducible rfl)
  refine Mono.rgl_val (v := ?v1) rfl hRr (fun ρ a W hR hd hf => ?h1) ?_
  case h1 =>
    have e64 := Mono.dep_val hd hf (t := 64) (k := 0) (by kernel_rfl) rfl
    clear hd hf
    (go_simp; try with_reducible rfl)
  refine Mono.rgl_valg (v := ?v2) rfl hRr (fun ρ W hd => Mono.guard_val hd (t := 65) (k := 1) (by kernel_rfl) rfl) (fun ρ a W hR hd hf => ?h2) ?_
  case h2 =>
    have e11 := Mono.init_get hf (t := 11) (by kernel_rfl)
    clear hd hf
    (go_simp; try with_reducible rfl)
  refine Mono.rgl_valg (v := ?v3) rfl hRr (fun ρ W hd => Mono.guard_val hd (t := 65) (k := 1) (by kernel_rfl) rfl) (fun ρ a W hR hd hf => ?h3) ?_
  case h3 =>
    have e8 := Mono.init_get hf (t := 8) (by kernel_rfl)
    clear hd hf
    (go_simp; try with_reducible rfl)
  refine Mono.rgl_callg (fun x _ => x = .bool true) rfl hRr (fun _ _ _ h _ => h) (fun ρ W hd => Mono.guard_val hd (t := 65) (k := 1) (by kernel_rfl) rfl) (fun ρ a W hR hd hf => ?h4) ?_
  case h4 =>
    have e66 := Mono.dep_val hd hf (t := 66) (k := 2) (by kernel_rfl) rfl
    have e67 := Mono.dep_val hd hf (t := 67) (k := 3) (by kernel_rfl) rfl
    clear hd hf
    refine ⟨_, _, by go_simp; first | rfl | exact ⟨rfl, rfl⟩, ?_⟩
    exact (HFX.out W).mono (fun e W' ⟨he, hw⟩ => ⟨_, he, hw ▸ hRr _, rfl⟩)
  refine Mono.rgl_val (v := ?v5) rfl hRr (fun ρ a W hR hd hf => ?h5) ?_
  case h5 =>
    have e65 := Mono.dep_val hd hf (t := 65) (k := 1) (by kernel_rfl) rfl
    have e68 := Mono.dep_val hd hf (t := 68) (k := 4) (by kernel_rfl) rfl
    clear hd hf
    (go_simp; try with_reducible rfl)
  refine Mono.rgl_val (v := ?v6) rfl hRr (fun ρ a W hR hd hf => ?h6) ?_
  case h6 =>
    have e69 := Mono.dep_val hd hf (t := 69) (k := 5) (by kernel_rfl) rfl
    clear hd hf
    (go_simp; try with_reducible rfl)
  refine Mono.rgl_valg (v := ?v7) rfl hRr (fun ρ W hd => Mono.guard_val hd (t := 70) (k := 6) (by kernel_rfl) rfl) (fun ρ a W hR hd hf => ?h7) ?_
  case h7 =>
    have e2 := Mono.init_get hf (t := 2) (by kernel_rfl)
    clear hd hf
    (go_simp; try with_reducible rfl)
  refine Mono.rgl_valg (v := ?v8) rfl hRr (fun ρ W hd => Mono.guard_val hd (t := 70) (k := 6) (by kernel_rfl) rfl) (fun ρ a W hR hd hf => ?h8) ?_
  case h8 =>
    have e8 := Mono.init_get hf (t := 8) (by kernel_rfl)
    clear hd hf
    (go_simp; try with_reducible rfl)
  refine Mono.rgl_callg (fun x _ => x = .bool false) rfl hRr (fun _ _ _ h _ => h) (fun ρ W hd => Mono.guard_val hd (t := 70) (k := 6) (by kernel_rfl) rfl) (fun ρ a W hR hd hf => ?h9) ?_
  case h9 =>
    have e71 := Mono.dep_val hd hf (t := 71) (k := 7) (by kernel_rfl) rfl
    have e72 := Mono.dep_val hd hf (t := 72) (k := 8) (by kernel_rfl) rfl
    clear hd hf
    refine ⟨_, _, by go_simp; first | rfl | exact ⟨rfl, rfl⟩, ?_⟩
    exact (HFV.out W).mono (fun e W' ⟨he, hw⟩ => ⟨_, he, hw ▸ hRr _, rfl⟩)
  refine Mono.rgl_valg (v := ?v10) rfl hRr (fun ρ W hd => Mono.guard_val hd (t := 70) (k := 6) (by kernel_rfl) rfl) (fun ρ a W hR hd hf => ?h10) ?_
  case h10 =>
    have e73 := Mono.dep_val hd hf (t := 73) (k := 9) (by kernel_rfl) rfl
    clear hd hf
    (go_simp; try with_reducible rfl)
  refine Mono.rgl_valg (v := ?v11) rfl hRr (fun ρ W hd => Mono.guard_val hd (t := 70) (k := 6) (by kernel_rfl) rfl) (fun ρ a W hR hd hf => ?h11) ?_
  case h11 =>
    have e74 := Mono.dep_val hd hf (t := 74) (k := 10) (by kernel_rfl) rfl
    clear hd hf
    (go_simp; try with_reducible rfl)
  refine Mono.rgl_skip rfl (by decide) (fun ρ W hd => Mono.guard_val hd (t := 75) (k := 11) (by kernel_rfl) rfl) ?_
  refine Mono.rgl_skip rfl (by decide) (fun ρ W hd => Mono.guard_val hd (t := 75) (k := 11) (by kernel_rfl) rfl) ?_
  refine Mono.rgl_skip rfl (by decide) (fun ρ W hd => Mono.guard_val hd (t := 75) (k := 11) (by kernel_rfl) rfl) ?_
  refine Mono.rgl_valg (v := ?v15) rfl hRr (fun ρ W hd => Mono.guard_val hd (t := 70) (k := 6) (by kernel_rfl) rfl) (fun ρ a W hR hd hf => ?h15) ?_
  case h15 =>
    have e75 := Mono.dep_val hd hf (t := 75) (k := 11) (by kernel_rfl) rfl
    have e78 := Mono.dep_val hd hf (t := 78) (k := 14) (by kernel_rfl) rfl
    clear hd hf
    (go_simp; try with_reducible rfl)
  refine Mono.rgl_val (v := ?v16) rfl hRr (fun ρ a W hR hd hf => ?h16) ?_
  case h16 =>
    have e70 := Mono.dep_val hd hf (t := 70) (k := 6) (by kernel_rfl) rfl
    have e79 := Mono.dep_val hd hf (t := 79) (k := 15) (by kernel_rfl) rfl
    clear hd hf
    (go_simp; try with_reducible rfl)
  refine Mono.rgl_val (v := ?v17) rfl hRr (fun ρ a W hR hd hf => ?h17) ?_
  case h17 =>
    have e80 := Mono.dep_val hd hf (t := 80) (k := 16) (by kernel_rfl) rfl
    clear hd hf
    (go_simp; try with_reducible rfl)
  refine Mono.rgl_valg (v := ?v18) rfl hRr (fun ρ W hd => Mono.guard_val hd (t := 81) (k := 17) (by kernel_rfl) rfl) (fun ρ a W hR hd hf => ?h18) ?_
  case h18 =>
    have e9 := Mono.init_get hf (t := 9) (by kernel_rfl)
    clear hd hf
    (go_simp; try with_reducible rfl)
  refine Mono.rgl_valg (v := ?v19) rfl hRr (fun ρ W hd => Mono.guard_val hd (t := 81) (k := 17) (by kernel_rfl) rfl) (fun ρ a W hR hd hf => ?h19) ?_
  case h19 =>
    have e82 := Mono.dep_val hd hf (t := 82) (k := 18) (by kernel_rfl) rfl
    clear hd hf
    (go_simp; try with_reducible rfl)
  refine Mono.rgl_valg (v := ?v20) rfl hRr (fun ρ W hd => Mono.guard_val hd (t := 81) (k := 17) (by kernel_rfl) rfl) (fun ρ a W hR hd hf => ?h20) ?_
  case h20 =>
    have e0 := Mono.init_get hf (t := 0) (by kernel_rfl)
    clear hd hf
    (go_simp; try with_reducible rfl)
  refine Mono.rgl_valg (v := ?v21) rfl hRr (fun ρ W hd => Mono.guard_val hd (t := 81) (k := 17) (by kernel_rfl) rfl) (fun ρ a W hR hd hf => ?h21) ?_
  case h21 =>
    have e84 := Mono.dep_val hd hf (t := 84) (k := 20) (by kernel_rfl) rfl
    clear hd hf
    (go_simp; try with_reducible rfl)
  refine Mono.rgl_valg (v := ?v22) rfl hRr (fun ρ W hd => Mono.guard_val hd (t := 81) (k := 17) (by kernel_rfl) rfl) (fun ρ a W hR hd hf => ?h22) ?_
  case h22 =>
    have e83 := Mono.dep_val hd hf (t := 83) (k := 19) (by kernel_rfl) rfl
    have e85 := Mono.dep_val hd hf (t := 85) (k := 21) (by kernel_rfl) rfl
    clear hd hf
    (go_simp; try with_reducible rfl)
  refine Mono.rgl_val (v := ?v23) rfl hRr (fun ρ a W hR hd hf => ?h23) ?_
  case h23 =>
    have e81 := Mono.dep_val hd hf (t := 81) (k := 17) (by kernel_rfl) rfl
    have e86 := Mono.dep_val hd hf (t := 86) (k := 22) (by kernel_rfl) rfl
    clear hd hf
    (go_simp; try with_reducible rfl)
  refine Mono.rgl_val (v := ?v24) rfl hRr (fun ρ a W hR hd hf => ?h24) ?_
  case h24 =>
    have e87 := Mono.dep_val hd hf (t := 87) (k := 23) (by kernel_rfl) rfl
    clear hd hf
    (go_simp; try with_reducible rfl)
  refine Mono.rgl_valg (v := ?v25) rfl hRr (fun ρ W hd => Mono.guard_val hd (t := 88) (k := 24) (by kernel_rfl) rfl) (fun ρ a W hR hd hf => ?h25) ?_
  case h25 =>
    have e9 := Mono.init_get hf (t := 9) (by kernel_rfl)
    clear hd hf
    (go_simp; try with_reducible rfl)
  refine Mono.rgl_valg (v := ?v26) rfl hRr (fun ρ W hd => Mono.guard_val hd (t := 88) (k := 24) (by kernel_rfl) rfl) (fun ρ a W hR hd hf => ?h26) ?_
  case h26 =>
    have e7 := Mono.init_get hf (t := 7) (by kernel_rfl)
    clear hd hf
    (go_simp; try with_reducible rfl)
  refine Mono.rgl_valg (v := ?v27) rfl hRr (fun ρ W hd => Mono.guard_val hd (t := 88) (k := 24) (by kernel_rfl) rfl) (fun ρ a W hR hd hf => ?h27) ?_
  case h27 =>
    have e89 := Mono.dep_val hd hf (t := 89) (k := 25) (by kernel_rfl) rfl
    have e90 := Mono.dep_val hd hf (t := 90) (k := 26) (by kernel_rfl) rfl
    have hsl := HSL1.out W
    clear hd hf
    (go_simp; try with_reducible rfl)
  refine Mono.rgl_valg (v := ?v28) rfl hRr (fun ρ W hd => Mono.guard_val hd (t := 88) (k := 24) (by kernel_rfl) rfl) (fun ρ a W hR hd hf => ?h28) ?_
  case h28 =>
    have e91 := Mono.dep_val hd hf (t := 91) (k := 27) (by kernel_rfl) rfl
    have hcv := convert_byt (src := 22) (dst := 9) (e := 5) rfl rfl rfl (HS1.out.reg hYs hR)
    clear hd hf
    (go_simp; try with_reducible rfl)
  refine Mono.rgl_valg (v := ?v29) rfl hRr (fun ρ W hd => Mono.guard_val hd (t := 88) (k := 24) (by kernel_rfl) rfl) (fun ρ a W hR hd hf => ?h29) ?_
  case h29 =>
    have e0 := Mono.init_get hf (t := 0) (by kernel_rfl)
    clear hd hf
    (go_simp; try with_reducible rfl)
  refine Mono.rgl_valg (v := ?v30) rfl hRr (fun ρ W hd => Mono.guard_val hd (t := 88) (k := 24) (by kernel_rfl) rfl) (fun ρ a W hR hd hf => ?h30) ?_
  case h30 =>
    have e7 := Mono.init_get hf (t := 7) (by kernel_rfl)
    clear hd hf
    (go_simp; try with_reducible rfl)
  refine Mono.rgl_valg (v := ?v31) rfl hRr (fun ρ W hd => Mono.guard_val hd (t := 88) (k := 24) (by kernel_rfl) rfl) (fun ρ a W hR hd hf => ?h31) ?_
  case h31 =>
    have e93 := Mono.dep_val hd hf (t := 93) (k := 29) (by kernel_rfl) rfl
    have e94 := Mono.dep_val hd hf (t := 94) (k := 30) (by kernel_rfl) rfl
    have hsl := HSL2.out W
    clear hd hf
    (go_simp; try with_reducible rfl)
  refine Mono.rgl_valg (v := ?v32) rfl hRr (fun ρ W hd => Mono.guard_val hd (t := 88) (k := 24) (by kernel_rfl) rfl) (fun ρ a W hR hd hf => ?h32) ?_
  case h32 =>
    have e95 := Mono.dep_val hd hf (t := 95) (k := 31) (by kernel_rfl) rfl
    have hcv := convert_byt (src := 22) (dst := 9) (e := 5) rfl rfl rfl (HS2.out.reg hBs hR)
    clear hd hf
    (go_simp; try with_reducible rfl)
  refine Mono.rgl_valg (v := ?v33) rfl hRr (fun ρ W hd => Mono.guard_val hd (t := 88) (k := 24) (by kernel_rfl) rfl) (fun ρ a W hR hd hf => ?h33) ?_
  case h33 =>
    have e92 := Mono.dep_val hd hf (t := 92) (k := 28) (by kernel_rfl) rfl
    have e96 := Mono.dep_val hd hf (t := 96) (k := 32) (by kernel_rfl) rfl
    clear hd hf
    (go_simp; try with_reducible rfl)
  refine Mono.rgl_val (v := ?v34) rfl hRr (fun ρ a W hR hd hf => ?h34) ?_
  case h34 =>
    have e88 := Mono.dep_val hd hf (t := 88) (k := 24) (by kernel_rfl) rfl
    have e97 := Mono.dep_val hd hf (t := 97) (k := 33) (by kernel_rfl) rfl
    clear hd hf
    (go_simp; try with_reducible rfl)
  refine Mono.rgl_val (v := ?v35) rfl hRr (fun ρ a W hR hd hf => ?h35) ?_
  case h35 =>
    have e98 := Mono.dep_val hd hf (t := 98) (k := 34) (by kernel_rfl) rfl
    clear hd hf
    (go_simp; try with_reducible rfl)
  refine Mono.rgl_valg (v := ?v36) rfl hRr (fun ρ W hd => Mono.guard_val hd (t := 99) (k := 35) (by kernel_rfl) rfl) (fun ρ a W hR hd hf => ?h36) ?_
  case h36 =>
    have e9 := Mono.init_get hf (t := 9) (by kernel_rfl)
    clear hd hf
    (go_simp; try with_reducible rfl)
  refine Mono.rgl_valg (v := ?v37) rfl hRr (fun ρ W hd => Mono.guard_val hd (t := 99) (k := 35) (by kernel_rfl) rfl) (fun ρ a W hR hd hf => ?h37) ?_
  case h37 =>
    have e7 := Mono.init_get hf (t := 7) (by kernel_rfl)
    clear hd hf
    (go_simp; try with_reducible rfl)
  refine Mono.rgl_valg (v := ?v38) rfl hRr (fun ρ W hd => Mono.guard_val hd (t := 99) (k := 35) (by kernel_rfl) rfl) (fun ρ a W hR hd hf => ?h38) ?_
  case h38 =>
    have e8 := Mono.init_get hf (t := 8) (by kernel_rfl)
    clear hd hf
    (go_simp; try with_reducible rfl)
  refine Mono.rgl_valg (v := ?v39) rfl hRr (fun ρ W hd => Mono.guard_val hd (t := 99) (k := 35) (by kernel_rfl) rfl) (fun ρ a W hR hd hf => ?h39) ?_
  case h39 =>
    have e101 := Mono.dep_val hd hf (t := 101) (k := 37) (by kernel_rfl) rfl
    have e102 := Mono.dep_val hd hf (t := 102) (k := 38) (by kernel_rfl) rfl
    have hw := HWR.out
    clear hd hf
    (go_simp; try with_reducible rfl)
  refine Mono.rgl_valg (v := ?v40) rfl hRr (fun ρ W hd => Mono.guard_val hd (t := 99) (k := 35) (by kernel_rfl) rfl) (fun ρ a W hR hd hf => ?h40) ?_
  case h40 =>
    have e100 := Mono.dep_val hd hf (t := 100) (k := 36) (by kernel_rfl) rfl
    have e103 := Mono.dep_val hd hf (t := 103) (k := 39) (by kernel_rfl) rfl
    have hsl := HSL3.out W
    clear hd hf
    (go_simp; try with_reducible rfl)
  refine Mono.rgl_valg (v := ?v41) rfl hRr (fun ρ W hd => Mono.guard_val hd (t := 99) (k := 35) (by kernel_rfl) rfl) (fun ρ a W hR hd hf => ?h41) ?_
  case h41 =>
    have e104 := Mono.dep_val hd hf (t := 104) (k := 40) (by kernel_rfl) rfl
    have hcv := convert_byt (src := 22) (dst := 9) (e := 5) rfl rfl rfl (HS3.out.reg hYs hR)
    clear hd hf
    (go_simp; try with_reducible rfl)
  refine Mono.rgl_valg (v := ?v42) rfl hRr (fun ρ W hd => Mono.guard_val hd (t := 99) (k := 35) (by kernel_rfl) rfl) (fun ρ a W hR hd hf => ?h42) ?_
  case h42 =>
    have e0 := Mono.init_get hf (t := 0) (by kernel_rfl)
    clear hd hf
    (go_simp; try with_reducible rfl)
  refine Mono.rgl_valg (v := ?v43) rfl hRr (fun ρ W hd => Mono.guard_val hd (t := 99) (k := 35) (by kernel_rfl) rfl) (fun ρ a W hR hd hf => ?h43) ?_
  case h43 =>
    have e7 := Mono.init_get hf (t := 7) (by kernel_rfl)
    clear hd hf
    (go_simp; try with_reducible rfl)
  refine Mono.rgl_valg (v := ?v44) rfl hRr (fun ρ W hd => Mono.guard_val hd (t := 99) (k := 35) (by kernel_rfl) rfl) (fun ρ a W hR hd hf => ?h44) ?_
  case h44 =>
    have e8 := Mono.init_get hf (t := 8) (by kernel_rfl)
    clear hd hf
    (go_simp; try with_reducible rfl)
  refine Mono.rgl_valg (v := ?v45) rfl hRr (fun ρ W hd => Mono.guard_val hd (t := 99) (k := 35) (by kernel_rfl) rfl) (fun ρ a W hR hd hf => ?h45) ?_
  case h45 =>
    have e107 := Mono.dep_val hd hf (t := 107) (k := 43) (by kernel_rfl) rfl
    have e108 := Mono.dep_val hd hf (t := 108) (k := 44) (by kernel_rfl) rfl
    have hw := HWR.out
    clear hd hf
    (go_simp; try with_reducible rfl)
  refine Mono.rgl_valg (v := ?v46) rfl hRr (fun ρ W hd => Mono.guard_val hd (t := 99) (k := 35) (by kernel_rfl) rfl) (fun ρ a W hR hd hf => ?h46) ?_
  case h46 =>
    have e106 := Mono.dep_val hd hf (t := 106) (k := 42) (by kernel_rfl) rfl
    have e109 := Mono.dep_val hd hf (t := 109) (k := 45) (by kernel_rfl) rfl
    have hsl := HSL4.out W
    clear hd hf
    (go_simp; try with_reducible rfl)
  refine Mono.rgl_valg (v := ?v47) rfl hRr (fun ρ W hd => Mono.guard_val hd (t := 99) (k := 35) (by kernel_rfl) rfl) (fun ρ a W hR hd hf => ?h47) ?_
  case h47 =>
    have e110 := Mono.dep_val hd hf (t := 110) (k := 46) (by kernel_rfl) rfl
    have hcv := convert_byt (src := 22) (dst := 9) (e := 5) rfl rfl rfl (HS4.out.reg hBs hR)
    clear hd hf
    (go_simp; try with_reducible rfl)
  refine Mono.rgl_valg (v := ?v48) rfl hRr (fun ρ W hd => Mono.guard_val hd (t := 99) (k := 35) (by kernel_rfl) rfl) (fun ρ a W hR hd hf => ?h48) ?_
  case h48 =>
    have e105 := Mono.dep_val hd hf (t := 105) (k := 41) (by kernel_rfl) rfl
    have e111 := Mono.dep_val hd hf (t := 111) (k := 47) (by kernel_rfl) rfl
    clear hd hf
    (go_simp; try with_reducible rfl)
  refine Mono.rgl_val (v := ?v49) rfl hRr (fun ρ a W hR hd hf => ?h49) ?_
  case h49 =>
    have e99 := Mono.dep_val hd hf (t := 99) (k := 35) (by kernel_rfl) rfl
    have e112 := Mono.dep_val hd hf (t := 112) (k := 48) (by kernel_rfl) rfl
    clear hd hf
    (go_simp; try with_reducible rfl)
  refine Mono.rgl_val (v := ?v50) rfl hRr (fun ρ a W hR hd hf => ?h50) ?_
  case h50 =>
    have e113 := Mono.dep_val hd hf (t := 113) (k := 49) (by kernel_rfl) rfl
    clear hd hf
    (go_simp; try with_reducible rfl)
  refine Mono.rgl_done rfl (fun ρ W hR ht => ?_)
  obtain ⟨d50, d49, d48, d47, d46, d45, d44, d43, d42, d41, d40, d39, d38, d37, d36, d35, d34, d33, d32, d31, d30, d29, d28, d27, d26, d25, d24, d23, d22, d21, d20, d19, d18, d17, d16, d15, d14, d13, d12, d11, d10, d9, d8, d7, d6, d5, d4, d3, d2, d1, d0, _⟩ := ht
  simp only [List.length_cons, List.length_nil, Nat.reduceAdd] at d0 d1 d2 d3 d4 d5 d6 d7 d8 d9 d10 d11 d12 d13 d14 d15 d16 d17 d18 d19 d20 d21 d22 d23 d24 d25 d26 d27 d28 d29 d30 d31 d32 d33 d34 d35 d36 d37 d38 d39 d40 d41 d42 d43 d44 d45 d46 d47 d48 d49 d50
  simp only [Mono.putAll, Nat.reduceAdd, d0, d1, d2, d3, d4, d5, d6, d7, d8, d9, d10, d11, d12, d13, d14, d15, d16, d17, d18, d19, d20, d21, d22, d23, d24, d25, d26, d27, d28, d29, d30, d31, d32, d33, d34, d35, d36, d37, d38, d39, d40, d41, d42, d43, d44, d45, d46, d47, d48, d49, d50, Act.put, List.setIfInBounds_toArray, List.set_cons_zero, List.set_cons_succ]
  clear d0 d1 d2 d3 d4 d5 d6 d7 d8 d9 d10 d11 d12 d13 d14 d15 d16 d17 d18 d19 d20 d21 d22 d23 d24 d25 d26 d27 d28 d29 d30 d31 d32 d33 d34 d35 d36 d37 d38 d39 d40 d41 d42 d43 d44 d45 d46 d47 d48 d49 d50
  have HZ3 : Hid (Below w.heap.size w W) := HB3.out.trans (drew_reg hR HB3.out.size)
  clear hR
  go_wp2
  go_ret
  exact ⟨rfl, HZ3.out⟩
set_option maxHeartbeats 400000 in
set_option maxRecDepth 100000 in
theorem back_out (ad : Option Addr) (c len : Nat) (p n : Int) (v : Nat) (w : World) (hl : 1000 < len ∨ len = 0) :
    Calls Try.prog 4 #[.slice ad len c, .agg #[.int .u8 p, .int .u8 n], .int .u64 (v : Nat)] w (numbersQ w) := by
  have HA : Hid (Below w.heap.size w (w.alloc (.cells #[.int .u8 p, .int .u8 n] 39))) := (Below.refl _ _).alloc (Nat.le_refl _) _
  rcases hl with hl | rfl
  · have hl1 : decide ((len : Int) > 1000) = true := by simp; omega
    have hl2 : decide (1000 < (len : Int)) = true := by simp; omega
    go_enter Try.func4, Try.ntmps4
    go_wp2_with fail
    refine (awake_any _).mono ?_
    rintro e w1 ⟨rfl, hb⟩
    have HB1 : Hid (Below w.heap.size w w1) := HA.out.trans (hb.mono HA.out.size)
    clear hb HA
    go_wp2
    go_ret
    exact ⟨rfl, HB1.out⟩
  · go_enter Try.func4, Try.ntmps4
    go_wp2_with fail
    refine (awake_any _).mono ?_
    rintro e w1 ⟨rfl, hb⟩
    have HB1 : Hid (Below w.heap.size w w1) := HA.out.trans (hb.mono HA.out.size)
    clear hb HA
    go_wp2
    go_ret
    exact ⟨rfl, HB1.out⟩
theorem back_walk (ad : Option Addr) (c : Nat) (l : List UInt8) (p n v : Int) (w : World) (h : Byt w w.heap.size (.slice ad l.length c) l) (hc : l.length ≤ c) (hp : 0 ≤ p ∧ p ≤ 255) (hn : 0 ≤ n ∧ n ≤ 255) (hv : 0 ≤ v ∧ v ≤ 18446744073709551615) :
    Calls Try.prog 4 #[.slice ad l.length c, .agg #[.int .u8 p, .int .u8 n], .int .u64 v] w fun e w' => e = .returned (.bool true) ∧ Below w.heap.size w w' := by
  obtain ⟨u, rfl⟩ : ∃ u : Nat, v = u := ⟨v.toNat, by omega⟩
  obtain ⟨q1, rfl⟩ : ∃ u : Nat, p = u := ⟨p.toNat, by omega⟩
  obtain ⟨q2, rfl⟩ : ∃ u : Nat, n = u := ⟨n.toNat, by omega⟩
  by_cases hl : 1000 < l.length ∨ l.length = 0
  · exact back_out ad c _ q1 q2 u w hl
  · cases he : existsB l.length (q1 % l.length : Nat) (1 + q2 % 8 : Nat) with
    | false => exact back_no ad c l q1 q2 u w h (by omega) (by omega) (by omega) (by omega) he
    | true =>
      cases hf : fitsB u (1 + q2 % 8 : Nat) with
      | false => exact back_cut ad c l q1 q2 u w h (by omega) (by omega) (by omega) (by omega) (by omega) hc he hf
      | true => exact back_fit ad c l q1 q2 u w h (by omega) (by omega) (by omega) (by omega) (by omega) hc he hf
end Go.Proofs.Ytephiopgpfdchaa
