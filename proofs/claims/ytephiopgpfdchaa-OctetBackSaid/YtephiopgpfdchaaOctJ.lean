/- The law OctetNumbers: the arm of wrong widths. -/
import Derived.Test.YtephiopgpfdchaaOctI
namespace Go.Proofs.Ytephiopgpfdchaa
open Go.RowKit
def numbersQ (w : World) : Ending → World → Prop := fun e w' => e = .returned (.bool true) ∧ Below w.heap.size w w'
set_option maxHeartbeats 1000000 in
set_option maxRecDepth 100000 in
theorem numbers_low (ad : Option Addr) (c : Nat) (l : List UInt8) (p n : Int) (v : Nat) (w : World) (h : Byt w w.heap.size (.slice ad l.length c) l) (hl : l.length ≤ 1000) (hp : -9223372036854775808 ≤ p ∧ p ≤ 9223372036854775807) (hn0 : n < 1) (hv : v < 18446744073709551616) :
    Calls Try.prog 3 #[.slice ad l.length c, .agg #[.int .i64 p, .int .i64 n], .int .u64 (v : Nat)] w (numbersQ w) := by
  have hl8 : l.length ≤ 100000000 := by omega
  have hn : n < 1 ∨ 8 < n := by omega
  have hr : rightW n = false := rightW_false hn
  have hex : existsB l.length p n = false := by simp [existsB, hr]
  have hft : fitsB v n = false := by simp [fitsB, hr]
  have HF := Lib.hid (fun W => fits_any v n W hv)
  rw [hft] at HF
  have HR := Lib.hid (fun W => right_any n W)
  rw [hr] at HR
  have HG := Lib.hid (fun W => get_no ad l.length c p n W hl8 hp hex)
  have HH := Lib.hid h
  have HA : Hid (Below w.heap.size w (w.alloc (.cells #[.int .i64 p, .int .i64 n] 23))) := (Below.refl _ _).alloc (Nat.le_refl _) _
  have hl1 : decide ((l.length : Int) > 1000) = false := by simp; omega
  have hl2 : decide (1000 < (l.length : Int)) = false := by simp; omega
  have hd1 : decide (1 ≤ n) = false := by simp; omega
  clear h hft hr
  go_enter Try.func3, Try.ntmps3
  go_wp2_with fail
  refine (awake_any _).mono ?_
  rintro e w1 ⟨rfl, hb⟩
  have hs1 := hb.size
  have hs2 := HA.out.size
  have hc0 : w1.cell? ⟨w.heap.size, 0, none⟩ = some (.int .i64 p) := (hb.cell (p := ⟨w.heap.size, 0, none⟩) (by simp)).trans (by go_simp)
  have hc1 : w1.cell? ⟨w.heap.size, 1, none⟩ = some (.int .i64 n) := (hb.cell (p := ⟨w.heap.size, 1, none⟩) (by simp)).trans (by go_simp)
  have HB1 : Hid (Below w.heap.size w w1) := HA.out.trans (hb.mono hs2)
  clear hb HA
  go_wp2_with fail
  go_quiet (fail)
  clear hc0 hc1
  go_wp2_with fail
  refine (HR.out _).mono ?_
  rintro e w2 ⟨rfl, rfl⟩
  go_wp2_with fail
  refine (HG.out _).mono ?_
  rintro e w3 ⟨rfl, rfl⟩
  have HBq : Hid (Below w.heap.size w (w1.drewN nq)) := ⟨HB1.out.os, HB1.out.tape, HB1.out.output, HB1.out.size, HB1.out.block⟩
  go_wp2_with fail
  refine (put_no ad c l p n v _ (HH.out.below HBq.out) hl8 hp hex).mono ?_
  rintro e w2 ⟨y, rfl, ho, hb⟩
  have HY := Lib.hid (Byt.of_own ho)
  have HB2 : Hid (Below w.heap.size w w2) := HBq.out.trans (hb.mono HBq.out.size)
  have HB := Lib.hid (HH.out.below HB2.out)
  have hBs := HB2.out.size
  have hYs := Nat.le_refl w2.heap.size
  clear ho hb
  go_wp2_with fail
  refine Mono.region_list (fun W W' => Below W.heap.size W W') (by kernel_rfl) (by kernel_rfl) (by kernel_rfl) hRr hRt ?_
  change Mono.RGL _ _ _ w2.drew _ _ _ _
  refine Mono.rgl_val (v := ?v0) rfl hRr (fun ρ a W hR hd hf => ?h0) ?_
  case h0 =>
    have e2 := Mono.init_get hf (t := 2) (by kernel_rfl)
    clear hd hf
    (go_simp; try with_reducible rfl)
  refine Mono.rgl_val (v := ?v1) rfl hRr (fun ρ a W hR hd hf => ?h1) ?_
  case h1 =>
    have e8 := Mono.init_get hf (t := 8) (by kernel_rfl)
    clear hd hf
    (go_simp; try with_reducible rfl)
  refine Mono.rgl_call (fun x _ => x = .bool false) rfl hRr (fun _ _ _ h _ => h) (fun ρ a W hR hd hf => ?h2) ?_
  case h2 =>
    have e55 := Mono.dep_val hd hf (t := 55) (k := 0) (by kernel_rfl) rfl
    have e56 := Mono.dep_val hd hf (t := 56) (k := 1) (by kernel_rfl) rfl
    clear hd hf
    refine ⟨_, _, by go_simp; first | rfl | exact ⟨rfl, rfl⟩, ?_⟩
    exact (HF.out W).mono (fun e W' ⟨he, hw⟩ => ⟨_, he, hw ▸ hRr _, rfl⟩)
  refine Mono.rgl_val (v := ?v3) rfl hRr (fun ρ a W hR hd hf => ?h3) ?_
  case h3 =>
    have e57 := Mono.dep_val hd hf (t := 57) (k := 2) (by kernel_rfl) rfl
    clear hd hf
    (go_simp; try with_reducible rfl)
  refine Mono.rgl_val (v := ?v4) rfl hRr (fun ρ a W hR hd hf => ?h4) ?_
  case h4 =>
    have e58 := Mono.dep_val hd hf (t := 58) (k := 3) (by kernel_rfl) rfl
    clear hd hf
    (go_simp; try with_reducible rfl)
  refine Mono.rgl_valg (v := ?v5) rfl hRr (fun ρ W hd => Mono.guard_val hd (t := 59) (k := 4) (by kernel_rfl) rfl) (fun ρ a W hR hd hf => ?h5) ?_
  case h5 =>
    have e0 := Mono.init_get hf (t := 0) (by kernel_rfl)
    clear hd hf
    (go_simp; try with_reducible rfl)
  refine Mono.rgl_valg (v := ?v6) rfl hRr (fun ρ W hd => Mono.guard_val hd (t := 59) (k := 4) (by kernel_rfl) rfl) (fun ρ a W hR hd hf => ?h6) ?_
  case h6 =>
    have e8 := Mono.init_get hf (t := 8) (by kernel_rfl)
    clear hd hf
    (go_simp; try with_reducible rfl)
  refine Mono.rgl_valg (v := ?v7) rfl hRr (fun ρ W hd => Mono.guard_val hd (t := 59) (k := 4) (by kernel_rfl) rfl) (fun ρ a W hR hd hf => ?h7) ?_
  case h7 =>
    have e2 := Mono.init_get hf (t := 2) (by kernel_rfl)
    clear hd hf
    (go_simp; try with_reducible rfl)
  refine Mono.rgl_callg (fun v W => Byt W W.heap.size v (l)) rfl hRr hstB (fun ρ W hd => Mono.guard_val hd (t := 59) (k := 4) (by kernel_rfl) rfl) (fun ρ a W hR hd hf => ?h8) ?_
  case h8 =>
    have e60 := Mono.dep_val hd hf (t := 60) (k := 5) (by kernel_rfl) rfl
    have e61 := Mono.dep_val hd hf (t := 61) (k := 6) (by kernel_rfl) rfl
    have e62 := Mono.dep_val hd hf (t := 62) (k := 7) (by kernel_rfl) rfl
    clear hd hf
    refine ⟨_, _, by go_simp; first | rfl | exact ⟨rfl, rfl⟩, ?_⟩
    exact (append_no ad c l n v W (HB.out.reg hBs hR) hl8 hn).mono (fun e W' ⟨v', he, ho, hb⟩ => ⟨v', he, hb, Byt.of_own ho⟩)
  refine Mono.rgl_valg (v := ?v9) rfl hRr (fun ρ W hd => Mono.guard_val hd (t := 59) (k := 4) (by kernel_rfl) rfl) (fun ρ a W hR hd hf => ?h9) ?_
  case h9 =>
    obtain ⟨e63, d8⟩ := Mono.dep_get hd hf (t := 63) (k := 8) (by kernel_rfl)
    replace d8 : (fun v W => Byt W W.heap.size v (l)) (ρ 8) W := d8
    have hcv := convert_byt (src := 22) (dst := 9) (e := 5) rfl rfl rfl (d8)
    clear hd hf
    (go_simp; try with_reducible rfl)
  refine Mono.rgl_valg (v := ?v10) rfl hRr (fun ρ W hd => Mono.guard_val hd (t := 59) (k := 4) (by kernel_rfl) rfl) (fun ρ a W hR hd hf => ?h10) ?_
  case h10 =>
    have e0 := Mono.init_get hf (t := 0) (by kernel_rfl)
    clear hd hf
    (go_simp; try with_reducible rfl)
  refine Mono.rgl_valg (v := ?v11) rfl hRr (fun ρ W hd => Mono.guard_val hd (t := 59) (k := 4) (by kernel_rfl) rfl) (fun ρ a W hR hd hf => ?h11) ?_
  case h11 =>
    have e65 := Mono.dep_val hd hf (t := 65) (k := 10) (by kernel_rfl) rfl
    have hcv := convert_byt (src := 22) (dst := 9) (e := 5) rfl rfl rfl (HB.out.reg hBs hR)
    clear hd hf
    (go_simp; try with_reducible rfl)
  refine Mono.rgl_valg (v := ?v12) rfl hRr (fun ρ W hd => Mono.guard_val hd (t := 59) (k := 4) (by kernel_rfl) rfl) (fun ρ a W hR hd hf => ?h12) ?_
  case h12 =>
    have e64 := Mono.dep_val hd hf (t := 64) (k := 9) (by kernel_rfl) rfl
    have e66 := Mono.dep_val hd hf (t := 66) (k := 11) (by kernel_rfl) rfl
    clear hd hf
    (go_simp; try with_reducible rfl)
  refine Mono.rgl_val (v := ?v13) rfl hRr (fun ρ a W hR hd hf => ?h13) ?_
  case h13 =>
    have e59 := Mono.dep_val hd hf (t := 59) (k := 4) (by kernel_rfl) rfl
    have e67 := Mono.dep_val hd hf (t := 67) (k := 12) (by kernel_rfl) rfl
    clear hd hf
    (go_simp; try with_reducible rfl)
  refine Mono.rgl_val (v := ?v14) rfl hRr (fun ρ a W hR hd hf => ?h14) ?_
  case h14 =>
    have e68 := Mono.dep_val hd hf (t := 68) (k := 13) (by kernel_rfl) rfl
    clear hd hf
    (go_simp; try with_reducible rfl)
  refine Mono.rgl_valg (v := ?v15) rfl hRr (fun ρ W hd => Mono.guard_val hd (t := 69) (k := 14) (by kernel_rfl) rfl) (fun ρ a W hR hd hf => ?h15) ?_
  case h15 =>
    have e10 := Mono.init_get hf (t := 10) (by kernel_rfl)
    clear hd hf
    (go_simp; try with_reducible rfl)
  refine Mono.rgl_valg (v := ?v16) rfl hRr (fun ρ W hd => Mono.guard_val hd (t := 69) (k := 14) (by kernel_rfl) rfl) (fun ρ a W hR hd hf => ?h16) ?_
  case h16 =>
    have e70 := Mono.dep_val hd hf (t := 70) (k := 15) (by kernel_rfl) rfl
    clear hd hf
    (go_simp; try with_reducible rfl)
  refine Mono.rgl_val (v := ?v17) rfl hRr (fun ρ a W hR hd hf => ?h17) ?_
  case h17 =>
    have e69 := Mono.dep_val hd hf (t := 69) (k := 14) (by kernel_rfl) rfl
    have e71 := Mono.dep_val hd hf (t := 71) (k := 16) (by kernel_rfl) rfl
    clear hd hf
    (go_simp; try with_reducible rfl)
  refine Mono.rgl_val (v := ?v18) rfl hRr (fun ρ a W hR hd hf => ?h18) ?_
  case h18 =>
    have e72 := Mono.dep_val hd hf (t := 72) (k := 17) (by kernel_rfl) rfl
    clear hd hf
    (go_simp; try with_reducible rfl)
  refine Mono.rgl_valg (v := ?v19) rfl hRr (fun ρ W hd => Mono.guard_val hd (t := 73) (k := 18) (by kernel_rfl) rfl) (fun ρ a W hR hd hf => ?h19) ?_
  case h19 =>
    have e11 := Mono.init_get hf (t := 11) (by kernel_rfl)
    clear hd hf
    (go_simp; try with_reducible rfl)
  refine Mono.rgl_valg (v := ?v20) rfl hRr (fun ρ W hd => Mono.guard_val hd (t := 73) (k := 18) (by kernel_rfl) rfl) (fun ρ a W hR hd hf => ?h20) ?_
  case h20 =>
    have e74 := Mono.dep_val hd hf (t := 74) (k := 19) (by kernel_rfl) rfl
    clear hd hf
    (go_simp; try with_reducible rfl)
  refine Mono.rgl_val (v := ?v21) rfl hRr (fun ρ a W hR hd hf => ?h21) ?_
  case h21 =>
    have e73 := Mono.dep_val hd hf (t := 73) (k := 18) (by kernel_rfl) rfl
    have e75 := Mono.dep_val hd hf (t := 75) (k := 20) (by kernel_rfl) rfl
    clear hd hf
    (go_simp; try with_reducible rfl)
  refine Mono.rgl_val (v := ?v22) rfl hRr (fun ρ a W hR hd hf => ?h22) ?_
  case h22 =>
    have e76 := Mono.dep_val hd hf (t := 76) (k := 21) (by kernel_rfl) rfl
    clear hd hf
    (go_simp; try with_reducible rfl)
  refine Mono.rgl_valg (v := ?v23) rfl hRr (fun ρ W hd => Mono.guard_val hd (t := 77) (k := 22) (by kernel_rfl) rfl) (fun ρ a W hR hd hf => ?h23) ?_
  case h23 =>
    have e12 := Mono.init_get hf (t := 12) (by kernel_rfl)
    clear hd hf
    (go_simp; try with_reducible rfl)
  refine Mono.rgl_valg (v := ?v24) rfl hRr (fun ρ W hd => Mono.guard_val hd (t := 77) (k := 22) (by kernel_rfl) rfl) (fun ρ a W hR hd hf => ?h24) ?_
  case h24 =>
    have e78 := Mono.dep_val hd hf (t := 78) (k := 23) (by kernel_rfl) rfl
    have hcv := convert_byt (src := 22) (dst := 9) (e := 5) rfl rfl rfl (HY.out.reg hYs hR)
    clear hd hf
    (go_simp; try with_reducible rfl)
  refine Mono.rgl_valg (v := ?v25) rfl hRr (fun ρ W hd => Mono.guard_val hd (t := 77) (k := 22) (by kernel_rfl) rfl) (fun ρ a W hR hd hf => ?h25) ?_
  case h25 =>
    have e0 := Mono.init_get hf (t := 0) (by kernel_rfl)
    clear hd hf
    (go_simp; try with_reducible rfl)
  refine Mono.rgl_valg (v := ?v26) rfl hRr (fun ρ W hd => Mono.guard_val hd (t := 77) (k := 22) (by kernel_rfl) rfl) (fun ρ a W hR hd hf => ?h26) ?_
  case h26 =>
    have e80 := Mono.dep_val hd hf (t := 80) (k := 25) (by kernel_rfl) rfl
    have hcv := convert_byt (src := 22) (dst := 9) (e := 5) rfl rfl rfl (HB.out.reg hBs hR)
    clear hd hf
    (go_simp; try with_reducible rfl)
  refine Mono.rgl_valg (v := ?v27) rfl hRr (fun ρ W hd => Mono.guard_val hd (t := 77) (k := 22) (by kernel_rfl) rfl) (fun ρ a W hR hd hf => ?h27) ?_
  case h27 =>
    have e79 := Mono.dep_val hd hf (t := 79) (k := 24) (by kernel_rfl) rfl
    have e81 := Mono.dep_val hd hf (t := 81) (k := 26) (by kernel_rfl) rfl
    clear hd hf
    (go_simp; try with_reducible rfl)
  refine Mono.rgl_val (v := ?v28) rfl hRr (fun ρ a W hR hd hf => ?h28) ?_
  case h28 =>
    have e77 := Mono.dep_val hd hf (t := 77) (k := 22) (by kernel_rfl) rfl
    have e82 := Mono.dep_val hd hf (t := 82) (k := 27) (by kernel_rfl) rfl
    clear hd hf
    (go_simp; try with_reducible rfl)
  refine Mono.rgl_val (v := ?v29) rfl hRr (fun ρ a W hR hd hf => ?h29) ?_
  case h29 =>
    have e83 := Mono.dep_val hd hf (t := 83) (k := 28) (by kernel_rfl) rfl
    clear hd hf
    (go_simp; try with_reducible rfl)
  refine Mono.rgl_valg (v := ?v30) rfl hRr (fun ρ W hd => Mono.guard_val hd (t := 84) (k := 29) (by kernel_rfl) rfl) (fun ρ a W hR hd hf => ?h30) ?_
  case h30 =>
    have e13 := Mono.init_get hf (t := 13) (by kernel_rfl)
    clear hd hf
    (go_simp; try with_reducible rfl)
  refine Mono.rgl_valg (v := ?v31) rfl hRr (fun ρ W hd => Mono.guard_val hd (t := 84) (k := 29) (by kernel_rfl) rfl) (fun ρ a W hR hd hf => ?h31) ?_
  case h31 =>
    have e85 := Mono.dep_val hd hf (t := 85) (k := 30) (by kernel_rfl) rfl
    clear hd hf
    (go_simp; try with_reducible rfl)
  refine Mono.rgl_val (v := ?v32) rfl hRr (fun ρ a W hR hd hf => ?h32) ?_
  case h32 =>
    have e84 := Mono.dep_val hd hf (t := 84) (k := 29) (by kernel_rfl) rfl
    have e86 := Mono.dep_val hd hf (t := 86) (k := 31) (by kernel_rfl) rfl
    clear hd hf
    (go_simp; try with_reducible rfl)
  refine Mono.rgl_val (v := ?v33) rfl hRr (fun ρ a W hR hd hf => ?h33) ?_
  case h33 =>
    have e87 := Mono.dep_val hd hf (t := 87) (k := 32) (by kernel_rfl) rfl
    clear hd hf
    (go_simp; try with_reducible rfl)
  refine Mono.rgl_done rfl (fun ρ W hR ht => ?_)
  obtain ⟨d33, d32, d31, d30, d29, d28, d27, d26, d25, d24, d23, d22, d21, d20, d19, d18, d17, d16, d15, d14, d13, d12, d11, d10, d9, d8, d7, d6, d5, d4, d3, d2, d1, d0, _⟩ := ht
  replace d8 : (fun v W => Byt W W.heap.size v (l)) (ρ 8) W := d8
  simp only [List.length_cons, List.length_nil, Nat.reduceAdd] at d0 d1 d2 d3 d4 d5 d6 d7 d9 d10 d11 d12 d13 d14 d15 d16 d17 d18 d19 d20 d21 d22 d23 d24 d25 d26 d27 d28 d29 d30 d31 d32 d33
  simp only [Mono.putAll, Nat.reduceAdd, d0, d1, d2, d3, d4, d5, d6, d7, d9, d10, d11, d12, d13, d14, d15, d16, d17, d18, d19, d20, d21, d22, d23, d24, d25, d26, d27, d28, d29, d30, d31, d32, d33, Act.put, List.setIfInBounds_toArray, List.set_cons_zero, List.set_cons_succ]
  clear d0 d1 d2 d3 d4 d5 d6 d7 d9 d10 d11 d12 d13 d14 d15 d16 d17 d18 d19 d20 d21 d22 d23 d24 d25 d26 d27 d28 d29 d30 d31 d32 d33
  generalize ρ 8 = r8 at *
  have HZ : Hid (Below w.heap.size w W) := HB2.out.trans (drew_reg hR HB2.out.size)
  clear hR
  go_wp2
  go_ret
  exact ⟨rfl, HZ.out⟩
set_option maxHeartbeats 1000000 in
set_option maxRecDepth 100000 in
theorem numbers_high (ad : Option Addr) (c : Nat) (l : List UInt8) (p n : Int) (v : Nat) (w : World) (h : Byt w w.heap.size (.slice ad l.length c) l) (hl : l.length ≤ 1000) (hp : -9223372036854775808 ≤ p ∧ p ≤ 9223372036854775807) (hn0 : 8 < n) (hv : v < 18446744073709551616) :
    Calls Try.prog 3 #[.slice ad l.length c, .agg #[.int .i64 p, .int .i64 n], .int .u64 (v : Nat)] w (numbersQ w) := by
  have hl8 : l.length ≤ 100000000 := by omega
  have hn : n < 1 ∨ 8 < n := by omega
  have hr : rightW n = false := rightW_false hn
  have hex : existsB l.length p n = false := by simp [existsB, hr]
  have hft : fitsB v n = false := by simp [fitsB, hr]
  have HF := Lib.hid (fun W => fits_any v n W hv)
  rw [hft] at HF
  have HR := Lib.hid (fun W => right_any n W)
  rw [hr] at HR
  have HG := Lib.hid (fun W => get_no ad l.length c p n W hl8 hp hex)
  have HH := Lib.hid h
  have HA : Hid (Below w.heap.size w (w.alloc (.cells #[.int .i64 p, .int .i64 n] 23))) := (Below.refl _ _).alloc (Nat.le_refl _) _
  have hl1 : decide ((l.length : Int) > 1000) = false := by simp; omega
  have hl2 : decide (1000 < (l.length : Int)) = false := by simp; omega
  have hd1 : decide (1 ≤ n) = true := by simp; omega
  have hd2 : decide (n ≤ 8) = false := by simp; omega
  clear h hft hr
  go_enter Try.func3, Try.ntmps3
  go_wp2_with fail
  refine (awake_any _).mono ?_
  rintro e w1 ⟨rfl, hb⟩
  have hs1 := hb.size
  have hs2 := HA.out.size
  have hc0 : w1.cell? ⟨w.heap.size, 0, none⟩ = some (.int .i64 p) := (hb.cell (p := ⟨w.heap.size, 0, none⟩) (by simp)).trans (by go_simp)
  have hc1 : w1.cell? ⟨w.heap.size, 1, none⟩ = some (.int .i64 n) := (hb.cell (p := ⟨w.heap.size, 1, none⟩) (by simp)).trans (by go_simp)
  have HB1 : Hid (Below w.heap.size w w1) := HA.out.trans (hb.mono hs2)
  clear hb HA
  go_wp2_with fail
  go_quiet (fail)
  clear hc0 hc1
  go_wp2_with fail
  refine (HR.out _).mono ?_
  rintro e w2 ⟨rfl, rfl⟩
  go_wp2_with fail
  refine (HG.out _).mono ?_
  rintro e w3 ⟨rfl, rfl⟩
  have HBq : Hid (Below w.heap.size w (w1.drewN nq)) := ⟨HB1.out.os, HB1.out.tape, HB1.out.output, HB1.out.size, HB1.out.block⟩
  go_wp2_with fail
  refine (put_no ad c l p n v _ (HH.out.below HBq.out) hl8 hp hex).mono ?_
  rintro e w2 ⟨y, rfl, ho, hb⟩
  have HY := Lib.hid (Byt.of_own ho)
  have HB2 : Hid (Below w.heap.size w w2) := HBq.out.trans (hb.mono HBq.out.size)
  have HB := Lib.hid (HH.out.below HB2.out)
  have hBs := HB2.out.size
  have hYs := Nat.le_refl w2.heap.size
  clear ho hb
  go_wp2_with fail
  refine Mono.region_list (fun W W' => Below W.heap.size W W') (by kernel_rfl) (by kernel_rfl) (by kernel_rfl) hRr hRt ?_
  change Mono.RGL _ _ _ w2.drew _ _ _ _
  refine Mono.rgl_val (v := ?v0) rfl hRr (fun ρ a W hR hd hf => ?h0) ?_
  case h0 =>
    have e2 := Mono.init_get hf (t := 2) (by kernel_rfl)
    clear hd hf
    (go_simp; try with_reducible rfl)
  refine Mono.rgl_val (v := ?v1) rfl hRr (fun ρ a W hR hd hf => ?h1) ?_
  case h1 =>
    have e8 := Mono.init_get hf (t := 8) (by kernel_rfl)
    clear hd hf
    (go_simp; try with_reducible rfl)
  refine Mono.rgl_call (fun x _ => x = .bool false) rfl hRr (fun _ _ _ h _ => h) (fun ρ a W hR hd hf => ?h2) ?_
  case h2 =>
    have e55 := Mono.dep_val hd hf (t := 55) (k := 0) (by kernel_rfl) rfl
    have e56 := Mono.dep_val hd hf (t := 56) (k := 1) (by kernel_rfl) rfl
    clear hd hf
    refine ⟨_, _, by go_simp; first | rfl | exact ⟨rfl, rfl⟩, ?_⟩
    exact (HF.out W).mono (fun e W' ⟨he, hw⟩ => ⟨_, he, hw ▸ hRr _, rfl⟩)
  refine Mono.rgl_val (v := ?v3) rfl hRr (fun ρ a W hR hd hf => ?h3) ?_
  case h3 =>
    have e57 := Mono.dep_val hd hf (t := 57) (k := 2) (by kernel_rfl) rfl
    clear hd hf
    (go_simp; try with_reducible rfl)
  refine Mono.rgl_val (v := ?v4) rfl hRr (fun ρ a W hR hd hf => ?h4) ?_
  case h4 =>
    have e58 := Mono.dep_val hd hf (t := 58) (k := 3) (by kernel_rfl) rfl
    clear hd hf
    (go_simp; try with_reducible rfl)
  refine Mono.rgl_valg (v := ?v5) rfl hRr (fun ρ W hd => Mono.guard_val hd (t := 59) (k := 4) (by kernel_rfl) rfl) (fun ρ a W hR hd hf => ?h5) ?_
  case h5 =>
    have e0 := Mono.init_get hf (t := 0) (by kernel_rfl)
    clear hd hf
    (go_simp; try with_reducible rfl)
  refine Mono.rgl_valg (v := ?v6) rfl hRr (fun ρ W hd => Mono.guard_val hd (t := 59) (k := 4) (by kernel_rfl) rfl) (fun ρ a W hR hd hf => ?h6) ?_
  case h6 =>
    have e8 := Mono.init_get hf (t := 8) (by kernel_rfl)
    clear hd hf
    (go_simp; try with_reducible rfl)
  refine Mono.rgl_valg (v := ?v7) rfl hRr (fun ρ W hd => Mono.guard_val hd (t := 59) (k := 4) (by kernel_rfl) rfl) (fun ρ a W hR hd hf => ?h7) ?_
  case h7 =>
    have e2 := Mono.init_get hf (t := 2) (by kernel_rfl)
    clear hd hf
    (go_simp; try with_reducible rfl)
  refine Mono.rgl_callg (fun v W => Byt W W.heap.size v (l)) rfl hRr hstB (fun ρ W hd => Mono.guard_val hd (t := 59) (k := 4) (by kernel_rfl) rfl) (fun ρ a W hR hd hf => ?h8) ?_
  case h8 =>
    have e60 := Mono.dep_val hd hf (t := 60) (k := 5) (by kernel_rfl) rfl
    have e61 := Mono.dep_val hd hf (t := 61) (k := 6) (by kernel_rfl) rfl
    have e62 := Mono.dep_val hd hf (t := 62) (k := 7) (by kernel_rfl) rfl
    clear hd hf
    refine ⟨_, _, by go_simp; first | rfl | exact ⟨rfl, rfl⟩, ?_⟩
    exact (append_no ad c l n v W (HB.out.reg hBs hR) hl8 hn).mono (fun e W' ⟨v', he, ho, hb⟩ => ⟨v', he, hb, Byt.of_own ho⟩)
  refine Mono.rgl_valg (v := ?v9) rfl hRr (fun ρ W hd => Mono.guard_val hd (t := 59) (k := 4) (by kernel_rfl) rfl) (fun ρ a W hR hd hf => ?h9) ?_
  case h9 =>
    obtain ⟨e63, d8⟩ := Mono.dep_get hd hf (t := 63) (k := 8) (by kernel_rfl)
    replace d8 : (fun v W => Byt W W.heap.size v (l)) (ρ 8) W := d8
    have hcv := convert_byt (src := 22) (dst := 9) (e := 5) rfl rfl rfl (d8)
    clear hd hf
    (go_simp; try with_reducible rfl)
  refine Mono.rgl_valg (v := ?v10) rfl hRr (fun ρ W hd => Mono.guard_val hd (t := 59) (k := 4) (by kernel_rfl) rfl) (fun ρ a W hR hd hf => ?h10) ?_
  case h10 =>
    have e0 := Mono.init_get hf (t := 0) (by kernel_rfl)
    clear hd hf
    (go_simp; try with_reducible rfl)
  refine Mono.rgl_valg (v := ?v11) rfl hRr (fun ρ W hd => Mono.guard_val hd (t := 59) (k := 4) (by kernel_rfl) rfl) (fun ρ a W hR hd hf => ?h11) ?_
  case h11 =>
    have e65 := Mono.dep_val hd hf (t := 65) (k := 10) (by kernel_rfl) rfl
    have hcv := convert_byt (src := 22) (dst := 9) (e := 5) rfl rfl rfl (HB.out.reg hBs hR)
    clear hd hf
    (go_simp; try with_reducible rfl)
  refine Mono.rgl_valg (v := ?v12) rfl hRr (fun ρ W hd => Mono.guard_val hd (t := 59) (k := 4) (by kernel_rfl) rfl) (fun ρ a W hR hd hf => ?h12) ?_
  case h12 =>
    have e64 := Mono.dep_val hd hf (t := 64) (k := 9) (by kernel_rfl) rfl
    have e66 := Mono.dep_val hd hf (t := 66) (k := 11) (by kernel_rfl) rfl
    clear hd hf
    (go_simp; try with_reducible rfl)
  refine Mono.rgl_val (v := ?v13) rfl hRr (fun ρ a W hR hd hf => ?h13) ?_
  case h13 =>
    have e59 := Mono.dep_val hd hf (t := 59) (k := 4) (by kernel_rfl) rfl
    have e67 := Mono.dep_val hd hf (t := 67) (k := 12) (by kernel_rfl) rfl
    clear hd hf
    (go_simp; try with_reducible rfl)
  refine Mono.rgl_val (v := ?v14) rfl hRr (fun ρ a W hR hd hf => ?h14) ?_
  case h14 =>
    have e68 := Mono.dep_val hd hf (t := 68) (k := 13) (by kernel_rfl) rfl
    clear hd hf
    (go_simp; try with_reducible rfl)
  refine Mono.rgl_valg (v := ?v15) rfl hRr (fun ρ W hd => Mono.guard_val hd (t := 69) (k := 14) (by kernel_rfl) rfl) (fun ρ a W hR hd hf => ?h15) ?_
  case h15 =>
    have e10 := Mono.init_get hf (t := 10) (by kernel_rfl)
    clear hd hf
    (go_simp; try with_reducible rfl)
  refine Mono.rgl_valg (v := ?v16) rfl hRr (fun ρ W hd => Mono.guard_val hd (t := 69) (k := 14) (by kernel_rfl) rfl) (fun ρ a W hR hd hf => ?h16) ?_
  case h16 =>
    have e70 := Mono.dep_val hd hf (t := 70) (k := 15) (by kernel_rfl) rfl
    clear hd hf
    (go_simp; try with_reducible rfl)
  refine Mono.rgl_val (v := ?v17) rfl hRr (fun ρ a W hR hd hf => ?h17) ?_
  case h17 =>
    have e69 := Mono.dep_val hd hf (t := 69) (k := 14) (by kernel_rfl) rfl
    have e71 := Mono.dep_val hd hf (t := 71) (k := 16) (by kernel_rfl) rfl
    clear hd hf
    (go_simp; try with_reducible rfl)
  refine Mono.rgl_val (v := ?v18) rfl hRr (fun ρ a W hR hd hf => ?h18) ?_
  case h18 =>
    have e72 := Mono.dep_val hd hf (t := 72) (k := 17) (by kernel_rfl) rfl
    clear hd hf
    (go_simp; try with_reducible rfl)
  refine Mono.rgl_valg (v := ?v19) rfl hRr (fun ρ W hd => Mono.guard_val hd (t := 73) (k := 18) (by kernel_rfl) rfl) (fun ρ a W hR hd hf => ?h19) ?_
  case h19 =>
    have e11 := Mono.init_get hf (t := 11) (by kernel_rfl)
    clear hd hf
    (go_simp; try with_reducible rfl)
  refine Mono.rgl_valg (v := ?v20) rfl hRr (fun ρ W hd => Mono.guard_val hd (t := 73) (k := 18) (by kernel_rfl) rfl) (fun ρ a W hR hd hf => ?h20) ?_
  case h20 =>
    have e74 := Mono.dep_val hd hf (t := 74) (k := 19) (by kernel_rfl) rfl
    clear hd hf
    (go_simp; try with_reducible rfl)
  refine Mono.rgl_val (v := ?v21) rfl hRr (fun ρ a W hR hd hf => ?h21) ?_
  case h21 =>
    have e73 := Mono.dep_val hd hf (t := 73) (k := 18) (by kernel_rfl) rfl
    have e75 := Mono.dep_val hd hf (t := 75) (k := 20) (by kernel_rfl) rfl
    clear hd hf
    (go_simp; try with_reducible rfl)
  refine Mono.rgl_val (v := ?v22) rfl hRr (fun ρ a W hR hd hf => ?h22) ?_
  case h22 =>
    have e76 := Mono.dep_val hd hf (t := 76) (k := 21) (by kernel_rfl) rfl
    clear hd hf
    (go_simp; try with_reducible rfl)
  refine Mono.rgl_valg (v := ?v23) rfl hRr (fun ρ W hd => Mono.guard_val hd (t := 77) (k := 22) (by kernel_rfl) rfl) (fun ρ a W hR hd hf => ?h23) ?_
  case h23 =>
    have e12 := Mono.init_get hf (t := 12) (by kernel_rfl)
    clear hd hf
    (go_simp; try with_reducible rfl)
  refine Mono.rgl_valg (v := ?v24) rfl hRr (fun ρ W hd => Mono.guard_val hd (t := 77) (k := 22) (by kernel_rfl) rfl) (fun ρ a W hR hd hf => ?h24) ?_
  case h24 =>
    have e78 := Mono.dep_val hd hf (t := 78) (k := 23) (by kernel_rfl) rfl
    have hcv := convert_byt (src := 22) (dst := 9) (e := 5) rfl rfl rfl (HY.out.reg hYs hR)
    clear hd hf
    (go_simp; try with_reducible rfl)
  refine Mono.rgl_valg (v := ?v25) rfl hRr (fun ρ W hd => Mono.guard_val hd (t := 77) (k := 22) (by kernel_rfl) rfl) (fun ρ a W hR hd hf => ?h25) ?_
  case h25 =>
    have e0 := Mono.init_get hf (t := 0) (by kernel_rfl)
    clear hd hf
    (go_simp; try with_reducible rfl)
  refine Mono.rgl_valg (v := ?v26) rfl hRr (fun ρ W hd => Mono.guard_val hd (t := 77) (k := 22) (by kernel_rfl) rfl) (fun ρ a W hR hd hf => ?h26) ?_
  case h26 =>
    have e80 := Mono.dep_val hd hf (t := 80) (k := 25) (by kernel_rfl) rfl
    have hcv := convert_byt (src := 22) (dst := 9) (e := 5) rfl rfl rfl (HB.out.reg hBs hR)
    clear hd hf
    (go_simp; try with_reducible rfl)
  refine Mono.rgl_valg (v := ?v27) rfl hRr (fun ρ W hd => Mono.guard_val hd (t := 77) (k := 22) (by kernel_rfl) rfl) (fun ρ a W hR hd hf => ?h27) ?_
  case h27 =>
    have e79 := Mono.dep_val hd hf (t := 79) (k := 24) (by kernel_rfl) rfl
    have e81 := Mono.dep_val hd hf (t := 81) (k := 26) (by kernel_rfl) rfl
    clear hd hf
    (go_simp; try with_reducible rfl)
  refine Mono.rgl_val (v := ?v28) rfl hRr (fun ρ a W hR hd hf => ?h28) ?_
  case h28 =>
    have e77 := Mono.dep_val hd hf (t := 77) (k := 22) (by kernel_rfl) rfl
    have e82 := Mono.dep_val hd hf (t := 82) (k := 27) (by kernel_rfl) rfl
    clear hd hf
    (go_simp; try with_reducible rfl)
  refine Mono.rgl_val (v := ?v29) rfl hRr (fun ρ a W hR hd hf => ?h29) ?_
  case h29 =>
    have e83 := Mono.dep_val hd hf (t := 83) (k := 28) (by kernel_rfl) rfl
    clear hd hf
    (go_simp; try with_reducible rfl)
  refine Mono.rgl_valg (v := ?v30) rfl hRr (fun ρ W hd => Mono.guard_val hd (t := 84) (k := 29) (by kernel_rfl) rfl) (fun ρ a W hR hd hf => ?h30) ?_
  case h30 =>
    have e13 := Mono.init_get hf (t := 13) (by kernel_rfl)
    clear hd hf
    (go_simp; try with_reducible rfl)
  refine Mono.rgl_valg (v := ?v31) rfl hRr (fun ρ W hd => Mono.guard_val hd (t := 84) (k := 29) (by kernel_rfl) rfl) (fun ρ a W hR hd hf => ?h31) ?_
  case h31 =>
    have e85 := Mono.dep_val hd hf (t := 85) (k := 30) (by kernel_rfl) rfl
    clear hd hf
    (go_simp; try with_reducible rfl)
  refine Mono.rgl_val (v := ?v32) rfl hRr (fun ρ a W hR hd hf => ?h32) ?_
  case h32 =>
    have e84 := Mono.dep_val hd hf (t := 84) (k := 29) (by kernel_rfl) rfl
    have e86 := Mono.dep_val hd hf (t := 86) (k := 31) (by kernel_rfl) rfl
    clear hd hf
    (go_simp; try with_reducible rfl)
  refine Mono.rgl_val (v := ?v33) rfl hRr (fun ρ a W hR hd hf => ?h33) ?_
  case h33 =>
    have e87 := Mono.dep_val hd hf (t := 87) (k := 32) (by kernel_rfl) rfl
    clear hd hf
    (go_simp; try with_reducible rfl)
  refine Mono.rgl_done rfl (fun ρ W hR ht => ?_)
  obtain ⟨d33, d32, d31, d30, d29, d28, d27, d26, d25, d24, d23, d22, d21, d20, d19, d18, d17, d16, d15, d14, d13, d12, d11, d10, d9, d8, d7, d6, d5, d4, d3, d2, d1, d0, _⟩ := ht
  replace d8 : (fun v W => Byt W W.heap.size v (l)) (ρ 8) W := d8
  simp only [List.length_cons, List.length_nil, Nat.reduceAdd] at d0 d1 d2 d3 d4 d5 d6 d7 d9 d10 d11 d12 d13 d14 d15 d16 d17 d18 d19 d20 d21 d22 d23 d24 d25 d26 d27 d28 d29 d30 d31 d32 d33
  simp only [Mono.putAll, Nat.reduceAdd, d0, d1, d2, d3, d4, d5, d6, d7, d9, d10, d11, d12, d13, d14, d15, d16, d17, d18, d19, d20, d21, d22, d23, d24, d25, d26, d27, d28, d29, d30, d31, d32, d33, Act.put, List.setIfInBounds_toArray, List.set_cons_zero, List.set_cons_succ]
  clear d0 d1 d2 d3 d4 d5 d6 d7 d9 d10 d11 d12 d13 d14 d15 d16 d17 d18 d19 d20 d21 d22 d23 d24 d25 d26 d27 d28 d29 d30 d31 d32 d33
  generalize ρ 8 = r8 at *
  have HZ : Hid (Below w.heap.size w W) := HB2.out.trans (drew_reg hR HB2.out.size)
  clear hR
  go_wp2
  go_ret
  exact ⟨rfl, HZ.out⟩
end Go.Proofs.Ytephiopgpfdchaa
