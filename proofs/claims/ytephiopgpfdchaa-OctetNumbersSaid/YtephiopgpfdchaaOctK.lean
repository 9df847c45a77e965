/- The law OctetNumbers: the arms of right widths. -/
import Derived.Test.YtephiopgpfdchaaOctJ
namespace Go.Proofs.Ytephiopgpfdchaa
open Go.RowKit
theorem fits_num (v n : Nat) (n1 : 1 ≤ n) (n2 : n ≤ 8) : (((num (byt n v) : Nat) : Int) == (v : Int)) = fitsB v n := by
  rw [num_byt, fitsB, rightW_true (by omega) (by omega), Bool.true_and, Int.toNat_natCast]
  by_cases h : v < 256 ^ n
  · rw [Nat.mod_eq_of_lt h]; simp [h]
  · have h0 : 0 < 256 ^ n := Nat.pow_pos (by decide)
    have h1 := Nat.mod_lt v h0
    rw [decide_eq_false h, beq_eq_false_iff_ne]
    intro e
    have e' : v % 256 ^ n = v := Int.ofNat.inj e
    omega
set_option maxHeartbeats 2000000 in
set_option maxRecDepth 100000 in
theorem numbers_no (ad : Option Addr) (c : Nat) (l : List UInt8) (p : Int) (n v : Nat) (w : World) (h : Byt w w.heap.size (.slice ad l.length c) l) (hl : l.length ≤ 1000) (hp : -9223372036854775808 ≤ p ∧ p ≤ 9223372036854775807) (hex : existsB l.length p n = false) (n1 : 1 ≤ n) (n2 : n ≤ 8) (hv : v < 18446744073709551616) :
    Calls Try.prog 3 #[.slice ad l.length c, .agg #[.int .i64 p, .int .i64 (n : Nat)], .int .u64 (v : Nat)] w (numbersQ w) := by
  have hl8 : l.length ≤ 100000000 := by omega
  have hl9 : l.length ≤ 100000000000 := by omega
  have hbl := byt_length n v
  have hx8 : (byt n v).length ≤ 8 := by omega
  have hx9 : (byt n v).length ≤ 100000000000 := by omega
  have hr : rightW n = true := rightW_true (by omega) (by omega)
  have HF := Lib.hid (fun W => fits_any v n W hv)
  have HFE := Lib.hid (fits_num v n n1 n2)
  have HR := Lib.hid (fun W => right_any n W)
  rw [hr] at HR
  have HG := Lib.hid (fun W => get_no ad l.length c p n W hl8 hp hex)
  have HI := Lib.hid (fun W => refIn_any l.length p n W hl8)
  rw [hex] at HI
  have HH := Lib.hid h
  have HA : Hid (Below w.heap.size w (w.alloc (.cells #[.int .i64 p, .int .i64 (n : Nat)] 23))) := (Below.refl _ _).alloc (Nat.le_refl _) _
  have hl1 : decide ((l.length : Int) > 1000) = false := by simp; omega
  have hl2 : decide (1000 < (l.length : Int)) = false := by simp; omega
  have hd1 : decide (1 ≤ (n : Int)) = true := by simp; omega
  have hd2 : decide ((n : Int) ≤ 8) = true := by simp; omega
  clear h hr
  go_enter Try.func3, Try.ntmps3
  go_wp2_with fail
  refine (awake_any _).mono ?_
  rintro e w1 ⟨rfl, hb⟩
  have hs1 := hb.size
  have hs2 := HA.out.size
  have hc0 : w1.cell? ⟨w.heap.size, 0, none⟩ = some (.int .i64 p) := (hb.cell (p := ⟨w.heap.size, 0, none⟩) (by simp)).trans (by go_simp)
  have hc1 : w1.cell? ⟨w.heap.size, 1, none⟩ = some (.int .i64 (n : Nat)) := (hb.cell (p := ⟨w.heap.size, 1, none⟩) (by simp)).trans (by go_simp)
  have HB1 : Hid (Below w.heap.size w w1) := HA.out.trans (hb.mono hs2)
  clear hb HA
  go_wp2_with fail
  go_quiet (fail)
  clear hc0 hc1
  go_wp2_with fail
  refine (HR.out _).mono ?_
  rintro e w3 ⟨rfl, rfl⟩
  have HBq : Hid (Below w.heap.size w (w1.drewN nq)) := ⟨HB1.out.os, HB1.out.tape, HB1.out.output, HB1.out.size, HB1.out.block⟩
  go_wp2_with fail
  refine (refBytes_any v n _ n2 hv).mono ?_
  rintro e w2 ⟨x, rfl, ho, hb⟩
  have HX : Hid (Byt w2 w2.heap.size x (byt n v)) := Byt.of_own (by rw [hbl]; exact ho)
  obtain ⟨ax, cx, hxe⟩ := HX.out.slice
  rw [hbl] at hxe
  subst hxe
  have HB2 : Hid (Below w.heap.size w w2) := HBq.out.trans (hb.mono HBq.out.size)
  have HB := Lib.hid (HH.out.below HB2.out)
  have hBs := HB2.out.size
  have hXs := Nat.le_refl w2.heap.size
  clear ho hb
  go_wp2_with fail
  refine Mono.region_list (fun W W' => Below W.heap.size W W') (by kernel_rfl) (by kernel_rfl) (by kernel_rfl) hRr hRt ?_
  change Mono.RGL _ _ _ w2.drew _ _ _ _
  refine Mono.rgl_val (v := ?v0) rfl hRr (fun ρ a W hR hd hf => ?h0) ?_
  case h0 =>
    have e2 := Mono.init_get hf (t := 2) (by kernel_rfl)
    clear hd hf
    (go_simp; try with_reducible rfl)
  refine Mono.rgl_val (v := ?v1) rfl hRr (fun ρ a W hR hd hf => ?h1) ?_
  case h1 =>
    have e8 := Mono.init_get hf (t := 8) (by kernel_rfl)
    clear hd hf
    (go_simp; try with_reducible rfl)
  refine Mono.rgl_call (fun x _ => x = .bool (fitsB v n)) rfl hRr (fun _ _ _ h _ => h) (fun ρ a W hR hd hf => ?h2) ?_
  case h2 =>
    have e91 := Mono.dep_val hd hf (t := 91) (k := 0) (by kernel_rfl) rfl
    have e92 := Mono.dep_val hd hf (t := 92) (k := 1) (by kernel_rfl) rfl
    clear hd hf
    refine ⟨_, _, by go_simp; first | rfl | exact ⟨rfl, rfl⟩, ?_⟩
    exact (HF.out W).mono (fun e W' ⟨he, hw⟩ => ⟨_, he, hw ▸ hRr _, rfl⟩)
  refine Mono.rgl_val (v := ?v3) rfl hRr (fun ρ a W hR hd hf => ?h3) ?_
  case h3 =>
    have e14 := Mono.init_get hf (t := 14) (by kernel_rfl)
    clear hd hf
    (go_simp; try with_reducible rfl)
  refine Mono.rgl_call (fun x _ => x = .int .u64 ((num (byt n v) : Nat) : Int)) rfl hRr (fun _ _ _ h _ => h) (fun ρ a W hR hd hf => ?h4) ?_
  case h4 =>
    have e94 := Mono.dep_val hd hf (t := 94) (k := 3) (by kernel_rfl) rfl
    clear hd hf
    refine ⟨_, _, by go_simp; first | rfl | exact ⟨rfl, rfl⟩, ?_⟩
    exact (refNumber_B (HX.out.reg hXs hR) hx8).mono (fun e W' ⟨he, hw⟩ => ⟨_, he, hw ▸ hRr _, rfl⟩)
  refine Mono.rgl_val (v := ?v5) rfl hRr (fun ρ a W hR hd hf => ?h5) ?_
  case h5 =>
    have e2 := Mono.init_get hf (t := 2) (by kernel_rfl)
    clear hd hf
    (go_simp; try with_reducible rfl)
  refine Mono.rgl_val (v := .bool (fitsB v n)) rfl hRr (fun ρ a W hR hd hf => ?h6) ?_
  case h6 =>
    have e95 := Mono.dep_val hd hf (t := 95) (k := 4) (by kernel_rfl) rfl
    have e96 := Mono.dep_val hd hf (t := 96) (k := 5) (by kernel_rfl) rfl
    clear hd hf
    (go_simp; rw [HFE.out])
  refine Mono.rgl_val (v := .bool false) rfl hRr (fun ρ a W hR hd hf => ?h7) ?_
  case h7 =>
    have e93 := Mono.dep_val hd hf (t := 93) (k := 2) (by kernel_rfl) rfl
    have e97 := Mono.dep_val hd hf (t := 97) (k := 6) (by kernel_rfl) rfl
    clear hd hf
    (go_simp)
  refine Mono.rgl_val (v := ?v8) rfl hRr (fun ρ a W hR hd hf => ?h8) ?_
  case h8 =>
    have e98 := Mono.dep_val hd hf (t := 98) (k := 7) (by kernel_rfl) rfl
    clear hd hf
    (go_simp; try with_reducible rfl)
  refine Mono.rgl_valg (v := ?v9) rfl hRr (fun ρ W hd => Mono.guard_val hd (t := 99) (k := 8) (by kernel_rfl) rfl) (fun ρ a W hR hd hf => ?h9) ?_
  case h9 =>
    have e0 := Mono.init_get hf (t := 0) (by kernel_rfl)
    clear hd hf
    (go_simp; try with_reducible rfl)
  refine Mono.rgl_valg (v := ?v10) rfl hRr (fun ρ W hd => Mono.guard_val hd (t := 99) (k := 8) (by kernel_rfl) rfl) (fun ρ a W hR hd hf => ?h10) ?_
  case h10 =>
    have e8 := Mono.init_get hf (t := 8) (by kernel_rfl)
    clear hd hf
    (go_simp; try with_reducible rfl)
  refine Mono.rgl_valg (v := ?v11) rfl hRr (fun ρ W hd => Mono.guard_val hd (t := 99) (k := 8) (by kernel_rfl) rfl) (fun ρ a W hR hd hf => ?h11) ?_
  case h11 =>
    have e2 := Mono.init_get hf (t := 2) (by kernel_rfl)
    clear hd hf
    (go_simp; try with_reducible rfl)
  refine Mono.rgl_callg (fun z W => Byt W W.heap.size z (l ++ byt n v)) rfl hRr hstB (fun ρ W hd => Mono.guard_val hd (t := 99) (k := 8) (by kernel_rfl) rfl) (fun ρ a W hR hd hf => ?h12) ?_
  case h12 =>
    have e100 := Mono.dep_val hd hf (t := 100) (k := 9) (by kernel_rfl) rfl
    have e101 := Mono.dep_val hd hf (t := 101) (k := 10) (by kernel_rfl) rfl
    have e102 := Mono.dep_val hd hf (t := 102) (k := 11) (by kernel_rfl) rfl
    clear hd hf
    refine ⟨_, _, by go_simp; first | rfl | exact ⟨rfl, rfl⟩, ?_⟩
    exact (append_yes ad c l n v W (HB.out.reg hBs hR) (Nat.le_refl _) hl8 n1 n2 hv).mono (fun e W' ⟨v', he, ho, hb⟩ => ⟨v', he, hb, Byt.of_own ho⟩)
  refine Mono.rgl_valg (v := ?v13) rfl hRr (fun ρ W hd => Mono.guard_val hd (t := 99) (k := 8) (by kernel_rfl) rfl) (fun ρ a W hR hd hf => ?h13) ?_
  case h13 =>
    obtain ⟨e103, d12⟩ := Mono.dep_get hd hf (t := 103) (k := 12) (by kernel_rfl)
    replace d12 : (fun z W => Byt W W.heap.size z (l ++ byt n v)) (ρ 12) W := d12
    have hcv := convert_byt (src := 22) (dst := 9) (e := 5) rfl rfl rfl (d12)
    clear hd hf
    (go_simp; try with_reducible rfl)
  refine Mono.rgl_valg (v := ?v14) rfl hRr (fun ρ W hd => Mono.guard_val hd (t := 99) (k := 8) (by kernel_rfl) rfl) (fun ρ a W hR hd hf => ?h14) ?_
  case h14 =>
    have e0 := Mono.init_get hf (t := 0) (by kernel_rfl)
    clear hd hf
    (go_simp; try with_reducible rfl)
  refine Mono.rgl_valg (v := ?v15) rfl hRr (fun ρ W hd => Mono.guard_val hd (t := 99) (k := 8) (by kernel_rfl) rfl) (fun ρ a W hR hd hf => ?h15) ?_
  case h15 =>
    have e14 := Mono.init_get hf (t := 14) (by kernel_rfl)
    clear hd hf
    (go_simp; try with_reducible rfl)
  refine Mono.rgl_callg (fun z W => Byt W W.heap.size z (l ++ byt n v)) rfl hRr hstB (fun ρ W hd => Mono.guard_val hd (t := 99) (k := 8) (by kernel_rfl) rfl) (fun ρ a W hR hd hf => ?h16) ?_
  case h16 =>
    have e105 := Mono.dep_val hd hf (t := 105) (k := 14) (by kernel_rfl) rfl
    have e106 := Mono.dep_val hd hf (t := 106) (k := 15) (by kernel_rfl) rfl
    clear hd hf
    refine ⟨_, _, by go_simp; first | rfl | exact ⟨rfl, rfl⟩, ?_⟩
    exact (join_any (HB.out.reg hBs hR) (HX.out.reg hXs hR) (Nat.le_refl _) hl9 hx9).mono (fun e W' ⟨v', he, ho, hb⟩ => ⟨v', he, hb, Byt.of_own ho⟩)
  refine Mono.rgl_valg (v := ?v17) rfl hRr (fun ρ W hd => Mono.guard_val hd (t := 99) (k := 8) (by kernel_rfl) rfl) (fun ρ a W hR hd hf => ?h17) ?_
  case h17 =>
    obtain ⟨e107, d16⟩ := Mono.dep_get hd hf (t := 107) (k := 16) (by kernel_rfl)
    replace d16 : (fun z W => Byt W W.heap.size z (l ++ byt n v)) (ρ 16) W := d16
    have hcv := convert_byt (src := 22) (dst := 9) (e := 5) rfl rfl rfl (d16)
    clear hd hf
    (go_simp; try with_reducible rfl)
  refine Mono.rgl_valg (v := ?v18) rfl hRr (fun ρ W hd => Mono.guard_val hd (t := 99) (k := 8) (by kernel_rfl) rfl) (fun ρ a W hR hd hf => ?h18) ?_
  case h18 =>
    have e104 := Mono.dep_val hd hf (t := 104) (k := 13) (by kernel_rfl) rfl
    have e108 := Mono.dep_val hd hf (t := 108) (k := 17) (by kernel_rfl) rfl
    clear hd hf
    (go_simp; try with_reducible rfl)
  refine Mono.rgl_val (v := ?v19) rfl hRr (fun ρ a W hR hd hf => ?h19) ?_
  case h19 =>
    have e99 := Mono.dep_val hd hf (t := 99) (k := 8) (by kernel_rfl) rfl
    have e109 := Mono.dep_val hd hf (t := 109) (k := 18) (by kernel_rfl) rfl
    clear hd hf
    (go_simp; try with_reducible rfl)
  refine Mono.rgl_done rfl (fun ρ W hR ht => ?_)
  obtain ⟨d19, d18, d17, d16, d15, d14, d13, d12, d11, d10, d9, d8, d7, d6, d5, d4, d3, d2, d1, d0, _⟩ := ht
  replace d12 : (fun z W => Byt W W.heap.size z (l ++ byt n v)) (ρ 12) W := d12
  replace d16 : (fun z W => Byt W W.heap.size z (l ++ byt n v)) (ρ 16) W := d16
  simp only [List.length_cons, List.length_nil, Nat.reduceAdd] at d0 d1 d2 d3 d4 d5 d6 d7 d8 d9 d10 d11 d13 d14 d15 d17 d18 d19
  simp only [Mono.putAll, Nat.reduceAdd, d0, d1, d2, d3, d4, d5, d6, d7, d8, d9, d10, d11, d13, d14, d15, d17, d18, d19, Act.put, List.setIfInBounds_toArray, List.set_cons_zero, List.set_cons_succ]
  clear d0 d1 d2 d3 d4 d5 d6 d7 d8 d9 d10 d11 d13 d14 d15 d17 d18 d19
  generalize ρ 12 = r12 at *
  generalize ρ 16 = r16 at *
  have HZ : Hid (Below w.heap.size w W) := HB2.out.trans (drew_reg hR HB2.out.size)
  have HX2 := Lib.hid (HX.out.reg (Nat.le_refl _) hR)
  clear hR d12 d16 HX HB
  go_wp2_with fail
  refine (HG.out _).mono ?_
  rintro e w5 ⟨rfl, rfl⟩
  go_wp2_with fail
  refine (put_no ad c l p n v _ (HH.out.below HZ.out) hl8 hp hex).mono ?_
  rintro e w6 ⟨y, rfl, ho, hb⟩
  have HY := Lib.hid (Byt.of_own ho)
  have HB3 : Hid (Below w.heap.size w w6) := HZ.out.trans (hb.mono HZ.out.size)
  have hcv1 := convert_byt (src := 22) (dst := 9) (e := 5) rfl rfl rfl HY.out
  have hcv2 := convert_byt (src := 22) (dst := 9) (e := 5) rfl rfl rfl (HH.out.below HB3.out)
  clear ho hb
  go_wp2_with fail
  refine (HI.out _).mono ?_
  rintro e w7 ⟨rfl, rfl⟩
  go_wp2
  go_ret
  exact ⟨rfl, HB3.out⟩
set_option maxHeartbeats 2000000 in
set_option maxRecDepth 100000 in
theorem numbers_yes (ad : Option Addr) (c : Nat) (l : List UInt8) (p : Nat) (n v : Nat) (w : World) (h : Byt w w.heap.size (.slice ad l.length c) l) (hl : l.length ≤ 1000) (hc : l.length ≤ c) (hpn : p + n ≤ l.length) (n1 : 1 ≤ n) (n2 : n ≤ 8) (hv : v < 18446744073709551616) :
    Calls Try.prog 3 #[.slice ad l.length c, .agg #[.int .i64 p, .int .i64 (n : Nat)], .int .u64 (v : Nat)] w (numbersQ w) := by
  have hl8 : l.length ≤ 100000000 := by omega
  have hl9 : l.length ≤ 100000000000 := by omega
  have hbl := byt_length n v
  have hx8 : (byt n v).length ≤ 8 := by omega
  have hx9 : (byt n v).length ≤ 100000000000 := by omega
  have hr : rightW n = true := rightW_true (by omega) (by omega)
  have HF := Lib.hid (fun W => fits_any v n W hv)
  have HFE := Lib.hid (fits_num v n n1 n2)
  have HR := Lib.hid (fun W => right_any n W)
  rw [hr] at HR
  have hex : existsB l.length p n = true := by simp [existsB, hr]; omega
  have HI := Lib.hid (fun W => refIn_any l.length p n W hl8)
  rw [hex] at HI
  have HSL := Lib.hid (fun W => slice_lh (t := 22) (e := 5) (size := 1) rfl size_u8 ad l.length c (p : Int) ((p : Int) + (n : Int)) (by omega) (by omega) (by omega) W)
  rw [show ((p : Int) + (n : Int)).toNat - (p : Int).toNat = n from by omega, Int.toNat_natCast] at HSL
  have HWR : Hid (IntKind.i64.wrap ((p : Int) + (n : Int)) = (p : Int) + (n : Int)) := IntWalk.i64_in _ (by omega)
  have HS1 := Lib.hid (sub_byt h p n (by omega))
  generalize Value.slice (if c = p then ad else ad.map (·.add (p * 1))) n (c - p) = s1 at HSL HS1
  have hx7 : ((l.drop p).take n).length ≤ 8 := by rw [List.length_take]; omega
  have HH := Lib.hid h
  have HA : Hid (Below w.heap.size w (w.alloc (.cells #[.int .i64 p, .int .i64 (n : Nat)] 23))) := (Below.refl _ _).alloc (Nat.le_refl _) _
  have hl1 : decide ((l.length : Int) > 1000) = false := by simp; omega
  have hl2 : decide (1000 < (l.length : Int)) = false := by simp; omega
  have hd1 : decide (1 ≤ (n : Int)) = true := by simp; omega
  have hd2 : decide ((n : Int) ≤ 8) = true := by simp; omega
  clear h hr
  go_enter Try.func3, Try.ntmps3
  go_wp2_with fail
  refine (awake_any _).mono ?_
  rintro e w1 ⟨rfl, hb⟩
  have hs1 := hb.size
  have hs2 := HA.out.size
  have hc0 : w1.cell? ⟨w.heap.size, 0, none⟩ = some (.int .i64 p) := (hb.cell (p := ⟨w.heap.size, 0, none⟩) (by simp)).trans (by go_simp)
  have hc1 : w1.cell? ⟨w.heap.size, 1, none⟩ = some (.int .i64 (n : Nat)) := (hb.cell (p := ⟨w.heap.size, 1, none⟩) (by simp)).trans (by go_simp)
  have HB1 : Hid (Below w.heap.size w w1) := HA.out.trans (hb.mono hs2)
  clear hb HA
  go_wp2_with fail
  go_quiet (fail)
  clear hc0 hc1
  go_wp2_with fail
  refine (HR.out _).mono ?_
  rintro e w3 ⟨rfl, rfl⟩
  have HBq : Hid (Below w.heap.size w (w1.drewN nq)) := ⟨HB1.out.os, HB1.out.tape, HB1.out.output, HB1.out.size, HB1.out.block⟩
  go_wp2_with fail
  refine (refBytes_any v n _ n2 hv).mono ?_
  rintro e w2 ⟨x, rfl, ho, hb⟩
  have HX : Hid (Byt w2 w2.heap.size x (byt n v)) := Byt.of_own (by rw [hbl]; exact ho)
  obtain ⟨ax, cx, hxe⟩ := HX.out.slice
  rw [hbl] at hxe
  subst hxe
  have HB2 : Hid (Below w.heap.size w w2) := HBq.out.trans (hb.mono HBq.out.size)
  have HB := Lib.hid (HH.out.below HB2.out)
  have hBs := HB2.out.size
  have hXs := Nat.le_refl w2.heap.size
  clear ho hb
  go_wp2_with fail
  refine Mono.region_list (fun W W' => Below W.heap.size W W') (by kernel_rfl) (by kernel_rfl) (by kernel_rfl) hRr hRt ?_
  change Mono.RGL _ _ _ w2.drew _ _ _ _
  refine Mono.rgl_val (v := ?v0) rfl hRr (fun ρ a W hR hd hf => ?h0) ?_
  case h0 =>
    have e2 := Mono.init_get hf (t := 2) (by kernel_rfl)
    clear hd hf
    (go_simp; try with_reducible rfl)
  refine Mono.rgl_val (v := ?v1) rfl hRr (fun ρ a W hR hd hf => ?h1) ?_
  case h1 =>
    have e8 := Mono.init_get hf (t := 8) (by kernel_rfl)
    clear hd hf
    (go_simp; try with_reducible rfl)
  refine Mono.rgl_call (fun x _ => x = .bool (fitsB v n)) rfl hRr (fun _ _ _ h _ => h) (fun ρ a W hR hd hf => ?h2) ?_
  case h2 =>
    have e91 := Mono.dep_val hd hf (t := 91) (k := 0) (by kernel_rfl) rfl
    have e92 := Mono.dep_val hd hf (t := 92) (k := 1) (by kernel_rfl) rfl
    clear hd hf
    refine ⟨_, _, by go_simp; first | rfl | exact ⟨rfl, rfl⟩, ?_⟩
    exact (HF.out W).mono (fun e W' ⟨he, hw⟩ => ⟨_, he, hw ▸ hRr _, rfl⟩)
  refine Mono.rgl_val (v := ?v3) rfl hRr (fun ρ a W hR hd hf => ?h3) ?_
  case h3 =>
    have e14 := Mono.init_get hf (t := 14) (by kernel_rfl)
    clear hd hf
    (go_simp; try with_reducible rfl)
  refine Mono.rgl_call (fun x _ => x = .int .u64 ((num (byt n v) : Nat) : Int)) rfl hRr (fun _ _ _ h _ => h) (fun ρ a W hR hd hf => ?h4) ?_
  case h4 =>
    have e94 := Mono.dep_val hd hf (t := 94) (k := 3) (by kernel_rfl) rfl
    clear hd hf
    refine ⟨_, _, by go_simp; first | rfl | exact ⟨rfl, rfl⟩, ?_⟩
    exact (refNumber_B (HX.out.reg hXs hR) hx8).mono (fun e W' ⟨he, hw⟩ => ⟨_, he, hw ▸ hRr _, rfl⟩)
  refine Mono.rgl_val (v := ?v5) rfl hRr (fun ρ a W hR hd hf => ?h5) ?_
  case h5 =>
    have e2 := Mono.init_get hf (t := 2) (by kernel_rfl)
    clear hd hf
    (go_simp; try with_reducible rfl)
  refine Mono.rgl_val (v := .bool (fitsB v n)) rfl hRr (fun ρ a W hR hd hf => ?h6) ?_
  case h6 =>
    have e95 := Mono.dep_val hd hf (t := 95) (k := 4) (by kernel_rfl) rfl
    have e96 := Mono.dep_val hd hf (t := 96) (k := 5) (by kernel_rfl) rfl
    clear hd hf
    (go_simp; rw [HFE.out])
  refine Mono.rgl_val (v := .bool false) rfl hRr (fun ρ a W hR hd hf => ?h7) ?_
  case h7 =>
    have e93 := Mono.dep_val hd hf (t := 93) (k := 2) (by kernel_rfl) rfl
    have e97 := Mono.dep_val hd hf (t := 97) (k := 6) (by kernel_rfl) rfl
    clear hd hf
    (go_simp)
  refine Mono.rgl_val (v := ?v8) rfl hRr (fun ρ a W hR hd hf => ?h8) ?_
  case h8 =>
    have e98 := Mono.dep_val hd hf (t := 98) (k := 7) (by kernel_rfl) rfl
    clear hd hf
    (go_simp; try with_reducible rfl)
  refine Mono.rgl_valg (v := ?v9) rfl hRr (fun ρ W hd => Mono.guard_val hd (t := 99) (k := 8) (by kernel_rfl) rfl) (fun ρ a W hR hd hf => ?h9) ?_
  case h9 =>
    have e0 := Mono.init_get hf (t := 0) (by kernel_rfl)
    clear hd hf
    (go_simp; try with_reducible rfl)
  refine Mono.rgl_valg (v := ?v10) rfl hRr (fun ρ W hd => Mono.guard_val hd (t := 99) (k := 8) (by kernel_rfl) rfl) (fun ρ a W hR hd hf => ?h10) ?_
  case h10 =>
    have e8 := Mono.init_get hf (t := 8) (by kernel_rfl)
    clear hd hf
    (go_simp; try with_reducible rfl)
  refine Mono.rgl_valg (v := ?v11) rfl hRr (fun ρ W hd => Mono.guard_val hd (t := 99) (k := 8) (by kernel_rfl) rfl) (fun ρ a W hR hd hf => ?h11) ?_
  case h11 =>
    have e2 := Mono.init_get hf (t := 2) (by kernel_rfl)
    clear hd hf
    (go_simp; try with_reducible rfl)
  refine Mono.rgl_callg (fun z W => Byt W W.heap.size z (l ++ byt n v)) rfl hRr hstB (fun ρ W hd => Mono.guard_val hd (t := 99) (k := 8) (by kernel_rfl) rfl) (fun ρ a W hR hd hf => ?h12) ?_
  case h12 =>
    have e100 := Mono.dep_val hd hf (t := 100) (k := 9) (by kernel_rfl) rfl
    have e101 := Mono.dep_val hd hf (t := 101) (k := 10) (by kernel_rfl) rfl
    have e102 := Mono.dep_val hd hf (t := 102) (k := 11) (by kernel_rfl) rfl
    clear hd hf
    refine ⟨_, _, by go_simp; first | rfl | exact ⟨rfl, rfl⟩, ?_⟩
    exact (append_yes ad c l n v W (HB.out.reg hBs hR) (Nat.le_refl _) hl8 n1 n2 hv).mono (fun e W' ⟨v', he, ho, hb⟩ => ⟨v', he, hb, Byt.of_own ho⟩)
  refine Mono.rgl_valg (v := ?v13) rfl hRr (fun ρ W hd => Mono.guard_val hd (t := 99) (k := 8) (by kernel_rfl) rfl) (fun ρ a W hR hd hf => ?h13) ?_
  case h13 =>
    obtain ⟨e103, d12⟩ := Mono.dep_get hd hf (t := 103) (k := 12) (by kernel_rfl)
    replace d12 : (fun z W => Byt W W.heap.size z (l ++ byt n v)) (ρ 12) W := d12
    have hcv := convert_byt (src := 22) (dst := 9) (e := 5) rfl rfl rfl (d12)
    clear hd hf
    (go_simp; try with_reducible rfl)
  refine Mono.rgl_valg (v := ?v14) rfl hRr (fun ρ W hd => Mono.guard_val hd (t := 99) (k := 8) (by kernel_rfl) rfl) (fun ρ a W hR hd hf => ?h14) ?_
  case h14 =>
    have e0 := Mono.init_get hf (t := 0) (by kernel_rfl)
    clear hd hf
    (go_simp; try with_reducible rfl)
  refine Mono.rgl_valg (v := ?v15) rfl hRr (fun ρ W hd => Mono.guard_val hd (t := 99) (k := 8) (by kernel_rfl) rfl) (fun ρ a W hR hd hf => ?h15) ?_
  case h15 =>
    have e14 := Mono.init_get hf (t := 14) (by kernel_rfl)
    clear hd hf
    (go_simp; try with_reducible rfl)
  refine Mono.rgl_callg (fun z W => Byt W W.heap.size z (l ++ byt n v)) rfl hRr hstB (fun ρ W hd => Mono.guard_val hd (t := 99) (k := 8) (by kernel_rfl) rfl) (fun ρ a W hR hd hf => ?h16) ?_
  case h16 =>
    have e105 := Mono.dep_val hd hf (t := 105) (k := 14) (by kernel_rfl) rfl
    have e106 := Mono.dep_val hd hf (t := 106) (k := 15) (by kernel_rfl) rfl
    clear hd hf
    refine ⟨_, _, by go_simp; first | rfl | exact ⟨rfl, rfl⟩, ?_⟩
    exact (join_any (HB.out.reg hBs hR) (HX.out.reg hXs hR) (Nat.le_refl _) hl9 hx9).mono (fun e W' ⟨v', he, ho, hb⟩ => ⟨v', he, hb, Byt.of_own ho⟩)
  refine Mono.rgl_valg (v := ?v17) rfl hRr (fun ρ W hd => Mono.guard_val hd (t := 99) (k := 8) (by kernel_rfl) rfl) (fun ρ a W hR hd hf => ?h17) ?_
  case h17 =>
    obtain ⟨e107, d16⟩ := Mono.dep_get hd hf (t := 107) (k := 16) (by kernel_rfl)
    replace d16 : (fun z W => Byt W W.heap.size z (l ++ byt n v)) (ρ 16) W := d16
    have hcv := convert_byt (src := 22) (dst := 9) (e := 5) rfl rfl rfl (d16)
    clear hd hf
    (go_simp; try with_reducible rfl)
  refine Mono.rgl_valg (v := ?v18) rfl hRr (fun ρ W hd => Mono.guard_val hd (t := 99) (k := 8) (by kernel_rfl) rfl) (fun ρ a W hR hd hf => ?h18) ?_
  case h18 =>
    have e104 := Mono.dep_val hd hf (t := 104) (k := 13) (by kernel_rfl) rfl
    have e108 := Mono.dep_val hd hf (t := 108) (k := 17) (by kernel_rfl) rfl
    clear hd hf
    (go_simp; try with_reducible rfl)
  refine Mono.rgl_val (v := ?v19) rfl hRr (fun ρ a W hR hd hf => ?h19) ?_
  case h19 =>
    have e99 := Mono.dep_val hd hf (t := 99) (k := 8) (by kernel_rfl) rfl
    have e109 := Mono.dep_val hd hf (t := 109) (k := 18) (by kernel_rfl) rfl
    clear hd hf
    (go_simp; try with_reducible rfl)
  refine Mono.rgl_done rfl (fun ρ W hR ht => ?_)
  obtain ⟨d19, d18, d17, d16, d15, d14, d13, d12, d11, d10, d9, d8, d7, d6, d5, d4, d3, d2, d1, d0, _⟩ := ht
  replace d12 : (fun z W => Byt W W.heap.size z (l ++ byt n v)) (ρ 12) W := d12
  replace d16 : (fun z W => Byt W W.heap.size z (l ++ byt n v)) (ρ 16) W := d16
  simp only [List.length_cons, List.length_nil, Nat.reduceAdd] at d0 d1 d2 d3 d4 d5 d6 d7 d8 d9 d10 d11 d13 d14 d15 d17 d18 d19
  simp only [Mono.putAll, Nat.reduceAdd, d0, d1, d2, d3, d4, d5, d6, d7, d8, d9, d10, d11, d13, d14, d15, d17, d18, d19, Act.put, List.setIfInBounds_toArray, List.set_cons_zero, List.set_cons_succ]
  clear d0 d1 d2 d3 d4 d5 d6 d7 d8 d9 d10 d11 d13 d14 d15 d17 d18 d19
  generalize ρ 12 = r12 at *
  generalize ρ 16 = r16 at *
  have HZ : Hid (Below w.heap.size w W) := HB2.out.trans (drew_reg hR HB2.out.size)
  have HX2 := Lib.hid (HX.out.reg (Nat.le_refl _) hR)
  clear hR d12 d16 HX HB
  go_wp2_with fail
  refine (get_yes ad c w.heap.size l p n _ (HH.out.below HZ.out) hl8 hc hex).mono ?_
  rintro e w5 ⟨rfl, rfl⟩
  go_wp2_with fail
  refine (put_yes ad c l p n v _ (HH.out.below HZ.out) hl8 hv hex).mono ?_
  rintro e w6 ⟨y, rfl, ho, hb⟩
  rw [Int.toNat_natCast, Int.toNat_natCast] at *
  have HY : Hid (Byt w6 w6.heap.size y (putAt l p (byt n v))) := Byt.of_own (by rw [putAt_length _ _ _ (by rw [hbl]; omega)]; exact ho)
  have HB3 : Hid (Below w.heap.size w w6) := HZ.out.trans (hb.mono HZ.out.size)
  have HX := Lib.hid (HX2.out.below hb)
  have HB := Lib.hid (HH.out.below HB3.out)
  have hBs := HB3.out.size
  have hXs := hb.size
  have hYs := Nat.le_refl w6.heap.size
  clear ho hb
  go_wp2_with fail
  refine (HI.out _).mono ?_
  rintro e w7 ⟨rfl, rfl⟩
  go_wp2_with fail
  refine Mono.region_list (fun W W' => Below W.heap.size W W') (by kernel_rfl) (by kernel_rfl) (by kernel_rfl) hRr hRt ?_
  change Mono.RGL _ _ _ w7.drew _ _ _ _
  refine Mono.rgl_val (v := ?vb0) rfl hRr (fun ρ a W hR hd hf => ?hb0) ?_
  case hb0 =>
    have e16 := Mono.init_get hf (t := 16) (by kernel_rfl)
    clear hd hf
    (go_simp; try with_reducible rfl)
  refine Mono.rgl_val (v := ?vb1) rfl hRr (fun ρ a W hR hd hf => ?hb1) ?_
  case hb1 =>
    have e149 := Mono.dep_val hd hf (t := 149) (k := 0) (by kernel_rfl) rfl
    clear hd hf
    (go_simp; try with_reducible rfl)
  refine Mono.rgl_valg (v := ?vb2) rfl hRr (fun ρ W hd => Mono.guard_val hd (t := 150) (k := 1) (by kernel_rfl) rfl) (fun ρ a W hR hd hf => ?hb2) ?_
  case hb2 =>
    have e18 := Mono.init_get hf (t := 18) (by kernel_rfl)
    clear hd hf
    (go_simp; try with_reducible rfl)
  refine Mono.rgl_val (v := ?vb3) rfl hRr (fun ρ a W hR hd hf => ?hb3) ?_
  case hb3 =>
    have e150 := Mono.dep_val hd hf (t := 150) (k := 1) (by kernel_rfl) rfl
    have e151 := Mono.dep_val hd hf (t := 151) (k := 2) (by kernel_rfl) rfl
    clear hd hf
    (go_simp; try with_reducible rfl)
  refine Mono.rgl_val (v := ?vb4) rfl hRr (fun ρ a W hR hd hf => ?hb4) ?_
  case hb4 =>
    have e152 := Mono.dep_val hd hf (t := 152) (k := 3) (by kernel_rfl) rfl
    clear hd hf
    (go_simp; try with_reducible rfl)
  refine Mono.rgl_valg (v := ?vb5) rfl hRr (fun ρ W hd => Mono.guard_val hd (t := 153) (k := 4) (by kernel_rfl) rfl) (fun ρ a W hR hd hf => ?hb5) ?_
  case hb5 =>
    have e15 := Mono.init_get hf (t := 15) (by kernel_rfl)
    clear hd hf
    (go_simp; try with_reducible rfl)
  refine Mono.rgl_valg (v := ?vb6) rfl hRr (fun ρ W hd => Mono.guard_val hd (t := 153) (k := 4) (by kernel_rfl) rfl) (fun ρ a W hR hd hf => ?hb6) ?_
  case hb6 =>
    have e0 := Mono.init_get hf (t := 0) (by kernel_rfl)
    clear hd hf
    (go_simp; try with_reducible rfl)
  refine Mono.rgl_valg (v := ?vb7) rfl hRr (fun ρ W hd => Mono.guard_val hd (t := 153) (k := 4) (by kernel_rfl) rfl) (fun ρ a W hR hd hf => ?hb7) ?_
  case hb7 =>
    have e7 := Mono.init_get hf (t := 7) (by kernel_rfl)
    clear hd hf
    (go_simp; try with_reducible rfl)
  refine Mono.rgl_valg (v := ?vb8) rfl hRr (fun ρ W hd => Mono.guard_val hd (t := 153) (k := 4) (by kernel_rfl) rfl) (fun ρ a W hR hd hf => ?hb8) ?_
  case hb8 =>
    have e7 := Mono.init_get hf (t := 7) (by kernel_rfl)
    clear hd hf
    (go_simp; try with_reducible rfl)
  refine Mono.rgl_valg (v := ?vb9) rfl hRr (fun ρ W hd => Mono.guard_val hd (t := 153) (k := 4) (by kernel_rfl) rfl) (fun ρ a W hR hd hf => ?hb9) ?_
  case hb9 =>
    have e8 := Mono.init_get hf (t := 8) (by kernel_rfl)
    clear hd hf
    (go_simp; try with_reducible rfl)
  refine Mono.rgl_valg (v := ?vb10) rfl hRr (fun ρ W hd => Mono.guard_val hd (t := 153) (k := 4) (by kernel_rfl) rfl) (fun ρ a W hR hd hf => ?hb10) ?_
  case hb10 =>
    have e157 := Mono.dep_val hd hf (t := 157) (k := 8) (by kernel_rfl) rfl
    have e158 := Mono.dep_val hd hf (t := 158) (k := 9) (by kernel_rfl) rfl
    have hw := HWR.out
    clear hd hf
    (go_simp; try with_reducible rfl)
  refine Mono.rgl_valg (v := ?vb11) rfl hRr (fun ρ W hd => Mono.guard_val hd (t := 153) (k := 4) (by kernel_rfl) rfl) (fun ρ a W hR hd hf => ?hb11) ?_
  case hb11 =>
    have e155 := Mono.dep_val hd hf (t := 155) (k := 6) (by kernel_rfl) rfl
    have e156 := Mono.dep_val hd hf (t := 156) (k := 7) (by kernel_rfl) rfl
    have e159 := Mono.dep_val hd hf (t := 159) (k := 10) (by kernel_rfl) rfl
    have hsl := HSL.out W
    clear hd hf
    (go_simp; try with_reducible rfl)
  refine Mono.rgl_callg (fun x _ => x = .int .u64 ((num ((l.drop p).take n) : Nat) : Int)) rfl hRr (fun _ _ _ h _ => h) (fun ρ W hd => Mono.guard_val hd (t := 153) (k := 4) (by kernel_rfl) rfl) (fun ρ a W hR hd hf => ?hb12) ?_
  case hb12 =>
    have e160 := Mono.dep_val hd hf (t := 160) (k := 11) (by kernel_rfl) rfl
    clear hd hf
    refine ⟨_, _, by go_simp; first | rfl | exact ⟨rfl, rfl⟩, ?_⟩
    exact (refNumber_B ((HS1.out.below HB3.out).reg hBs hR) hx7).mono (fun e W' ⟨he, hw⟩ => ⟨_, he, hw ▸ hRr _, rfl⟩)
  refine Mono.rgl_valg (v := ?vb13) rfl hRr (fun ρ W hd => Mono.guard_val hd (t := 153) (k := 4) (by kernel_rfl) rfl) (fun ρ a W hR hd hf => ?hb13) ?_
  case hb13 =>
    have e154 := Mono.dep_val hd hf (t := 154) (k := 5) (by kernel_rfl) rfl
    have e161 := Mono.dep_val hd hf (t := 161) (k := 12) (by kernel_rfl) rfl
    clear hd hf
    (go_simp; try with_reducible rfl)
  refine Mono.rgl_val (v := ?vb14) rfl hRr (fun ρ a W hR hd hf => ?hb14) ?_
  case hb14 =>
    have e153 := Mono.dep_val hd hf (t := 153) (k := 4) (by kernel_rfl) rfl
    have e162 := Mono.dep_val hd hf (t := 162) (k := 13) (by kernel_rfl) rfl
    clear hd hf
    (go_simp; try with_reducible rfl)
  refine Mono.rgl_val (v := ?vb15) rfl hRr (fun ρ a W hR hd hf => ?hb15) ?_
  case hb15 =>
    have e163 := Mono.dep_val hd hf (t := 163) (k := 14) (by kernel_rfl) rfl
    clear hd hf
    (go_simp; try with_reducible rfl)
  refine Mono.rgl_valg (v := ?vb16) rfl hRr (fun ρ W hd => Mono.guard_val hd (t := 164) (k := 15) (by kernel_rfl) rfl) (fun ρ a W hR hd hf => ?hb16) ?_
  case hb16 =>
    have e17 := Mono.init_get hf (t := 17) (by kernel_rfl)
    clear hd hf
    (go_simp; try with_reducible rfl)
  refine Mono.rgl_valg (v := ?vb17) rfl hRr (fun ρ W hd => Mono.guard_val hd (t := 164) (k := 15) (by kernel_rfl) rfl) (fun ρ a W hR hd hf => ?hb17) ?_
  case hb17 =>
    have e165 := Mono.dep_val hd hf (t := 165) (k := 16) (by kernel_rfl) rfl
    have hcv := convert_byt (src := 22) (dst := 9) (e := 5) rfl rfl rfl (HY.out.reg hYs hR)
    clear hd hf
    (go_simp; try with_reducible rfl)
  refine Mono.rgl_valg (v := ?vb18) rfl hRr (fun ρ W hd => Mono.guard_val hd (t := 164) (k := 15) (by kernel_rfl) rfl) (fun ρ a W hR hd hf => ?hb18) ?_
  case hb18 =>
    have e0 := Mono.init_get hf (t := 0) (by kernel_rfl)
    clear hd hf
    (go_simp; try with_reducible rfl)
  refine Mono.rgl_valg (v := ?vb19) rfl hRr (fun ρ W hd => Mono.guard_val hd (t := 164) (k := 15) (by kernel_rfl) rfl) (fun ρ a W hR hd hf => ?hb19) ?_
  case hb19 =>
    have e7 := Mono.init_get hf (t := 7) (by kernel_rfl)
    clear hd hf
    (go_simp; try with_reducible rfl)
  refine Mono.rgl_valg (v := ?vb20) rfl hRr (fun ρ W hd => Mono.guard_val hd (t := 164) (k := 15) (by kernel_rfl) rfl) (fun ρ a W hR hd hf => ?hb20) ?_
  case hb20 =>
    have e14 := Mono.init_get hf (t := 14) (by kernel_rfl)
    clear hd hf
    (go_simp; try with_reducible rfl)
  refine Mono.rgl_callg (fun z W => Byt W W.heap.size z (putAt l p (byt n v))) rfl hRr hstB (fun ρ W hd => Mono.guard_val hd (t := 164) (k := 15) (by kernel_rfl) rfl) (fun ρ a W hR hd hf => ?hb21) ?_
  case hb21 =>
    have e167 := Mono.dep_val hd hf (t := 167) (k := 18) (by kernel_rfl) rfl
    have e168 := Mono.dep_val hd hf (t := 168) (k := 19) (by kernel_rfl) rfl
    have e169 := Mono.dep_val hd hf (t := 169) (k := 20) (by kernel_rfl) rfl
    have hq := refPut_any (w := W) (B := W.heap.size) ad ax c cx p l (byt n v) (HB.out.reg hBs hR) (by rw [hbl]; exact HX.out.reg hXs hR) (Nat.le_refl _) hl8 hc (by rw [hbl]; omega)
    rw [hbl] at hq
    clear hd hf
    refine ⟨_, _, by go_simp; first | rfl | exact ⟨rfl, rfl⟩, ?_⟩
    exact hq.mono (fun e W' ⟨v', he, ho, hb⟩ => ⟨v', he, hb, ho⟩)
  refine Mono.rgl_valg (v := ?vb22) rfl hRr (fun ρ W hd => Mono.guard_val hd (t := 164) (k := 15) (by kernel_rfl) rfl) (fun ρ a W hR hd hf => ?hb22) ?_
  case hb22 =>
    obtain ⟨e170, d21⟩ := Mono.dep_get hd hf (t := 170) (k := 21) (by kernel_rfl)
    replace d21 : (fun z W => Byt W W.heap.size z (putAt l p (byt n v))) (ρ 21) W := d21
    have hcv := convert_byt (src := 22) (dst := 9) (e := 5) rfl rfl rfl (d21)
    clear hd hf
    (go_simp; try with_reducible rfl)
  refine Mono.rgl_valg (v := ?vb23) rfl hRr (fun ρ W hd => Mono.guard_val hd (t := 164) (k := 15) (by kernel_rfl) rfl) (fun ρ a W hR hd hf => ?hb23) ?_
  case hb23 =>
    have e166 := Mono.dep_val hd hf (t := 166) (k := 17) (by kernel_rfl) rfl
    have e171 := Mono.dep_val hd hf (t := 171) (k := 22) (by kernel_rfl) rfl
    clear hd hf
    (go_simp; try with_reducible rfl)
  refine Mono.rgl_val (v := ?vb24) rfl hRr (fun ρ a W hR hd hf => ?hb24) ?_
  case hb24 =>
    have e164 := Mono.dep_val hd hf (t := 164) (k := 15) (by kernel_rfl) rfl
    have e172 := Mono.dep_val hd hf (t := 172) (k := 23) (by kernel_rfl) rfl
    clear hd hf
    (go_simp; try with_reducible rfl)
  refine Mono.rgl_val (v := ?vb25) rfl hRr (fun ρ a W hR hd hf => ?hb25) ?_
  case hb25 =>
    have e173 := Mono.dep_val hd hf (t := 173) (k := 24) (by kernel_rfl) rfl
    clear hd hf
    (go_simp; try with_reducible rfl)
  refine Mono.rgl_done rfl (fun ρ W hR ht => ?_)
  obtain ⟨db25, db24, db23, db22, db21, db20, db19, db18, db17, db16, db15, db14, db13, db12, db11, db10, db9, db8, db7, db6, db5, db4, db3, db2, db1, db0, _⟩ := ht
  replace db21 : (fun z W => Byt W W.heap.size z (putAt l p (byt n v))) (ρ 21) W := db21
  simp only [List.length_cons, List.length_nil, Nat.reduceAdd] at db0 db1 db2 db3 db4 db5 db6 db7 db8 db9 db10 db11 db12 db13 db14 db15 db16 db17 db18 db19 db20 db22 db23 db24 db25
  simp only [Mono.putAll, Nat.reduceAdd, db0, db1, db2, db3, db4, db5, db6, db7, db8, db9, db10, db11, db12, db13, db14, db15, db16, db17, db18, db19, db20, db22, db23, db24, db25, Act.put, List.setIfInBounds_toArray, List.set_cons_zero, List.set_cons_succ]
  clear db0 db1 db2 db3 db4 db5 db6 db7 db8 db9 db10 db11 db12 db13 db14 db15 db16 db17 db18 db19 db20 db22 db23 db24 db25
  generalize ρ 21 = rb21 at *
  have HZ3 : Hid (Below w.heap.size w W) := HB3.out.trans (drew_reg hR HB3.out.size)
  clear hR
  go_wp2
  go_ret
  exact ⟨rfl, HZ3.out⟩
theorem numbers_any (ad : Option Addr) (c : Nat) (l : List UInt8) (p n : Int) (v : Nat) (w : World) (h : Byt w w.heap.size (.slice ad l.length c) l) (hl : l.length ≤ 1000) (hc : l.length ≤ c) (hp : -9223372036854775808 ≤ p ∧ p ≤ 9223372036854775807) (hv : v < 18446744073709551616) :
    Calls Try.prog 3 #[.slice ad l.length c, .agg #[.int .i64 p, .int .i64 n], .int .u64 (v : Nat)] w (numbersQ w) := by
  by_cases h1 : n < 1
  · exact numbers_low ad c l p n v w h hl hp h1 hv
  · by_cases h2 : 8 < n
    · exact numbers_high ad c l p n v w h hl hp h2 hv
    · obtain ⟨m, rfl⟩ : ∃ m : Nat, n = m := ⟨n.toNat, by omega⟩
      cases he : existsB l.length p m with
      | false => exact numbers_no ad c l p m v w h hl hp he (by omega) (by omega) hv
      | true =>
        obtain ⟨e1, e2, e3, e4⟩ := existsB_elim he
        obtain ⟨q, rfl⟩ : ∃ q : Nat, p = q := ⟨p.toNat, by omega⟩
        exact numbers_yes ad c l q m v w h hl hc (by omega) (by omega) (by omega) hv
end Go.Proofs.Ytephiopgpfdchaa
