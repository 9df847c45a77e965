/- The law FinishWrites. -/
import Derived.Test.YtfdbgbdiacpmhaaFinB
import Derived.Test.YtfdbgbdiacpmhaaMono
namespace Go.Proofs.Ytfdbgbdiacpmhaa
open Go.RowKit
theorem hstB2 {l : List UInt8} : ∀ v W W', (fun v (W : World) => Byt W W.heap.size v l) v W → Below W.heap.size W W' → (fun v (W : World) => Byt W W.heap.size v l) v W' := fun _ _ _ h hb => (h.below hb).mono hb.size
theorem zeros_at (W : World) (k : Nat) : Byt (W.alloc (.cells (Array.replicate k (.int .u8 0)) 5)) (W.alloc (.cells (Array.replicate k (.int .u8 0)) 5)).heap.size (.slice (some ⟨W.heap.size, 0, none⟩) k k) (List.replicate k 0) := by
  refine .inr ⟨W.heap.size, 0, k, by simp, by simp, by simp, fun j hj => ?_⟩
  rw [World.cell?_alloc_at _ _ _ _ rfl]
  simp at hj
  simp [hj]
theorem zeros_byt (W : World) : Byt (W.alloc (.cells (Array.replicate 18 (.int .u8 0)) 5)) (W.alloc (.cells (Array.replicate 18 (.int .u8 0)) 5)).heap.size (.slice (some ⟨W.heap.size, 0, none⟩) 18 18) (List.replicate 18 0) := zeros_at W 18
theorem hmk (W : World) : (Instr.makeSlice 25 (.int .i64 18) (.int .i64 18)).run Try.prog W = .ok (.slice (some ⟨W.heap.size, 0, none⟩) 18 18) (W.alloc (.cells (Array.replicate 18 (.int .u8 0)) 5)) := by kernel_rfl
/-- A tail's records. -/
def tailBytes (n s c : Int) (g : Bool) : List UInt8 := encN (if g then wideL n s c ++ narrowL 65535 4294967295 4294967295 else narrowL n s c)
theorem enc_no (n s c : Int) (g : Bool) (w : World) (h : tailB n s c = false) : Calls Try.prog 7 #[.agg #[.int .i64 n, .int .i64 s, .int .i64 c, .bool g]] w fun e w' => e = .returned (.tuple #[.slice none 0 0, .int .i64 13]) ∧ Below w.heap.size w w' := by
  have HC := Lib.hid (fun W => check_any n s c g W)
  rw [h] at HC
  clear h
  have HB := Lib.hid ((Below.refl w.heap.size w).alloc (Nat.le_refl _) (.cells #[.int .i64 n, .int .i64 s, .int .i64 c, .bool g] 23))
  go_enter Try.func7, Try.ntmps7
  go_wp2_with fail
  refine (HC.out _).mono ?_
  rintro e w1 ⟨rfl, hb⟩
  have HB := Lib.hid (HB.out.trans (hb.mono (by simp)))
  clear hb
  go_wp2
  go_ret2
  exact ⟨rfl, HB.out⟩
theorem enc_yes (n s c : Nat) (g : Bool) (w : World) (h : tailB n s c = true) : Calls Try.prog 7 #[.agg #[.int .i64 (n : Nat), .int .i64 (s : Nat), .int .i64 (c : Nat), .bool g]] w fun e w' => ∃ v, e = .returned (.tuple #[v, .int .i64 0]) ∧ Byt w' w'.heap.size v (tailBytes n s c g) ∧ Below w.heap.size w w' := by
  have h := of_decide_eq_true h
  cases g with
  | false => exact enc_narrow n s c w (by omega) (by omega) (by omega)
  | true => exact enc_wide n s c w (by omega) (by omega) (by omega)
theorem refEnc_yes (n s c : Nat) (g : Bool) (w : World) (h : tailB n s c = true) : Calls Try.prog 11 #[.agg #[.int .i64 (n : Nat), .int .i64 (s : Nat), .int .i64 (c : Nat), .bool g]] w fun e w' => ∃ v, e = .returned v ∧ OB w.heap.size w' v (tailBytes n s c g) ∧ Below w.heap.size w w' := by
  have h := of_decide_eq_true h
  cases g with
  | false => exact refEnc_narrow n s c w (by omega) (by omega) (by omega)
  | true => exact refEnc_wide n s c w (by omega) (by omega) (by omega)
set_option maxHeartbeats 1000000 in
theorem awake_any (w : World) : Calls Try.prog 6 #[] w fun e w' => e = .returned (.bool true) ∧ Below w.heap.size w w' := by
  have HE := Lib.hid (fun W => enc_yes 0 0 0 false W (by decide))
  have HT : Hid (tailBytes (0 : Nat) (0 : Nat) (0 : Nat) false = [80, 75, 5, 6] ++ List.replicate 18 0) := Lib.hid (by decide)
  have hmk := hmk
  go_enter Try.func6, Try.ntmps6
  go_wp2_with fail
  refine (HE.out _).mono ?_
  rintro e w1 ⟨v, rfl, hy, hb⟩
  have HY := Lib.hid hy
  rw [HT.out] at HY
  have HB := Lib.hid hb
  clear hy hb
  go_wp2_with fail
  refine Mono.region_below (by kernel_rfl) (by kernel_rfl) (by kernel_rfl) ?_
  refine Mono.rgl_val (v := ?v0) rfl Mono.rr (fun ρ a W hR hd hf => ?h0) ?_
  case h0 =>
    have e2 := Mono.init_get hf (t := 2) (by kernel_rfl)
    clear hd hf
    (go_simp; try with_reducible rfl)
  refine Mono.rgl_val (v := ?v1) rfl Mono.rr (fun ρ a W hR hd hf => ?h1) ?_
  case h1 =>
    have e8 := Mono.dep_val hd hf (t := 8) (k := 0) (by kernel_rfl) rfl
    clear hd hf
    (go_simp; try with_reducible rfl)
  refine Mono.rgl_val (v := ?v2) rfl Mono.rr (fun ρ a W hR hd hf => ?h2) ?_
  case h2 =>
    have e9 := Mono.dep_val hd hf (t := 9) (k := 1) (by kernel_rfl) rfl
    clear hd hf
    (go_simp; try with_reducible rfl)
  refine Mono.rgl_valg (v := ?v3) rfl Mono.rr (fun ρ W hd => Mono.guard_val hd (t := 10) (k := 2) (by kernel_rfl) rfl) (fun ρ a W hR hd hf => ?h3) ?_
  case h3 =>
    have e1 := Mono.init_get hf (t := 1) (by kernel_rfl)
    clear hd hf
    (go_simp; try with_reducible rfl)
  refine Mono.rgl_valg (v := ?v4) rfl Mono.rr (fun ρ W hd => Mono.guard_val hd (t := 10) (k := 2) (by kernel_rfl) rfl) (fun ρ a W hR hd hf => ?h4) ?_
  case h4 =>
    have e11 := Mono.dep_val hd hf (t := 11) (k := 3) (by kernel_rfl) rfl
    have hcv := convert_byt (src := 25) (dst := 9) (e := 5) rfl rfl rfl ((HY.out.below hR).mono hR.size)
    clear hd hf
    (go_simp; try with_reducible rfl)
  refine Mono.rgl_predg (fun z W => Byt W W.heap.size z (List.replicate 18 0)) rfl hstB2 (fun ρ W hd => Mono.guard_val hd (t := 10) (k := 2) (by kernel_rfl) rfl) (fun ρ a W hR hd hf => ?h5) ?_
  case h5 =>
    clear hd hf
    exact ⟨_, _, by go_simp, (Below.refl _ _).alloc (Nat.le_refl _) _, zeros_byt W⟩
  refine Mono.rgl_valg (v := ?v6) rfl Mono.rr (fun ρ W hd => Mono.guard_val hd (t := 10) (k := 2) (by kernel_rfl) rfl) (fun ρ a W hR hd hf => ?h6) ?_
  case h6 =>
    obtain ⟨e13, d5⟩ := Mono.dep_get hd hf (t := 13) (k := 5) (by kernel_rfl)
    replace d5 : (fun z W => Byt W W.heap.size z (List.replicate 18 0)) (ρ 5) W := d5
    have hcv := convert_byt (src := 25) (dst := 9) (e := 5) rfl rfl rfl (d5)
    clear hd hf
    (go_simp; try with_reducible rfl)
  refine Mono.rgl_valg (v := .string (str ([80, 75, 5, 6] ++ List.replicate 18 0))) rfl Mono.rr (fun ρ W hd => Mono.guard_val hd (t := 10) (k := 2) (by kernel_rfl) rfl) (fun ρ a W hR hd hf => ?h7) ?_
  case h7 =>
    have e14 := Mono.dep_val hd hf (t := 14) (k := 6) (by kernel_rfl) rfl
    clear hd hf
    (go_simp; rw [if_neg (by decide)]; rfl)
  refine Mono.rgl_valg (v := .bool true) rfl Mono.rr (fun ρ W hd => Mono.guard_val hd (t := 10) (k := 2) (by kernel_rfl) rfl) (fun ρ a W hR hd hf => ?h8) ?_
  case h8 =>
    have e12 := Mono.dep_val hd hf (t := 12) (k := 4) (by kernel_rfl) rfl
    have e15 := Mono.dep_val hd hf (t := 15) (k := 7) (by kernel_rfl) rfl
    clear hd hf
    (go_simp; try rfl)
  refine Mono.rgl_val (v := ?v9) rfl Mono.rr (fun ρ a W hR hd hf => ?h9) ?_
  case h9 =>
    have e10 := Mono.dep_val hd hf (t := 10) (k := 2) (by kernel_rfl) rfl
    have e16 := Mono.dep_val hd hf (t := 16) (k := 8) (by kernel_rfl) rfl
    clear hd hf
    (go_simp; try with_reducible rfl)
  refine Mono.rgl_val (v := ?v10) rfl Mono.rr (fun ρ a W hR hd hf => ?h10) ?_
  case h10 =>
    have e17 := Mono.dep_val hd hf (t := 17) (k := 9) (by kernel_rfl) rfl
    clear hd hf
    (go_simp; try with_reducible rfl)
  refine Mono.rgl_val (v := ?v11) rfl Mono.rr (fun ρ a W hR hd hf => ?h11) ?_
  case h11 =>
    have e18 := Mono.dep_val hd hf (t := 18) (k := 10) (by kernel_rfl) rfl
    clear hd hf
    (go_simp; try with_reducible rfl)
  refine Mono.rgl_val (v := ?v12) rfl Mono.rr (fun ρ a W hR hd hf => ?h12) ?_
  case h12 =>
    have e19 := Mono.dep_val hd hf (t := 19) (k := 11) (by kernel_rfl) rfl
    clear hd hf
    (go_simp; try with_reducible rfl)
  refine Mono.rgl_val (v := ?v13) rfl Mono.rr (fun ρ a W hR hd hf => ?h13) ?_
  case h13 =>
    have e20 := Mono.dep_val hd hf (t := 20) (k := 12) (by kernel_rfl) rfl
    clear hd hf
    (go_simp; try with_reducible rfl)
  refine Mono.rgl_val (v := ?v14) rfl Mono.rr (fun ρ a W hR hd hf => ?h14) ?_
  case h14 =>
    have e21 := Mono.dep_val hd hf (t := 21) (k := 13) (by kernel_rfl) rfl
    clear hd hf
    (go_simp; try with_reducible rfl)
  refine Mono.rgl_val (v := ?v15) rfl Mono.rr (fun ρ a W hR hd hf => ?h15) ?_
  case h15 =>
    have e22 := Mono.dep_val hd hf (t := 22) (k := 14) (by kernel_rfl) rfl
    clear hd hf
    (go_simp; try with_reducible rfl)
  refine Mono.rgl_val (v := ?v16) rfl Mono.rr (fun ρ a W hR hd hf => ?h16) ?_
  case h16 =>
    have e23 := Mono.dep_val hd hf (t := 23) (k := 15) (by kernel_rfl) rfl
    clear hd hf
    (go_simp; try with_reducible rfl)
  refine Mono.rgl_val (v := ?v17) rfl Mono.rr (fun ρ a W hR hd hf => ?h17) ?_
  case h17 =>
    have e24 := Mono.dep_val hd hf (t := 24) (k := 16) (by kernel_rfl) rfl
    clear hd hf
    (go_simp; try with_reducible rfl)
  refine Mono.rgl_val (v := ?v18) rfl Mono.rr (fun ρ a W hR hd hf => ?h18) ?_
  case h18 =>
    have e25 := Mono.dep_val hd hf (t := 25) (k := 17) (by kernel_rfl) rfl
    clear hd hf
    (go_simp; try with_reducible rfl)
  refine Mono.rgl_val (v := ?v19) rfl Mono.rr (fun ρ a W hR hd hf => ?h19) ?_
  case h19 =>
    have e26 := Mono.dep_val hd hf (t := 26) (k := 18) (by kernel_rfl) rfl
    clear hd hf
    (go_simp; try with_reducible rfl)
  refine Mono.rgl_val (v := ?v20) rfl Mono.rr (fun ρ a W hR hd hf => ?h20) ?_
  case h20 =>
    have e27 := Mono.dep_val hd hf (t := 27) (k := 19) (by kernel_rfl) rfl
    clear hd hf
    (go_simp; try with_reducible rfl)
  refine Mono.rgl_done rfl (fun ρ W hR ht => ?_)
  obtain ⟨d20, d19, d18, d17, d16, d15, d14, d13, d12, d11, d10, d9, d8, d7, d6, d5, d4, d3, d2, d1, d0, _⟩ := ht
  replace d5 : (fun z W => Byt W W.heap.size z (List.replicate 18 0)) (ρ 5) W := d5
  simp only [List.length_cons, List.length_nil, Nat.reduceAdd] at d0 d1 d2 d3 d4 d6 d7 d8 d9 d10 d11 d12 d13 d14 d15 d16 d17 d18 d19 d20
  simp only [Mono.putAll, Nat.reduceAdd, d0, d1, d2, d3, d4, d6, d7, d8, d9, d10, d11, d12, d13, d14, d15, d16, d17, d18, d19, d20, Act.put, List.setIfInBounds_toArray, List.set_cons_zero, List.set_cons_succ]
  clear d0 d1 d2 d3 d4 d6 d7 d8 d9 d10 d11 d12 d13 d14 d15 d16 d17 d18 d19 d20
  generalize ρ 5 = r5 at *
  have HZ := Lib.hid (HB.out.trans (hR.mono HB.out.size))
  clear hR
  go_wp2
  go_ret
  exact ⟨rfl, HZ.out⟩
def lawQ (w : World) : Ending → World → Prop := fun e w' => e = .returned (.bool true) ∧ Below w.heap.size w w'
set_option maxHeartbeats 1000000 in
theorem writes_no (n s c : Int) (g : Bool) (w : World) (h : tailB n s c = false) : Calls Try.prog 3 #[.agg #[.int .i64 n, .int .i64 s, .int .i64 c, .bool g]] w (lawQ w) := by
  have HC := Lib.hid (fun W => check_any n s c g W)
  have HRC := Lib.hid (fun W => refCheck_any n s c g W)
  have HE := Lib.hid (fun W => enc_no n s c g W h)
  rw [h] at HC HRC
  clear h
  have HA := Lib.hid (Cells.new_at w [.int .i64 n, .int .i64 s, .int .i64 c, .bool g] 23 w.heap.size rfl)
  have HZ := Lib.hid ((Below.refl w.heap.size w).alloc (Nat.le_refl _) (.cells #[.int .i64 n, .int .i64 s, .int .i64 c, .bool g] 23))
  go_enter Try.func3, Try.ntmps3
  go_wp2_with fail
  refine (awake_any _).mono ?_
  rintro e w1 ⟨rfl, hb⟩
  have hs := hb.size
  simp only [World.size_alloc] at hs
  have HA := Lib.hid (HA.out.below hb (by simp))
  have HZ := Lib.hid (HZ.out.trans (hb.mono (by simp)))
  have hz0 : w.heap.size < w1.heap.size := by omega
  clear hb hs
  have k0 := HA.out 0 _ rfl
  have k1 := HA.out 1 _ rfl
  have k2 := HA.out 2 _ rfl
  have k3 := HA.out 3 _ rfl
  go_wp2_with fail
  refine (HE.out _).mono ?_
  rintro e w2 ⟨rfl, hb⟩
  have hs := hb.size
  have HA := Lib.hid (HA.out.below hb (by omega))
  have HZ := Lib.hid (HZ.out.trans (hb.mono (by omega)))
  have hz1 : w.heap.size < w2.heap.size := by omega
  clear hb hs hz0
  have hz0 := hz1
  clear hz1
  clear k0 k1 k2 k3
  have k0 := HA.out 0 _ rfl
  have k1 := HA.out 1 _ rfl
  have k2 := HA.out 2 _ rfl
  have k3 := HA.out 3 _ rfl
  go_wp2_with fail
  refine (ref_any n s c g _).mono ?_
  rintro e w3 ⟨rfl, hb⟩
  have hs := hb.size
  have HA := Lib.hid (HA.out.below hb (by omega))
  have HZ := Lib.hid (HZ.out.trans (hb.mono (by omega)))
  have hz1 : w.heap.size < w3.heap.size := by omega
  clear hb hs hz0
  have hz0 := hz1
  clear hz1
  go_wp2_with fail
  refine (HRC.out _).mono ?_
  rintro e w4 ⟨rfl, hb⟩
  have hs := hb.size
  have HA := Lib.hid (HA.out.below hb (by omega))
  have HZ := Lib.hid (HZ.out.trans (hb.mono (by omega)))
  have hz1 : w.heap.size < w4.heap.size := by omega
  clear hb hs hz0
  have hz0 := hz1
  clear hz1
  clear k0 k1 k2 k3
  have k0 := HA.out 0 _ rfl
  have k1 := HA.out 1 _ rfl
  have k2 := HA.out 2 _ rfl
  have k3 := HA.out 3 _ rfl
  go_wp2_with fail
  refine (HC.out _).mono ?_
  rintro e w5 ⟨rfl, hb⟩
  have hs := hb.size
  have HA := Lib.hid (HA.out.below hb (by omega))
  have HZ := Lib.hid (HZ.out.trans (hb.mono (by omega)))
  have hz1 : w.heap.size < w5.heap.size := by omega
  clear hb hs hz0
  have hz0 := hz1
  clear hz1
  go_wp2
  go_ret
  exact ⟨rfl, HZ.out⟩
set_option maxHeartbeats 1000000 in
theorem writes_yes (n s c : Nat) (g : Bool) (w : World) (h : tailB n s c = true) : Calls Try.prog 3 #[.agg #[.int .i64 (n : Nat), .int .i64 (s : Nat), .int .i64 (c : Nat), .bool g]] w (lawQ w) := by
  have HCK := Lib.hid (fun W => check_any n s c g W)
  have HRC := Lib.hid (fun W => refCheck_any n s c g W)
  have HE := Lib.hid (fun W => enc_yes n s c g W h)
  have HRE := Lib.hid (fun W => refEnc_yes n s c g W h)
  rw [h] at HCK HRC
  clear h
  have HA := Lib.hid (Cells.new_at w [.int .i64 (n : Nat), .int .i64 (s : Nat), .int .i64 (c : Nat), .bool g] 23 w.heap.size rfl)
  have HZ := Lib.hid ((Below.refl w.heap.size w).alloc (Nat.le_refl _) (.cells #[.int .i64 (n : Nat), .int .i64 (s : Nat), .int .i64 (c : Nat), .bool g] 23))
  go_enter Try.func3, Try.ntmps3
  go_wp2_with fail
  refine (awake_any _).mono ?_
  rintro e w1 ⟨rfl, hb⟩
  have hs := hb.size
  simp only [World.size_alloc] at hs
  have HA := Lib.hid (HA.out.below hb (by simp))
  have HZ := Lib.hid (HZ.out.trans (hb.mono (by simp)))
  have hz0 : w.heap.size < w1.heap.size := by omega
  clear hb hs
  have k0 := HA.out 0 _ rfl
  have k1 := HA.out 1 _ rfl
  have k2 := HA.out 2 _ rfl
  have k3 := HA.out 3 _ rfl
  go_wp2_with fail
  refine (HE.out _).mono ?_
  rintro e w2 ⟨v, rfl, hy, hb⟩
  have hs := hb.size
  have HA := Lib.hid (HA.out.below hb (by omega))
  have HZ := Lib.hid (HZ.out.trans (hb.mono (by omega)))
  have hz1 : w.heap.size < w2.heap.size := by omega
  have HY := Lib.hid hy
  clear hy hb hs hz0
  have hz0 := hz1
  clear hz1
  clear k0 k1 k2 k3
  have k0 := HA.out 0 _ rfl
  have k1 := HA.out 1 _ rfl
  have k2 := HA.out 2 _ rfl
  have k3 := HA.out 3 _ rfl
  go_wp2_with fail
  refine (ref_any n s c g _).mono ?_
  rintro e w3 ⟨rfl, hb⟩
  have hs := hb.size
  have HA := Lib.hid (HA.out.below hb (by omega))
  have HZ := Lib.hid (HZ.out.trans (hb.mono (by omega)))
  have hz1 : w.heap.size < w3.heap.size := by omega
  have HY := Lib.hid ((HY.out.below hb).mono hb.size)
  clear hb hs hz0
  have hz0 := hz1
  clear hz1
  go_wp2_with fail
  refine (HRC.out _).mono ?_
  rintro e w4 ⟨rfl, hb⟩
  have hs := hb.size
  have HA := Lib.hid (HA.out.below hb (by omega))
  have HZ := Lib.hid (HZ.out.trans (hb.mono (by omega)))
  have hz1 : w.heap.size < w4.heap.size := by omega
  have HY := Lib.hid ((HY.out.below hb).mono hb.size)
  clear hb hs hz0
  have hz0 := hz1
  clear hz1
  clear k0 k1 k2 k3
  go_wp2_with fail
  refine Mono.region_below (by kernel_rfl) (by kernel_rfl) (by kernel_rfl) ?_
  refine Mono.rgl_val (v := ?v0) rfl Mono.rr (fun ρ a W hR hd hf => ?h0) ?_
  case h0 =>
    have e4 := Mono.init_get hf (t := 4) (by kernel_rfl)
    clear hd hf
    (go_simp; try with_reducible rfl)
  refine Mono.rgl_val (v := ?v1) rfl Mono.rr (fun ρ a W hR hd hf => ?h1) ?_
  case h1 =>
    have e28 := Mono.dep_val hd hf (t := 28) (k := 0) (by kernel_rfl) rfl
    clear hd hf
    (go_simp; try with_reducible rfl)
  refine Mono.rgl_val (v := ?v2) rfl Mono.rr (fun ρ a W hR hd hf => ?h2) ?_
  case h2 =>
    have e29 := Mono.dep_val hd hf (t := 29) (k := 1) (by kernel_rfl) rfl
    clear hd hf
    (go_simp; try with_reducible rfl)
  refine Mono.rgl_valg (v := ?v3) rfl Mono.rr (fun ρ W hd => Mono.guard_val hd (t := 30) (k := 2) (by kernel_rfl) rfl) (fun ρ a W hR hd hf => ?h3) ?_
  case h3 =>
    have e1 := Mono.init_get hf (t := 1) (by kernel_rfl)
    have hk0 := (HA.out.below hR (by omega) : Cells W _ _) 0 _ rfl
    have hk1 := (HA.out.below hR (by omega) : Cells W _ _) 1 _ rfl
    have hk2 := (HA.out.below hR (by omega) : Cells W _ _) 2 _ rfl
    have hk3 := (HA.out.below hR (by omega) : Cells W _ _) 3 _ rfl
    clear hd hf
    (go_simp; try with_reducible rfl)
  refine Mono.rgl_callg (fun x _ => x = .int .i64 0) rfl Mono.rr (fun _ _ _ h _ => h) (fun ρ W hd => Mono.guard_val hd (t := 30) (k := 2) (by kernel_rfl) rfl) (fun ρ a W hR hd hf => ?h4) ?_
  case h4 =>
    have e31 := Mono.dep_val hd hf (t := 31) (k := 3) (by kernel_rfl) rfl
    clear hd hf
    refine ⟨_, _, by go_simp; first | rfl | exact ⟨rfl, rfl⟩, ?_⟩
    exact (HCK.out W).mono (fun e W' ⟨he, hb⟩ => ⟨_, he, hb, rfl⟩)
  refine Mono.rgl_valg (v := ?v5) rfl Mono.rr (fun ρ W hd => Mono.guard_val hd (t := 30) (k := 2) (by kernel_rfl) rfl) (fun ρ a W hR hd hf => ?h5) ?_
  case h5 =>
    have e32 := Mono.dep_val hd hf (t := 32) (k := 4) (by kernel_rfl) rfl
    clear hd hf
    (go_simp; try with_reducible rfl)
  refine Mono.rgl_val (v := ?v6) rfl Mono.rr (fun ρ a W hR hd hf => ?h6) ?_
  case h6 =>
    have e30 := Mono.dep_val hd hf (t := 30) (k := 2) (by kernel_rfl) rfl
    have e33 := Mono.dep_val hd hf (t := 33) (k := 5) (by kernel_rfl) rfl
    clear hd hf
    (go_simp; try with_reducible rfl)
  refine Mono.rgl_val (v := ?v7) rfl Mono.rr (fun ρ a W hR hd hf => ?h7) ?_
  case h7 =>
    have e34 := Mono.dep_val hd hf (t := 34) (k := 6) (by kernel_rfl) rfl
    clear hd hf
    (go_simp; try with_reducible rfl)
  refine Mono.rgl_valg (v := ?v8) rfl Mono.rr (fun ρ W hd => Mono.guard_val hd (t := 35) (k := 7) (by kernel_rfl) rfl) (fun ρ a W hR hd hf => ?h8) ?_
  case h8 =>
    have e3 := Mono.init_get hf (t := 3) (by kernel_rfl)
    clear hd hf
    (go_simp; try with_reducible rfl)
  refine Mono.rgl_valg (v := ?v9) rfl Mono.rr (fun ρ W hd => Mono.guard_val hd (t := 35) (k := 7) (by kernel_rfl) rfl) (fun ρ a W hR hd hf => ?h9) ?_
  case h9 =>
    have e36 := Mono.dep_val hd hf (t := 36) (k := 8) (by kernel_rfl) rfl
    have hcv := convert_byt (src := 25) (dst := 9) (e := 5) rfl rfl rfl ((HY.out.below hR).mono hR.size)
    clear hd hf
    (go_simp; try with_reducible rfl)
  refine Mono.rgl_valg (v := ?v10) rfl Mono.rr (fun ρ W hd => Mono.guard_val hd (t := 35) (k := 7) (by kernel_rfl) rfl) (fun ρ a W hR hd hf => ?h10) ?_
  case h10 =>
    have e1 := Mono.init_get hf (t := 1) (by kernel_rfl)
    have hk0 := (HA.out.below hR (by omega) : Cells W _ _) 0 _ rfl
    have hk1 := (HA.out.below hR (by omega) : Cells W _ _) 1 _ rfl
    have hk2 := (HA.out.below hR (by omega) : Cells W _ _) 2 _ rfl
    have hk3 := (HA.out.below hR (by omega) : Cells W _ _) 3 _ rfl
    clear hd hf
    (go_simp; try with_reducible rfl)
  refine Mono.rgl_callg (fun x _ => x = .agg #[.int .i64 (n : Nat), .int .i64 (s : Nat), .int .i64 (c : Nat), .bool g]) rfl Mono.rr (fun _ _ _ h _ => h) (fun ρ W hd => Mono.guard_val hd (t := 35) (k := 7) (by kernel_rfl) rfl) (fun ρ a W hR hd hf => ?h11) ?_
  case h11 =>
    have e38 := Mono.dep_val hd hf (t := 38) (k := 10) (by kernel_rfl) rfl
    clear hd hf
    refine ⟨_, _, by go_simp; first | rfl | exact ⟨rfl, rfl⟩, ?_⟩
    exact (ref_any n s c g W).mono (fun e W' ⟨he, hb⟩ => ⟨_, he, hb, rfl⟩)
  refine Mono.rgl_callg (fun z W => Byt W W.heap.size z (tailBytes n s c g)) rfl Mono.rr hstB2 (fun ρ W hd => Mono.guard_val hd (t := 35) (k := 7) (by kernel_rfl) rfl) (fun ρ a W hR hd hf => ?h12) ?_
  case h12 =>
    have e39 := Mono.dep_val hd hf (t := 39) (k := 11) (by kernel_rfl) rfl
    clear hd hf
    refine ⟨_, _, by go_simp; first | rfl | exact ⟨rfl, rfl⟩, ?_⟩
    exact (HRE.out W).mono (fun e W' ⟨v', he, ho, hb⟩ => ⟨v', he, hb, ho.byt⟩)
  refine Mono.rgl_valg (v := ?v13) rfl Mono.rr (fun ρ W hd => Mono.guard_val hd (t := 35) (k := 7) (by kernel_rfl) rfl) (fun ρ a W hR hd hf => ?h13) ?_
  case h13 =>
    obtain ⟨e40, d12⟩ := Mono.dep_get hd hf (t := 40) (k := 12) (by kernel_rfl)
    replace d12 : (fun z W => Byt W W.heap.size z (tailBytes n s c g)) (ρ 12) W := d12
    have hcv := convert_byt (src := 25) (dst := 9) (e := 5) rfl rfl rfl (d12)
    clear hd hf
    (go_simp; try with_reducible rfl)
  refine Mono.rgl_valg (v := .bool true) rfl Mono.rr (fun ρ W hd => Mono.guard_val hd (t := 35) (k := 7) (by kernel_rfl) rfl) (fun ρ a W hR hd hf => ?h14) ?_
  case h14 =>
    have e37 := Mono.dep_val hd hf (t := 37) (k := 9) (by kernel_rfl) rfl
    have e41 := Mono.dep_val hd hf (t := 41) (k := 13) (by kernel_rfl) rfl
    clear hd hf
    (go_simp; try rfl)
  refine Mono.rgl_val (v := ?v15) rfl Mono.rr (fun ρ a W hR hd hf => ?h15) ?_
  case h15 =>
    have e35 := Mono.dep_val hd hf (t := 35) (k := 7) (by kernel_rfl) rfl
    have e42 := Mono.dep_val hd hf (t := 42) (k := 14) (by kernel_rfl) rfl
    clear hd hf
    (go_simp; try with_reducible rfl)
  refine Mono.rgl_val (v := ?v16) rfl Mono.rr (fun ρ a W hR hd hf => ?h16) ?_
  case h16 =>
    have e43 := Mono.dep_val hd hf (t := 43) (k := 15) (by kernel_rfl) rfl
    clear hd hf
    (go_simp; try with_reducible rfl)
  refine Mono.rgl_done rfl (fun ρ W hR ht => ?_)
  obtain ⟨d16, d15, d14, d13, d12, d11, d10, d9, d8, d7, d6, d5, d4, d3, d2, d1, d0, _⟩ := ht
  replace d12 : (fun z W => Byt W W.heap.size z (tailBytes n s c g)) (ρ 12) W := d12
  simp only [List.length_cons, List.length_nil, Nat.reduceAdd] at d0 d1 d2 d3 d4 d5 d6 d7 d8 d9 d10 d11 d13 d14 d15 d16
  simp only [Mono.putAll, Nat.reduceAdd, d0, d1, d2, d3, d4, d5, d6, d7, d8, d9, d10, d11, d13, d14, d15, d16, Act.put, List.setIfInBounds_toArray, List.set_cons_zero, List.set_cons_succ]
  clear d0 d1 d2 d3 d4 d5 d6 d7 d8 d9 d10 d11 d13 d14 d15 d16
  generalize ρ 12 = r12 at *
  have HZ := Lib.hid (HZ.out.trans (hR.mono (by omega)))
  clear hR
  go_wp2
  go_ret
  exact ⟨rfl, HZ.out⟩
theorem writes_walk (n s c : Int) (g : Bool) (w : World) : Calls Try.prog 3 #[.agg #[.int .i64 n, .int .i64 s, .int .i64 c, .bool g]] w fun e w' => e = .returned (.bool true) ∧ Below w.heap.size w w' := by
  cases h : tailB n s c with
  | false => exact writes_no n s c g w h
  | true =>
    have h' := of_decide_eq_true h
    obtain ⟨x, rfl⟩ : ∃ x : Nat, n = x := ⟨n.toNat, by omega⟩
    obtain ⟨y, rfl⟩ : ∃ x : Nat, s = x := ⟨s.toNat, by omega⟩
    obtain ⟨z, rfl⟩ : ∃ x : Nat, c = x := ⟨c.toNat, by omega⟩
    exact writes_yes x y z g w h
end Go.Proofs.Ytfdbgbdiacpmhaa
