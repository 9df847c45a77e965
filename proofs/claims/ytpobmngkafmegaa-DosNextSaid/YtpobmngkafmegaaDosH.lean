/- The walk of DosOrder. -/
import Derived.Test.YtpobmngkafmegaaDosG
import Derived.Test.YtpobmngkafmegaaDosE
namespace Go.Proofs.Ytpobmngkafmegaa
open Go.RowKit
theorem fnz_sg (a b : Int) (l : List Int) : fnz (sg a b :: l) = if a < b then -1 else if b < a then 1 else fnz l := by
  show (if sg a b = 0 then fnz l else sg a b) = _
  unfold sg
  by_cases h1 : a < b
  · simp [h1]
  · by_cases h2 : b < a
    · simp [h1, h2]
    · simp [h1, h2]
theorem order_law (y m d h i s y' m' d' h' i' s' : Int) (h0 : rightB y m d h i s = true) (h1 : rightB y' m' d' h' i' s' = true) :
    (cmpT y m d h i s y' m' d' h' i' s' < 0 ∧ dateOf y m d < dateOf y' m' d') ∨ (cmpT y m d h i s y' m' d' h' i' s' < 0 ∧ dateOf y m d = dateOf y' m' d' ∧ clockOf h i s < clockOf h' i' s') ∨
    (cmpT y m d h i s y' m' d' h' i' s' = 0 ∧ dateOf y m d = dateOf y' m' d' ∧ clockOf h i s = clockOf h' i' s') ∨ (0 < cmpT y m d h i s y' m' d' h' i' s' ∧ dateOf y m d = dateOf y' m' d' ∧ clockOf h' i' s' < clockOf h i s) ∨
    (0 < cmpT y m d h i s y' m' d' h' i' s' ∧ dateOf y' m' d' < dateOf y m d) := by
  have e0 := right_elim h0
  have e1 := right_elim h1
  have q0 := days_le y m
  have q1 := days_le y' m'
  unfold cmpT dateOf clockOf
  rw [fnz_sg, fnz_sg, fnz_sg, fnz_sg, fnz_sg, fnz_sg, fnz]
  rcases Int.lt_trichotomy y y' with a | a | a
  · rw [if_pos a]; omega
  · subst a
    rw [if_neg (by omega), if_neg (by omega)]
    rcases Int.lt_trichotomy m m' with a | a | a
    · rw [if_pos a]; omega
    · subst a
      rw [if_neg (by omega), if_neg (by omega)]
      rcases Int.lt_trichotomy d d' with a | a | a
      · rw [if_pos a]; omega
      · subst a
        rw [if_neg (by omega), if_neg (by omega)]
        rcases Int.lt_trichotomy h h' with a | a | a
        · rw [if_pos a]; omega
        · subst a
          rw [if_neg (by omega), if_neg (by omega)]
          rcases Int.lt_trichotomy i i' with a | a | a
          · rw [if_pos a]; omega
          · subst a
            rw [if_neg (by omega), if_neg (by omega)]
            rcases Int.lt_trichotomy s s' with a | a | a
            · rw [if_pos a]; omega
            · subst a
              rw [if_neg (by omega), if_neg (by omega)]; omega
            · rw [if_neg (by omega), if_pos a]; omega
          · rw [if_neg (by omega), if_pos a]; omega
        · rw [if_neg (by omega), if_pos a]; omega
      · rw [if_neg (by omega), if_pos a]; omega
    · rw [if_neg (by omega), if_pos a]; omega
  · rw [if_neg (by omega), if_pos a]; omega
def orderQ (w : World) : Ending → World → Prop := fun e w' => e = .returned (.bool true) ∧ Below w.heap.size w w'
set_option maxHeartbeats 2000000 in
set_option maxRecDepth 100000 in
theorem order_no1 (y m d h i s y' m' d' h' i' s' : Int) (p q : Int) (w : World) (h0 : rightB y m d h i s = false) : Calls Try.prog 4 #[.agg #[.int .i64 y, .int .i64 m, .int .i64 d, .int .i64 h, .int .i64 i, .int .i64 s], .agg #[.int .i64 y', .int .i64 m', .int .i64 d', .int .i64 h', .int .i64 i', .int .i64 s'], .agg #[.int .i64 p, .int .i64 q]] w (orderQ w) := by
  have HC := Lib.hid (fun W => compare_any y m d h i s y' m' d' h' i' s' W)
  have HRA := Lib.hid (fun W => refRight_any y m d h i s W)
  have HRB := Lib.hid (fun W => refRight_any y' m' d' h' i' s' W)
  rw [h0] at HRA
  clear h0
  have HA := Lib.hid (Cells.new_at w [.int .i64 y, .int .i64 m, .int .i64 d, .int .i64 h, .int .i64 i, .int .i64 s] 23 w.heap.size rfl)
  have HB := Lib.hid (Cells.new_at (w.alloc (.cells [.int .i64 y, .int .i64 m, .int .i64 d, .int .i64 h, .int .i64 i, .int .i64 s].toArray 23)) [.int .i64 y', .int .i64 m', .int .i64 d', .int .i64 h', .int .i64 i', .int .i64 s'] 23 (w.heap.size + 1) (by simp))
  have HM := Lib.hid (Cells.new_at ((w.alloc (.cells [.int .i64 y, .int .i64 m, .int .i64 d, .int .i64 h, .int .i64 i, .int .i64 s].toArray 23)).alloc (.cells [.int .i64 y', .int .i64 m', .int .i64 d', .int .i64 h', .int .i64 i', .int .i64 s'].toArray 23)) [.int .i64 p, .int .i64 q] 37 (w.heap.size + 2) (by simp))
  have HZ : Hid (Below w.heap.size w (((w.alloc (.cells [.int .i64 y, .int .i64 m, .int .i64 d, .int .i64 h, .int .i64 i, .int .i64 s].toArray 23)).alloc (.cells [.int .i64 y', .int .i64 m', .int .i64 d', .int .i64 h', .int .i64 i', .int .i64 s'].toArray 23)).alloc (.cells [.int .i64 p, .int .i64 q].toArray 37))) := (((Below.refl _ _).alloc (Nat.le_refl _) _).alloc (by simp) _).alloc (by simp; omega) _
  go_enter Try.func4, Try.ntmps4
  go_wp2_with fail
  refine (awake_any _).mono ?_
  rintro e w1 ⟨rfl, hb⟩
  have hs := hb.size
  simp only [World.size_alloc] at hs
  have HA := Lib.hid ((HA.out.below ((Below.refl _ _).alloc (Nat.le_refl _) _) (by simp)).below (((Below.refl _ _).alloc (Nat.le_refl _) _).trans (hb.mono (by simp))) (by simp; omega))
  have HB := Lib.hid (HB.out.below (((Below.refl _ _).alloc (Nat.le_refl _) _).trans (hb.mono (by simp))) (by simp))
  have HM := Lib.hid (HM.out.below hb (by simp))
  have HZ := Lib.hid (HZ.out.trans (hb.mono (by simp; omega)))
  have hz0 : w.heap.size + 2 < w1.heap.size := by omega
  clear hs hb
  have k0 := HA.out 0 _ rfl
  have k1 := HA.out 1 _ rfl
  have k2 := HA.out 2 _ rfl
  have k3 := HA.out 3 _ rfl
  have k4 := HA.out 4 _ rfl
  have k5 := HA.out 5 _ rfl
  have l0 := HB.out 0 _ rfl
  have l1 := HB.out 1 _ rfl
  have l2 := HB.out 2 _ rfl
  have l3 := HB.out 3 _ rfl
  have l4 := HB.out 4 _ rfl
  have l5 := HB.out 5 _ rfl
  go_wp2_with fail
  refine (HC.out _).mono ?_
  rintro e w2 ⟨rfl, hb⟩
  have hs' := hb.size
  have HA := Lib.hid (HA.out.below hb (by omega))
  have HB := Lib.hid (HB.out.below hb (by omega))
  have HM := Lib.hid (HM.out.below hb (by omega))
  have HZ := Lib.hid (HZ.out.trans (hb.mono (by omega)))
  have hz : w.heap.size + 2 < w2.heap.size := by omega
  clear hb hs' hz0
  have hz0 := hz
  clear hz
  clear k0 k1 k2 k3 k4 k5
  clear l0 l1 l2 l3 l4 l5
  generalize hcT : cmpT y m d h i s y' m' d' h' i' s' = T at *
  have HCT := Lib.hid hcT
  clear hcT
  go_wp2_with fail
  refine Mono.region_below (by kernel_rfl) (by kernel_rfl) (by kernel_rfl) ?_
  refine Mono.rgl_val (v := ?v0) rfl Mono.rr (fun ρ a W hR hd hf => ?h0) ?_
  case h0 =>
    have e7 := Mono.init_get hf (t := 7) (by kernel_rfl)
    clear hd hf
    (go_simp; try with_reducible rfl)
  refine Mono.rgl_val (v := ?v1) rfl Mono.rr (fun ρ a W hR hd hf => ?h1) ?_
  case h1 =>
    have e3 := Mono.init_get hf (t := 3) (by kernel_rfl)
    have hk0 := (HA.out.below hR (by omega) : Cells W _ _) 0 _ rfl
    have hk1 := (HA.out.below hR (by omega) : Cells W _ _) 1 _ rfl
    have hk2 := (HA.out.below hR (by omega) : Cells W _ _) 2 _ rfl
    have hk3 := (HA.out.below hR (by omega) : Cells W _ _) 3 _ rfl
    have hk4 := (HA.out.below hR (by omega) : Cells W _ _) 4 _ rfl
    have hk5 := (HA.out.below hR (by omega) : Cells W _ _) 5 _ rfl
    clear hd hf
    (go_simp; try with_reducible rfl)
  refine Mono.rgl_val (v := ?v2) rfl Mono.rr (fun ρ a W hR hd hf => ?h2) ?_
  case h2 =>
    have e4 := Mono.init_get hf (t := 4) (by kernel_rfl)
    have hk0 := (HB.out.below hR (by omega) : Cells W _ _) 0 _ rfl
    have hk1 := (HB.out.below hR (by omega) : Cells W _ _) 1 _ rfl
    have hk2 := (HB.out.below hR (by omega) : Cells W _ _) 2 _ rfl
    have hk3 := (HB.out.below hR (by omega) : Cells W _ _) 3 _ rfl
    have hk4 := (HB.out.below hR (by omega) : Cells W _ _) 4 _ rfl
    have hk5 := (HB.out.below hR (by omega) : Cells W _ _) 5 _ rfl
    clear hd hf
    (go_simp; try with_reducible rfl)
  refine Mono.rgl_call (fun x _ => x = .int .i64 (T)) rfl Mono.rr (fun _ _ _ h _ => h) (fun ρ a W hR hd hf => ?h3) ?_
  case h3 =>
    have e18 := Mono.dep_val hd hf (t := 18) (k := 1) (by kernel_rfl) rfl
    have e19 := Mono.dep_val hd hf (t := 19) (k := 2) (by kernel_rfl) rfl
    clear hd hf
    refine ⟨_, _, by go_simp; first | rfl | exact ⟨rfl, rfl⟩, ?_⟩
    have hq := refCompare_any y m d h i s y' m' d' h' i' s' W
    rw [HCT.out] at hq
    exact hq.mono (fun e W' ⟨he, hb⟩ => ⟨_, he, hb, rfl⟩)
  refine Mono.rgl_val (v := .bool false) rfl Mono.rr (fun ρ a W hR hd hf => ?h4) ?_
  case h4 =>
    have e17 := Mono.dep_val hd hf (t := 17) (k := 0) (by kernel_rfl) rfl
    have e20 := Mono.dep_val hd hf (t := 20) (k := 3) (by kernel_rfl) rfl
    clear hd hf
    (go_simp; try with_reducible rfl)
  refine Mono.rgl_val (v := .bool false) rfl Mono.rr (fun ρ a W hR hd hf => ?h5) ?_
  case h5 =>
    have e21 := Mono.dep_val hd hf (t := 21) (k := 4) (by kernel_rfl) rfl
    clear hd hf
    (go_simp; try with_reducible rfl)
  refine Mono.rgl_valg (v := ?v6) rfl Mono.rr (fun ρ W hd => Mono.guard_val hd (t := 22) (k := 5) (by kernel_rfl) rfl) (fun ρ a W hR hd hf => ?h6) ?_
  case h6 =>
    have e5 := Mono.init_get hf (t := 5) (by kernel_rfl)
    clear hd hf
    (go_simp; try with_reducible rfl)
  refine Mono.rgl_valg (v := ?v7) rfl Mono.rr (fun ρ W hd => Mono.guard_val hd (t := 22) (k := 5) (by kernel_rfl) rfl) (fun ρ a W hR hd hf => ?h7) ?_
  case h7 =>
    have e23 := Mono.dep_val hd hf (t := 23) (k := 6) (by kernel_rfl) rfl
    have hk := (HM.out.below hR (by omega) : Cells W _ _) 0 _ rfl
    clear hd hf
    (go_simp; try with_reducible rfl)
  refine Mono.rgl_valg (v := ?v8) rfl Mono.rr (fun ρ W hd => Mono.guard_val hd (t := 22) (k := 5) (by kernel_rfl) rfl) (fun ρ a W hR hd hf => ?h8) ?_
  case h8 =>
    have e5 := Mono.init_get hf (t := 5) (by kernel_rfl)
    clear hd hf
    (go_simp; try with_reducible rfl)
  refine Mono.rgl_valg (v := ?v9) rfl Mono.rr (fun ρ W hd => Mono.guard_val hd (t := 22) (k := 5) (by kernel_rfl) rfl) (fun ρ a W hR hd hf => ?h9) ?_
  case h9 =>
    have e25 := Mono.dep_val hd hf (t := 25) (k := 8) (by kernel_rfl) rfl
    have hk := (HM.out.below hR (by omega) : Cells W _ _) 1 _ rfl
    clear hd hf
    (go_simp; try with_reducible rfl)
  refine Mono.rgl_callg (fun x _ => x = .int .i64 (days p q)) rfl Mono.rr (fun _ _ _ h _ => h) (fun ρ W hd => Mono.guard_val hd (t := 22) (k := 5) (by kernel_rfl) rfl) (fun ρ a W hR hd hf => ?h10) ?_
  case h10 =>
    have e24 := Mono.dep_val hd hf (t := 24) (k := 7) (by kernel_rfl) rfl
    have e26 := Mono.dep_val hd hf (t := 26) (k := 9) (by kernel_rfl) rfl
    clear hd hf
    refine ⟨_, _, by go_simp; first | rfl | exact ⟨rfl, rfl⟩, ?_⟩
    exact (days_any _ _ W).mono (fun e W' ⟨he, hw⟩ => ⟨_, he, hw ▸ Mono.rr _, rfl⟩)
  refine Mono.rgl_valg (v := ?v11) rfl Mono.rr (fun ρ W hd => Mono.guard_val hd (t := 22) (k := 5) (by kernel_rfl) rfl) (fun ρ a W hR hd hf => ?h11) ?_
  case h11 =>
    have e5 := Mono.init_get hf (t := 5) (by kernel_rfl)
    clear hd hf
    (go_simp; try with_reducible rfl)
  refine Mono.rgl_valg (v := ?v12) rfl Mono.rr (fun ρ W hd => Mono.guard_val hd (t := 22) (k := 5) (by kernel_rfl) rfl) (fun ρ a W hR hd hf => ?h12) ?_
  case h12 =>
    have e28 := Mono.dep_val hd hf (t := 28) (k := 11) (by kernel_rfl) rfl
    have hk := (HM.out.below hR (by omega) : Cells W _ _) 0 _ rfl
    clear hd hf
    (go_simp; try with_reducible rfl)
  refine Mono.rgl_valg (v := ?v13) rfl Mono.rr (fun ρ W hd => Mono.guard_val hd (t := 22) (k := 5) (by kernel_rfl) rfl) (fun ρ a W hR hd hf => ?h13) ?_
  case h13 =>
    have e5 := Mono.init_get hf (t := 5) (by kernel_rfl)
    clear hd hf
    (go_simp; try with_reducible rfl)
  refine Mono.rgl_valg (v := ?v14) rfl Mono.rr (fun ρ W hd => Mono.guard_val hd (t := 22) (k := 5) (by kernel_rfl) rfl) (fun ρ a W hR hd hf => ?h14) ?_
  case h14 =>
    have e30 := Mono.dep_val hd hf (t := 30) (k := 13) (by kernel_rfl) rfl
    have hk := (HM.out.below hR (by omega) : Cells W _ _) 1 _ rfl
    clear hd hf
    (go_simp; try with_reducible rfl)
  refine Mono.rgl_callg (fun x _ => x = .int .i64 (days p q)) rfl Mono.rr (fun _ _ _ h _ => h) (fun ρ W hd => Mono.guard_val hd (t := 22) (k := 5) (by kernel_rfl) rfl) (fun ρ a W hR hd hf => ?h15) ?_
  case h15 =>
    have e29 := Mono.dep_val hd hf (t := 29) (k := 12) (by kernel_rfl) rfl
    have e31 := Mono.dep_val hd hf (t := 31) (k := 14) (by kernel_rfl) rfl
    clear hd hf
    refine ⟨_, _, by go_simp; first | rfl | exact ⟨rfl, rfl⟩, ?_⟩
    exact (refDays_any _ _ W).mono (fun e W' ⟨he, o, hw⟩ => ⟨_, he, hw ▸ (Below.refl _ _).alloc (Nat.le_refl _) _, rfl⟩)
  refine Mono.rgl_valg (v := .bool false) rfl Mono.rr (fun ρ W hd => Mono.guard_val hd (t := 22) (k := 5) (by kernel_rfl) rfl) (fun ρ a W hR hd hf => ?h16) ?_
  case h16 =>
    have e27 := Mono.dep_val hd hf (t := 27) (k := 10) (by kernel_rfl) rfl
    have e32 := Mono.dep_val hd hf (t := 32) (k := 15) (by kernel_rfl) rfl
    clear hd hf
    (go_simp; try with_reducible rfl)
  refine Mono.rgl_val (v := ?v17) rfl Mono.rr (fun ρ a W hR hd hf => ?h17) ?_
  case h17 =>
    have e22 := Mono.dep_val hd hf (t := 22) (k := 5) (by kernel_rfl) rfl
    have e33 := Mono.dep_val hd hf (t := 33) (k := 16) (by kernel_rfl) rfl
    clear hd hf
    (go_simp; try with_reducible rfl)
  refine Mono.rgl_done rfl (fun ρ W hR ht => ?_)
  obtain ⟨d17, d16, d15, d14, d13, d12, d11, d10, d9, d8, d7, d6, d5, d4, d3, d2, d1, d0, _⟩ := ht
  simp only [List.length_cons, List.length_nil, Nat.reduceAdd] at d0 d1 d2 d3 d4 d5 d6 d7 d8 d9 d10 d11 d12 d13 d14 d15 d16 d17
  simp only [Mono.putAll, Nat.reduceAdd, d0, d1, d2, d3, d4, d5, d6, d7, d8, d9, d10, d11, d12, d13, d14, d15, d16, d17, Act.put, List.setIfInBounds_toArray, List.set_cons_zero, List.set_cons_succ]
  clear d0 d1 d2 d3 d4 d5 d6 d7 d8 d9 d10 d11 d12 d13 d14 d15 d16 d17
  have hs' := hR.size
  have HA := Lib.hid (HA.out.below hR (by omega))
  have HB := Lib.hid (HB.out.below hR (by omega))
  have HM := Lib.hid (HM.out.below hR (by omega))
  have HZ := Lib.hid (HZ.out.trans (hR.mono (by omega)))
  have hz1 : w.heap.size + 2 < W.heap.size := by omega
  clear hR hz0 hs'
  have hz0 := hz1
  clear hz1
  have k0 := HA.out 0 _ rfl
  have k1 := HA.out 1 _ rfl
  have k2 := HA.out 2 _ rfl
  have k3 := HA.out 3 _ rfl
  have k4 := HA.out 4 _ rfl
  have k5 := HA.out 5 _ rfl
  go_wp2_with fail
  refine (HRA.out _).mono ?_
  rintro e w4 ⟨rfl, hb⟩
  have hs' := hb.size
  have HA := Lib.hid (HA.out.below hb (by omega))
  have HB := Lib.hid (HB.out.below hb (by omega))
  have HM := Lib.hid (HM.out.below hb (by omega))
  have HZ := Lib.hid (HZ.out.trans (hb.mono (by omega)))
  have hz : w.heap.size + 2 < w4.heap.size := by omega
  clear hb hs' hz0
  have hz0 := hz
  clear hz
  go_wp2
  go_ret
  exact ⟨rfl, HZ.out⟩
set_option maxHeartbeats 2000000 in
set_option maxRecDepth 100000 in
theorem order_no2 (y m d h i s y' m' d' h' i' s' : Int) (p q : Int) (w : World) (h0 : rightB y m d h i s = true) (h1 : rightB y' m' d' h' i' s' = false) : Calls Try.prog 4 #[.agg #[.int .i64 y, .int .i64 m, .int .i64 d, .int .i64 h, .int .i64 i, .int .i64 s], .agg #[.int .i64 y', .int .i64 m', .int .i64 d', .int .i64 h', .int .i64 i', .int .i64 s'], .agg #[.int .i64 p, .int .i64 q]] w (orderQ w) := by
  have HC := Lib.hid (fun W => compare_any y m d h i s y' m' d' h' i' s' W)
  have HRA := Lib.hid (fun W => refRight_any y m d h i s W)
  have HRB := Lib.hid (fun W => refRight_any y' m' d' h' i' s' W)
  rw [h0] at HRA
  rw [h1] at HRB
  clear h0 h1
  have HA := Lib.hid (Cells.new_at w [.int .i64 y, .int .i64 m, .int .i64 d, .int .i64 h, .int .i64 i, .int .i64 s] 23 w.heap.size rfl)
  have HB := Lib.hid (Cells.new_at (w.alloc (.cells [.int .i64 y, .int .i64 m, .int .i64 d, .int .i64 h, .int .i64 i, .int .i64 s].toArray 23)) [.int .i64 y', .int .i64 m', .int .i64 d', .int .i64 h', .int .i64 i', .int .i64 s'] 23 (w.heap.size + 1) (by simp))
  have HM := Lib.hid (Cells.new_at ((w.alloc (.cells [.int .i64 y, .int .i64 m, .int .i64 d, .int .i64 h, .int .i64 i, .int .i64 s].toArray 23)).alloc (.cells [.int .i64 y', .int .i64 m', .int .i64 d', .int .i64 h', .int .i64 i', .int .i64 s'].toArray 23)) [.int .i64 p, .int .i64 q] 37 (w.heap.size + 2) (by simp))
  have HZ : Hid (Below w.heap.size w (((w.alloc (.cells [.int .i64 y, .int .i64 m, .int .i64 d, .int .i64 h, .int .i64 i, .int .i64 s].toArray 23)).alloc (.cells [.int .i64 y', .int .i64 m', .int .i64 d', .int .i64 h', .int .i64 i', .int .i64 s'].toArray 23)).alloc (.cells [.int .i64 p, .int .i64 q].toArray 37))) := (((Below.refl _ _).alloc (Nat.le_refl _) _).alloc (by simp) _).alloc (by simp; omega) _
  go_enter Try.func4, Try.ntmps4
  go_wp2_with fail
  refine (awake_any _).mono ?_
  rintro e w1 ⟨rfl, hb⟩
  have hs := hb.size
  simp only [World.size_alloc] at hs
  have HA := Lib.hid ((HA.out.below ((Below.refl _ _).alloc (Nat.le_refl _) _) (by simp)).below (((Below.refl _ _).alloc (Nat.le_refl _) _).trans (hb.mono (by simp))) (by simp; omega))
  have HB := Lib.hid (HB.out.below (((Below.refl _ _).alloc (Nat.le_refl _) _).trans (hb.mono (by simp))) (by simp))
  have HM := Lib.hid (HM.out.below hb (by simp))
  have HZ := Lib.hid (HZ.out.trans (hb.mono (by simp; omega)))
  have hz0 : w.heap.size + 2 < w1.heap.size := by omega
  clear hs hb
  have k0 := HA.out 0 _ rfl
  have k1 := HA.out 1 _ rfl
  have k2 := HA.out 2 _ rfl
  have k3 := HA.out 3 _ rfl
  have k4 := HA.out 4 _ rfl
  have k5 := HA.out 5 _ rfl
  have l0 := HB.out 0 _ rfl
  have l1 := HB.out 1 _ rfl
  have l2 := HB.out 2 _ rfl
  have l3 := HB.out 3 _ rfl
  have l4 := HB.out 4 _ rfl
  have l5 := HB.out 5 _ rfl
  go_wp2_with fail
  refine (HC.out _).mono ?_
  rintro e w2 ⟨rfl, hb⟩
  have hs' := hb.size
  have HA := Lib.hid (HA.out.below hb (by omega))
  have HB := Lib.hid (HB.out.below hb (by omega))
  have HM := Lib.hid (HM.out.below hb (by omega))
  have HZ := Lib.hid (HZ.out.trans (hb.mono (by omega)))
  have hz : w.heap.size + 2 < w2.heap.size := by omega
  clear hb hs' hz0
  have hz0 := hz
  clear hz
  clear k0 k1 k2 k3 k4 k5
  clear l0 l1 l2 l3 l4 l5
  generalize hcT : cmpT y m d h i s y' m' d' h' i' s' = T at *
  have HCT := Lib.hid hcT
  clear hcT
  go_wp2_with fail
  refine Mono.region_below (by kernel_rfl) (by kernel_rfl) (by kernel_rfl) ?_
  refine Mono.rgl_val (v := ?v0) rfl Mono.rr (fun ρ a W hR hd hf => ?h0) ?_
  case h0 =>
    have e7 := Mono.init_get hf (t := 7) (by kernel_rfl)
    clear hd hf
    (go_simp; try with_reducible rfl)
  refine Mono.rgl_val (v := ?v1) rfl Mono.rr (fun ρ a W hR hd hf => ?h1) ?_
  case h1 =>
    have e3 := Mono.init_get hf (t := 3) (by kernel_rfl)
    have hk0 := (HA.out.below hR (by omega) : Cells W _ _) 0 _ rfl
    have hk1 := (HA.out.below hR (by omega) : Cells W _ _) 1 _ rfl
    have hk2 := (HA.out.below hR (by omega) : Cells W _ _) 2 _ rfl
    have hk3 := (HA.out.below hR (by omega) : Cells W _ _) 3 _ rfl
    have hk4 := (HA.out.below hR (by omega) : Cells W _ _) 4 _ rfl
    have hk5 := (HA.out.below hR (by omega) : Cells W _ _) 5 _ rfl
    clear hd hf
    (go_simp; try with_reducible rfl)
  refine Mono.rgl_val (v := ?v2) rfl Mono.rr (fun ρ a W hR hd hf => ?h2) ?_
  case h2 =>
    have e4 := Mono.init_get hf (t := 4) (by kernel_rfl)
    have hk0 := (HB.out.below hR (by omega) : Cells W _ _) 0 _ rfl
    have hk1 := (HB.out.below hR (by omega) : Cells W _ _) 1 _ rfl
    have hk2 := (HB.out.below hR (by omega) : Cells W _ _) 2 _ rfl
    have hk3 := (HB.out.below hR (by omega) : Cells W _ _) 3 _ rfl
    have hk4 := (HB.out.below hR (by omega) : Cells W _ _) 4 _ rfl
    have hk5 := (HB.out.below hR (by omega) : Cells W _ _) 5 _ rfl
    clear hd hf
    (go_simp; try with_reducible rfl)
  refine Mono.rgl_call (fun x _ => x = .int .i64 (T)) rfl Mono.rr (fun _ _ _ h _ => h) (fun ρ a W hR hd hf => ?h3) ?_
  case h3 =>
    have e18 := Mono.dep_val hd hf (t := 18) (k := 1) (by kernel_rfl) rfl
    have e19 := Mono.dep_val hd hf (t := 19) (k := 2) (by kernel_rfl) rfl
    clear hd hf
    refine ⟨_, _, by go_simp; first | rfl | exact ⟨rfl, rfl⟩, ?_⟩
    have hq := refCompare_any y m d h i s y' m' d' h' i' s' W
    rw [HCT.out] at hq
    exact hq.mono (fun e W' ⟨he, hb⟩ => ⟨_, he, hb, rfl⟩)
  refine Mono.rgl_val (v := .bool false) rfl Mono.rr (fun ρ a W hR hd hf => ?h4) ?_
  case h4 =>
    have e17 := Mono.dep_val hd hf (t := 17) (k := 0) (by kernel_rfl) rfl
    have e20 := Mono.dep_val hd hf (t := 20) (k := 3) (by kernel_rfl) rfl
    clear hd hf
    (go_simp; try with_reducible rfl)
  refine Mono.rgl_val (v := .bool false) rfl Mono.rr (fun ρ a W hR hd hf => ?h5) ?_
  case h5 =>
    have e21 := Mono.dep_val hd hf (t := 21) (k := 4) (by kernel_rfl) rfl
    clear hd hf
    (go_simp; try with_reducible rfl)
  refine Mono.rgl_valg (v := ?v6) rfl Mono.rr (fun ρ W hd => Mono.guard_val hd (t := 22) (k := 5) (by kernel_rfl) rfl) (fun ρ a W hR hd hf => ?h6) ?_
  case h6 =>
    have e5 := Mono.init_get hf (t := 5) (by kernel_rfl)
    clear hd hf
    (go_simp; try with_reducible rfl)
  refine Mono.rgl_valg (v := ?v7) rfl Mono.rr (fun ρ W hd => Mono.guard_val hd (t := 22) (k := 5) (by kernel_rfl) rfl) (fun ρ a W hR hd hf => ?h7) ?_
  case h7 =>
    have e23 := Mono.dep_val hd hf (t := 23) (k := 6) (by kernel_rfl) rfl
    have hk := (HM.out.below hR (by omega) : Cells W _ _) 0 _ rfl
    clear hd hf
    (go_simp; try with_reducible rfl)
  refine Mono.rgl_valg (v := ?v8) rfl Mono.rr (fun ρ W hd => Mono.guard_val hd (t := 22) (k := 5) (by kernel_rfl) rfl) (fun ρ a W hR hd hf => ?h8) ?_
  case h8 =>
    have e5 := Mono.init_get hf (t := 5) (by kernel_rfl)
    clear hd hf
    (go_simp; try with_reducible rfl)
  refine Mono.rgl_valg (v := ?v9) rfl Mono.rr (fun ρ W hd => Mono.guard_val hd (t := 22) (k := 5) (by kernel_rfl) rfl) (fun ρ a W hR hd hf => ?h9) ?_
  case h9 =>
    have e25 := Mono.dep_val hd hf (t := 25) (k := 8) (by kernel_rfl) rfl
    have hk := (HM.out.below hR (by omega) : Cells W _ _) 1 _ rfl
    clear hd hf
    (go_simp; try with_reducible rfl)
  refine Mono.rgl_callg (fun x _ => x = .int .i64 (days p q)) rfl Mono.rr (fun _ _ _ h _ => h) (fun ρ W hd => Mono.guard_val hd (t := 22) (k := 5) (by kernel_rfl) rfl) (fun ρ a W hR hd hf => ?h10) ?_
  case h10 =>
    have e24 := Mono.dep_val hd hf (t := 24) (k := 7) (by kernel_rfl) rfl
    have e26 := Mono.dep_val hd hf (t := 26) (k := 9) (by kernel_rfl) rfl
    clear hd hf
    refine ⟨_, _, by go_simp; first | rfl | exact ⟨rfl, rfl⟩, ?_⟩
    exact (days_any _ _ W).mono (fun e W' ⟨he, hw⟩ => ⟨_, he, hw ▸ Mono.rr _, rfl⟩)
  refine Mono.rgl_valg (v := ?v11) rfl Mono.rr (fun ρ W hd => Mono.guard_val hd (t := 22) (k := 5) (by kernel_rfl) rfl) (fun ρ a W hR hd hf => ?h11) ?_
  case h11 =>
    have e5 := Mono.init_get hf (t := 5) (by kernel_rfl)
    clear hd hf
    (go_simp; try with_reducible rfl)
  refine Mono.rgl_valg (v := ?v12) rfl Mono.rr (fun ρ W hd => Mono.guard_val hd (t := 22) (k := 5) (by kernel_rfl) rfl) (fun ρ a W hR hd hf => ?h12) ?_
  case h12 =>
    have e28 := Mono.dep_val hd hf (t := 28) (k := 11) (by kernel_rfl) rfl
    have hk := (HM.out.below hR (by omega) : Cells W _ _) 0 _ rfl
    clear hd hf
    (go_simp; try with_reducible rfl)
  refine Mono.rgl_valg (v := ?v13) rfl Mono.rr (fun ρ W hd => Mono.guard_val hd (t := 22) (k := 5) (by kernel_rfl) rfl) (fun ρ a W hR hd hf => ?h13) ?_
  case h13 =>
    have e5 := Mono.init_get hf (t := 5) (by kernel_rfl)
    clear hd hf
    (go_simp; try with_reducible rfl)
  refine Mono.rgl_valg (v := ?v14) rfl Mono.rr (fun ρ W hd => Mono.guard_val hd (t := 22) (k := 5) (by kernel_rfl) rfl) (fun ρ a W hR hd hf => ?h14) ?_
  case h14 =>
    have e30 := Mono.dep_val hd hf (t := 30) (k := 13) (by kernel_rfl) rfl
    have hk := (HM.out.below hR (by omega) : Cells W _ _) 1 _ rfl
    clear hd hf
    (go_simp; try with_reducible rfl)
  refine Mono.rgl_callg (fun x _ => x = .int .i64 (days p q)) rfl Mono.rr (fun _ _ _ h _ => h) (fun ρ W hd => Mono.guard_val hd (t := 22) (k := 5) (by kernel_rfl) rfl) (fun ρ a W hR hd hf => ?h15) ?_
  case h15 =>
    have e29 := Mono.dep_val hd hf (t := 29) (k := 12) (by kernel_rfl) rfl
    have e31 := Mono.dep_val hd hf (t := 31) (k := 14) (by kernel_rfl) rfl
    clear hd hf
    refine ⟨_, _, by go_simp; first | rfl | exact ⟨rfl, rfl⟩, ?_⟩
    exact (refDays_any _ _ W).mono (fun e W' ⟨he, o, hw⟩ => ⟨_, he, hw ▸ (Below.refl _ _).alloc (Nat.le_refl _) _, rfl⟩)
  refine Mono.rgl_valg (v := .bool false) rfl Mono.rr (fun ρ W hd => Mono.guard_val hd (t := 22) (k := 5) (by kernel_rfl) rfl) (fun ρ a W hR hd hf => ?h16) ?_
  case h16 =>
    have e27 := Mono.dep_val hd hf (t := 27) (k := 10) (by kernel_rfl) rfl
    have e32 := Mono.dep_val hd hf (t := 32) (k := 15) (by kernel_rfl) rfl
    clear hd hf
    (go_simp; try with_reducible rfl)
  refine Mono.rgl_val (v := ?v17) rfl Mono.rr (fun ρ a W hR hd hf => ?h17) ?_
  case h17 =>
    have e22 := Mono.dep_val hd hf (t := 22) (k := 5) (by kernel_rfl) rfl
    have e33 := Mono.dep_val hd hf (t := 33) (k := 16) (by kernel_rfl) rfl
    clear hd hf
    (go_simp; try with_reducible rfl)
  refine Mono.rgl_done rfl (fun ρ W hR ht => ?_)
  obtain ⟨d17, d16, d15, d14, d13, d12, d11, d10, d9, d8, d7, d6, d5, d4, d3, d2, d1, d0, _⟩ := ht
  simp only [List.length_cons, List.length_nil, Nat.reduceAdd] at d0 d1 d2 d3 d4 d5 d6 d7 d8 d9 d10 d11 d12 d13 d14 d15 d16 d17
  simp only [Mono.putAll, Nat.reduceAdd, d0, d1, d2, d3, d4, d5, d6, d7, d8, d9, d10, d11, d12, d13, d14, d15, d16, d17, Act.put, List.setIfInBounds_toArray, List.set_cons_zero, List.set_cons_succ]
  clear d0 d1 d2 d3 d4 d5 d6 d7 d8 d9 d10 d11 d12 d13 d14 d15 d16 d17
  have hs' := hR.size
  have HA := Lib.hid (HA.out.below hR (by omega))
  have HB := Lib.hid (HB.out.below hR (by omega))
  have HM := Lib.hid (HM.out.below hR (by omega))
  have HZ := Lib.hid (HZ.out.trans (hR.mono (by omega)))
  have hz1 : w.heap.size + 2 < W.heap.size := by omega
  clear hR hz0 hs'
  have hz0 := hz1
  clear hz1
  have k0 := HA.out 0 _ rfl
  have k1 := HA.out 1 _ rfl
  have k2 := HA.out 2 _ rfl
  have k3 := HA.out 3 _ rfl
  have k4 := HA.out 4 _ rfl
  have k5 := HA.out 5 _ rfl
  go_wp2_with fail
  refine (HRA.out _).mono ?_
  rintro e w4 ⟨rfl, hb⟩
  have hs' := hb.size
  have HA := Lib.hid (HA.out.below hb (by omega))
  have HB := Lib.hid (HB.out.below hb (by omega))
  have HM := Lib.hid (HM.out.below hb (by omega))
  have HZ := Lib.hid (HZ.out.trans (hb.mono (by omega)))
  have hz : w.heap.size + 2 < w4.heap.size := by omega
  clear hb hs' hz0
  have hz0 := hz
  clear hz
  clear k0 k1 k2 k3 k4 k5
  have l0 := HB.out 0 _ rfl
  have l1 := HB.out 1 _ rfl
  have l2 := HB.out 2 _ rfl
  have l3 := HB.out 3 _ rfl
  have l4 := HB.out 4 _ rfl
  have l5 := HB.out 5 _ rfl
  go_wp2_with fail
  refine (HRB.out _).mono ?_
  rintro e w5 ⟨rfl, hb⟩
  have hs' := hb.size
  have HA := Lib.hid (HA.out.below hb (by omega))
  have HB := Lib.hid (HB.out.below hb (by omega))
  have HM := Lib.hid (HM.out.below hb (by omega))
  have HZ := Lib.hid (HZ.out.trans (hb.mono (by omega)))
  have hz : w.heap.size + 2 < w5.heap.size := by omega
  clear hb hs' hz0
  have hz0 := hz
  clear hz
  go_wp2
  go_ret
  exact ⟨rfl, HZ.out⟩
set_option maxHeartbeats 2000000 in
set_option maxRecDepth 100000 in
theorem order_yes (y m d h i s y' m' d' h' i' s' : Int) (p q : Int) (w : World) (h0 : rightB y m d h i s = true) (h1 : rightB y' m' d' h' i' s' = true) : Calls Try.prog 4 #[.agg #[.int .i64 y, .int .i64 m, .int .i64 d, .int .i64 h, .int .i64 i, .int .i64 s], .agg #[.int .i64 y', .int .i64 m', .int .i64 d', .int .i64 h', .int .i64 i', .int .i64 s'], .agg #[.int .i64 p, .int .i64 q]] w (orderQ w) := by
  have HEA := Lib.hid (fun W => refEncode_any y m d h i s W h0)
  have HEB := Lib.hid (fun W => refEncode_any y' m' d' h' i' s' W h1)
  have HC := Lib.hid (fun W => compare_any y m d h i s y' m' d' h' i' s' W)
  have HRA := Lib.hid (fun W => refRight_any y m d h i s W)
  have HRB := Lib.hid (fun W => refRight_any y' m' d' h' i' s' W)
  have H0 := Lib.hid h0
  have H1 := Lib.hid h1
  rw [h0] at HRA
  rw [h1] at HRB
  clear h0 h1
  have HA := Lib.hid (Cells.new_at w [.int .i64 y, .int .i64 m, .int .i64 d, .int .i64 h, .int .i64 i, .int .i64 s] 23 w.heap.size rfl)
  have HB := Lib.hid (Cells.new_at (w.alloc (.cells [.int .i64 y, .int .i64 m, .int .i64 d, .int .i64 h, .int .i64 i, .int .i64 s].toArray 23)) [.int .i64 y', .int .i64 m', .int .i64 d', .int .i64 h', .int .i64 i', .int .i64 s'] 23 (w.heap.size + 1) (by simp))
  have HM := Lib.hid (Cells.new_at ((w.alloc (.cells [.int .i64 y, .int .i64 m, .int .i64 d, .int .i64 h, .int .i64 i, .int .i64 s].toArray 23)).alloc (.cells [.int .i64 y', .int .i64 m', .int .i64 d', .int .i64 h', .int .i64 i', .int .i64 s'].toArray 23)) [.int .i64 p, .int .i64 q] 37 (w.heap.size + 2) (by simp))
  have HZ : Hid (Below w.heap.size w (((w.alloc (.cells [.int .i64 y, .int .i64 m, .int .i64 d, .int .i64 h, .int .i64 i, .int .i64 s].toArray 23)).alloc (.cells [.int .i64 y', .int .i64 m', .int .i64 d', .int .i64 h', .int .i64 i', .int .i64 s'].toArray 23)).alloc (.cells [.int .i64 p, .int .i64 q].toArray 37))) := (((Below.refl _ _).alloc (Nat.le_refl _) _).alloc (by simp) _).alloc (by simp; omega) _
  go_enter Try.func4, Try.ntmps4
  go_wp2_with fail
  refine (awake_any _).mono ?_
  rintro e w1 ⟨rfl, hb⟩
  have hs := hb.size
  simp only [World.size_alloc] at hs
  have HA := Lib.hid ((HA.out.below ((Below.refl _ _).alloc (Nat.le_refl _) _) (by simp)).below (((Below.refl _ _).alloc (Nat.le_refl _) _).trans (hb.mono (by simp))) (by simp; omega))
  have HB := Lib.hid (HB.out.below (((Below.refl _ _).alloc (Nat.le_refl _) _).trans (hb.mono (by simp))) (by simp))
  have HM := Lib.hid (HM.out.below hb (by simp))
  have HZ := Lib.hid (HZ.out.trans (hb.mono (by simp; omega)))
  have hz0 : w.heap.size + 2 < w1.heap.size := by omega
  clear hs hb
  have k0 := HA.out 0 _ rfl
  have k1 := HA.out 1 _ rfl
  have k2 := HA.out 2 _ rfl
  have k3 := HA.out 3 _ rfl
  have k4 := HA.out 4 _ rfl
  have k5 := HA.out 5 _ rfl
  have l0 := HB.out 0 _ rfl
  have l1 := HB.out 1 _ rfl
  have l2 := HB.out 2 _ rfl
  have l3 := HB.out 3 _ rfl
  have l4 := HB.out 4 _ rfl
  have l5 := HB.out 5 _ rfl
  go_wp2_with fail
  refine (HC.out _).mono ?_
  rintro e w2 ⟨rfl, hb⟩
  have hs' := hb.size
  have HA := Lib.hid (HA.out.below hb (by omega))
  have HB := Lib.hid (HB.out.below hb (by omega))
  have HM := Lib.hid (HM.out.below hb (by omega))
  have HZ := Lib.hid (HZ.out.trans (hb.mono (by omega)))
  have hz : w.heap.size + 2 < w2.heap.size := by omega
  clear hb hs' hz0
  have hz0 := hz
  clear hz
  clear k0 k1 k2 k3 k4 k5
  clear l0 l1 l2 l3 l4 l5
  generalize hcT : cmpT y m d h i s y' m' d' h' i' s' = T at *
  have HCT := Lib.hid hcT
  clear hcT
  go_wp2_with fail
  refine Mono.region_below (by kernel_rfl) (by kernel_rfl) (by kernel_rfl) ?_
  refine Mono.rgl_val (v := ?v0) rfl Mono.rr (fun ρ a W hR hd hf => ?h0) ?_
  case h0 =>
    have e7 := Mono.init_get hf (t := 7) (by kernel_rfl)
    clear hd hf
    (go_simp; try with_reducible rfl)
  refine Mono.rgl_val (v := ?v1) rfl Mono.rr (fun ρ a W hR hd hf => ?h1) ?_
  case h1 =>
    have e3 := Mono.init_get hf (t := 3) (by kernel_rfl)
    have hk0 := (HA.out.below hR (by omega) : Cells W _ _) 0 _ rfl
    have hk1 := (HA.out.below hR (by omega) : Cells W _ _) 1 _ rfl
    have hk2 := (HA.out.below hR (by omega) : Cells W _ _) 2 _ rfl
    have hk3 := (HA.out.below hR (by omega) : Cells W _ _) 3 _ rfl
    have hk4 := (HA.out.below hR (by omega) : Cells W _ _) 4 _ rfl
    have hk5 := (HA.out.below hR (by omega) : Cells W _ _) 5 _ rfl
    clear hd hf
    (go_simp; try with_reducible rfl)
  refine Mono.rgl_val (v := ?v2) rfl Mono.rr (fun ρ a W hR hd hf => ?h2) ?_
  case h2 =>
    have e4 := Mono.init_get hf (t := 4) (by kernel_rfl)
    have hk0 := (HB.out.below hR (by omega) : Cells W _ _) 0 _ rfl
    have hk1 := (HB.out.below hR (by omega) : Cells W _ _) 1 _ rfl
    have hk2 := (HB.out.below hR (by omega) : Cells W _ _) 2 _ rfl
    have hk3 := (HB.out.below hR (by omega) : Cells W _ _) 3 _ rfl
    have hk4 := (HB.out.below hR (by omega) : Cells W _ _) 4 _ rfl
    have hk5 := (HB.out.below hR (by omega) : Cells W _ _) 5 _ rfl
    clear hd hf
    (go_simp; try with_reducible rfl)
  refine Mono.rgl_call (fun x _ => x = .int .i64 (T)) rfl Mono.rr (fun _ _ _ h _ => h) (fun ρ a W hR hd hf => ?h3) ?_
  case h3 =>
    have e18 := Mono.dep_val hd hf (t := 18) (k := 1) (by kernel_rfl) rfl
    have e19 := Mono.dep_val hd hf (t := 19) (k := 2) (by kernel_rfl) rfl
    clear hd hf
    refine ⟨_, _, by go_simp; first | rfl | exact ⟨rfl, rfl⟩, ?_⟩
    have hq := refCompare_any y m d h i s y' m' d' h' i' s' W
    rw [HCT.out] at hq
    exact hq.mono (fun e W' ⟨he, hb⟩ => ⟨_, he, hb, rfl⟩)
  refine Mono.rgl_val (v := .bool false) rfl Mono.rr (fun ρ a W hR hd hf => ?h4) ?_
  case h4 =>
    have e17 := Mono.dep_val hd hf (t := 17) (k := 0) (by kernel_rfl) rfl
    have e20 := Mono.dep_val hd hf (t := 20) (k := 3) (by kernel_rfl) rfl
    clear hd hf
    (go_simp; try with_reducible rfl)
  refine Mono.rgl_val (v := .bool false) rfl Mono.rr (fun ρ a W hR hd hf => ?h5) ?_
  case h5 =>
    have e21 := Mono.dep_val hd hf (t := 21) (k := 4) (by kernel_rfl) rfl
    clear hd hf
    (go_simp; try with_reducible rfl)
  refine Mono.rgl_valg (v := ?v6) rfl Mono.rr (fun ρ W hd => Mono.guard_val hd (t := 22) (k := 5) (by kernel_rfl) rfl) (fun ρ a W hR hd hf => ?h6) ?_
  case h6 =>
    have e5 := Mono.init_get hf (t := 5) (by kernel_rfl)
    clear hd hf
    (go_simp; try with_reducible rfl)
  refine Mono.rgl_valg (v := ?v7) rfl Mono.rr (fun ρ W hd => Mono.guard_val hd (t := 22) (k := 5) (by kernel_rfl) rfl) (fun ρ a W hR hd hf => ?h7) ?_
  case h7 =>
    have e23 := Mono.dep_val hd hf (t := 23) (k := 6) (by kernel_rfl) rfl
    have hk := (HM.out.below hR (by omega) : Cells W _ _) 0 _ rfl
    clear hd hf
    (go_simp; try with_reducible rfl)
  refine Mono.rgl_valg (v := ?v8) rfl Mono.rr (fun ρ W hd => Mono.guard_val hd (t := 22) (k := 5) (by kernel_rfl) rfl) (fun ρ a W hR hd hf => ?h8) ?_
  case h8 =>
    have e5 := Mono.init_get hf (t := 5) (by kernel_rfl)
    clear hd hf
    (go_simp; try with_reducible rfl)
  refine Mono.rgl_valg (v := ?v9) rfl Mono.rr (fun ρ W hd => Mono.guard_val hd (t := 22) (k := 5) (by kernel_rfl) rfl) (fun ρ a W hR hd hf => ?h9) ?_
  case h9 =>
    have e25 := Mono.dep_val hd hf (t := 25) (k := 8) (by kernel_rfl) rfl
    have hk := (HM.out.below hR (by omega) : Cells W _ _) 1 _ rfl
    clear hd hf
    (go_simp; try with_reducible rfl)
  refine Mono.rgl_callg (fun x _ => x = .int .i64 (days p q)) rfl Mono.rr (fun _ _ _ h _ => h) (fun ρ W hd => Mono.guard_val hd (t := 22) (k := 5) (by kernel_rfl) rfl) (fun ρ a W hR hd hf => ?h10) ?_
  case h10 =>
    have e24 := Mono.dep_val hd hf (t := 24) (k := 7) (by kernel_rfl) rfl
    have e26 := Mono.dep_val hd hf (t := 26) (k := 9) (by kernel_rfl) rfl
    clear hd hf
    refine ⟨_, _, by go_simp; first | rfl | exact ⟨rfl, rfl⟩, ?_⟩
    exact (days_any _ _ W).mono (fun e W' ⟨he, hw⟩ => ⟨_, he, hw ▸ Mono.rr _, rfl⟩)
  refine Mono.rgl_valg (v := ?v11) rfl Mono.rr (fun ρ W hd => Mono.guard_val hd (t := 22) (k := 5) (by kernel_rfl) rfl) (fun ρ a W hR hd hf => ?h11) ?_
  case h11 =>
    have e5 := Mono.init_get hf (t := 5) (by kernel_rfl)
    clear hd hf
    (go_simp; try with_reducible rfl)
  refine Mono.rgl_valg (v := ?v12) rfl Mono.rr (fun ρ W hd => Mono.guard_val hd (t := 22) (k := 5) (by kernel_rfl) rfl) (fun ρ a W hR hd hf => ?h12) ?_
  case h12 =>
    have e28 := Mono.dep_val hd hf (t := 28) (k := 11) (by kernel_rfl) rfl
    have hk := (HM.out.below hR (by omega) : Cells W _ _) 0 _ rfl
    clear hd hf
    (go_simp; try with_reducible rfl)
  refine Mono.rgl_valg (v := ?v13) rfl Mono.rr (fun ρ W hd => Mono.guard_val hd (t := 22) (k := 5) (by kernel_rfl) rfl) (fun ρ a W hR hd hf => ?h13) ?_
  case h13 =>
    have e5 := Mono.init_get hf (t := 5) (by kernel_rfl)
    clear hd hf
    (go_simp; try with_reducible rfl)
  refine Mono.rgl_valg (v := ?v14) rfl Mono.rr (fun ρ W hd => Mono.guard_val hd (t := 22) (k := 5) (by kernel_rfl) rfl) (fun ρ a W hR hd hf => ?h14) ?_
  case h14 =>
    have e30 := Mono.dep_val hd hf (t := 30) (k := 13) (by kernel_rfl) rfl
    have hk := (HM.out.below hR (by omega) : Cells W _ _) 1 _ rfl
    clear hd hf
    (go_simp; try with_reducible rfl)
  refine Mono.rgl_callg (fun x _ => x = .int .i64 (days p q)) rfl Mono.rr (fun _ _ _ h _ => h) (fun ρ W hd => Mono.guard_val hd (t := 22) (k := 5) (by kernel_rfl) rfl) (fun ρ a W hR hd hf => ?h15) ?_
  case h15 =>
    have e29 := Mono.dep_val hd hf (t := 29) (k := 12) (by kernel_rfl) rfl
    have e31 := Mono.dep_val hd hf (t := 31) (k := 14) (by kernel_rfl) rfl
    clear hd hf
    refine ⟨_, _, by go_simp; first | rfl | exact ⟨rfl, rfl⟩, ?_⟩
    exact (refDays_any _ _ W).mono (fun e W' ⟨he, o, hw⟩ => ⟨_, he, hw ▸ (Below.refl _ _).alloc (Nat.le_refl _) _, rfl⟩)
  refine Mono.rgl_valg (v := .bool false) rfl Mono.rr (fun ρ W hd => Mono.guard_val hd (t := 22) (k := 5) (by kernel_rfl) rfl) (fun ρ a W hR hd hf => ?h16) ?_
  case h16 =>
    have e27 := Mono.dep_val hd hf (t := 27) (k := 10) (by kernel_rfl) rfl
    have e32 := Mono.dep_val hd hf (t := 32) (k := 15) (by kernel_rfl) rfl
    clear hd hf
    (go_simp; try with_reducible rfl)
  refine Mono.rgl_val (v := ?v17) rfl Mono.rr (fun ρ a W hR hd hf => ?h17) ?_
  case h17 =>
    have e22 := Mono.dep_val hd hf (t := 22) (k := 5) (by kernel_rfl) rfl
    have e33 := Mono.dep_val hd hf (t := 33) (k := 16) (by kernel_rfl) rfl
    clear hd hf
    (go_simp; try with_reducible rfl)
  refine Mono.rgl_done rfl (fun ρ W hR ht => ?_)
  obtain ⟨d17, d16, d15, d14, d13, d12, d11, d10, d9, d8, d7, d6, d5, d4, d3, d2, d1, d0, _⟩ := ht
  simp only [List.length_cons, List.length_nil, Nat.reduceAdd] at d0 d1 d2 d3 d4 d5 d6 d7 d8 d9 d10 d11 d12 d13 d14 d15 d16 d17
  simp only [Mono.putAll, Nat.reduceAdd, d0, d1, d2, d3, d4, d5, d6, d7, d8, d9, d10, d11, d12, d13, d14, d15, d16, d17, Act.put, List.setIfInBounds_toArray, List.set_cons_zero, List.set_cons_succ]
  clear d0 d1 d2 d3 d4 d5 d6 d7 d8 d9 d10 d11 d12 d13 d14 d15 d16 d17
  have hs' := hR.size
  have HA := Lib.hid (HA.out.below hR (by omega))
  have HB := Lib.hid (HB.out.below hR (by omega))
  have HM := Lib.hid (HM.out.below hR (by omega))
  have HZ := Lib.hid (HZ.out.trans (hR.mono (by omega)))
  have hz1 : w.heap.size + 2 < W.heap.size := by omega
  clear hR hz0 hs'
  have hz0 := hz1
  clear hz1
  have k0 := HA.out 0 _ rfl
  have k1 := HA.out 1 _ rfl
  have k2 := HA.out 2 _ rfl
  have k3 := HA.out 3 _ rfl
  have k4 := HA.out 4 _ rfl
  have k5 := HA.out 5 _ rfl
  go_wp2_with fail
  refine (HRA.out _).mono ?_
  rintro e w4 ⟨rfl, hb⟩
  have hs' := hb.size
  have HA := Lib.hid (HA.out.below hb (by omega))
  have HB := Lib.hid (HB.out.below hb (by omega))
  have HM := Lib.hid (HM.out.below hb (by omega))
  have HZ := Lib.hid (HZ.out.trans (hb.mono (by omega)))
  have hz : w.heap.size + 2 < w4.heap.size := by omega
  clear hb hs' hz0
  have hz0 := hz
  clear hz
  clear k0 k1 k2 k3 k4 k5
  have l0 := HB.out 0 _ rfl
  have l1 := HB.out 1 _ rfl
  have l2 := HB.out 2 _ rfl
  have l3 := HB.out 3 _ rfl
  have l4 := HB.out 4 _ rfl
  have l5 := HB.out 5 _ rfl
  go_wp2_with fail
  refine (HRB.out _).mono ?_
  rintro e w5 ⟨rfl, hb⟩
  have hs' := hb.size
  have HA := Lib.hid (HA.out.below hb (by omega))
  have HB := Lib.hid (HB.out.below hb (by omega))
  have HM := Lib.hid (HM.out.below hb (by omega))
  have HZ := Lib.hid (HZ.out.trans (hb.mono (by omega)))
  have hz : w.heap.size + 2 < w5.heap.size := by omega
  clear hb hs' hz0
  have hz0 := hz
  clear hz
  clear l0 l1 l2 l3 l4 l5
  have k0 := HA.out 0 _ rfl
  have k1 := HA.out 1 _ rfl
  have k2 := HA.out 2 _ rfl
  have k3 := HA.out 3 _ rfl
  have k4 := HA.out 4 _ rfl
  have k5 := HA.out 5 _ rfl
  go_wp2_with fail
  refine (HEA.out _).mono ?_
  rintro e w6 ⟨rfl, hb⟩
  have hs' := hb.size
  have HA := Lib.hid (HA.out.below hb (by omega))
  have HB := Lib.hid (HB.out.below hb (by omega))
  have HM := Lib.hid (HM.out.below hb (by omega))
  have HZ := Lib.hid (HZ.out.trans (hb.mono (by omega)))
  have hz : w.heap.size + 2 < w6.heap.size := by omega
  clear hb hs' hz0
  have hz0 := hz
  clear hz
  clear k0 k1 k2 k3 k4 k5
  have l0 := HB.out 0 _ rfl
  have l1 := HB.out 1 _ rfl
  have l2 := HB.out 2 _ rfl
  have l3 := HB.out 3 _ rfl
  have l4 := HB.out 4 _ rfl
  have l5 := HB.out 5 _ rfl
  go_wp2_with fail
  refine (HEB.out _).mono ?_
  rintro e w7 ⟨rfl, hb⟩
  have hs' := hb.size
  have HA := Lib.hid (HA.out.below hb (by omega))
  have HB := Lib.hid (HB.out.below hb (by omega))
  have HM := Lib.hid (HM.out.below hb (by omega))
  have HZ := Lib.hid (HZ.out.trans (hb.mono (by omega)))
  have hz : w.heap.size + 2 < w7.heap.size := by omega
  clear hb hs' hz0
  have hz0 := hz
  clear hz
  clear l0 l1 l2 l3 l4 l5
  have HO := order_law y m d h i s y' m' d' h' i' s' H0.out H1.out
  rw [HCT.out] at HO
  generalize dateOf y m d = X at *
  generalize dateOf y' m' d' = X' at *
  generalize clockOf h i s = Y at *
  generalize clockOf h' i' s' = Y' at *
  clear H0 H1 HCT
  rcases HO with ⟨h1, h2⟩ | ⟨h1, h2, h3⟩ | ⟨h1, h2, h3⟩ | ⟨h1, h2, h3⟩ | ⟨h1, h2⟩
  · have d1 : decide (T < 0) = true := by simpa using h1
    have d2 : decide (X < X') = true := by simpa using h2
    have d3 : (T == 0) = false := by simp; omega
    have d4 : (X == X') = false := by simp; omega
    clear h1 h2
    go_wp2
    go_ret
    exact ⟨rfl, HZ.out⟩
  · subst h2
    have d1 : decide (T < 0) = true := by simpa using h1
    have d2 : decide (Y < Y') = true := by simpa using h3
    have d3 : (T == 0) = false := by simp; omega
    have d4 : (Y == Y') = false := by simp; omega
    clear h1 h3
    go_wp2
    go_ret
    exact ⟨rfl, HZ.out⟩
  · subst h1 h2 h3
    go_wp2
    go_ret
    exact ⟨rfl, HZ.out⟩
  · subst h2
    have d1 : decide (T < 0) = false := by simp; omega
    have d2 : decide (Y < Y') = false := by simp; omega
    have d3 : (T == 0) = false := by simp; omega
    have d4 : (Y == Y') = false := by simp; omega
    clear h1 h3
    go_wp2
    go_ret
    exact ⟨rfl, HZ.out⟩
  · have d1 : decide (T < 0) = false := by simp; omega
    have d2 : decide (X < X') = false := by simp; omega
    have d3 : (T == 0) = false := by simp; omega
    have d4 : (X == X') = false := by simp; omega
    clear h1 h2
    go_wp2
    go_ret
    exact ⟨rfl, HZ.out⟩
theorem order_walk (y m d h i s y' m' d' h' i' s' : Int) (p q : Int) (w : World) : Calls Try.prog 4 #[.agg #[.int .i64 y, .int .i64 m, .int .i64 d, .int .i64 h, .int .i64 i, .int .i64 s], .agg #[.int .i64 y', .int .i64 m', .int .i64 d', .int .i64 h', .int .i64 i', .int .i64 s'], .agg #[.int .i64 p, .int .i64 q]] w fun e w' => e = .returned (.bool true) ∧ Below w.heap.size w w' := by
  cases h0 : rightB y m d h i s with
  | false => exact order_no1 y m d h i s y' m' d' h' i' s' p q w h0
  | true =>
    cases h1 : rightB y' m' d' h' i' s' with
    | false => exact order_no2 y m d h i s y' m' d' h' i' s' p q w h0 h1
    | true => exact order_yes y m d h i s y' m' d' h' i' s' p q w h0 h1
end Go.Proofs.Ytpobmngkafmegaa
