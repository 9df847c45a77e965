/- Contracts of package desc, and of the page's Encode of layer 28. -/
import Derived.Test.YtodjoccdjmmilaaTryD
import Derived.Test.YtodjoccdjmmilaaPut
import Derived.Test.YtodjoccdjmmilaaMonoT
namespace Go.Proofs.Ytodjoccdjmmilaa
open Go.RowKit
def descB (p s : Int) : Bool := decide (0 ≤ p ∧ p ≤ 33554432 ∧ 0 ≤ s ∧ s ≤ 16777216)
theorem descB_no {p s : Int} (h : ¬ (0 ≤ p ∧ p ≤ 33554432 ∧ 0 ≤ s ∧ s ≤ 16777216)) : descB p s = false := decide_eq_false h
theorem descB_yes {p s : Int} (h : 0 ≤ p ∧ p ≤ 33554432 ∧ 0 ≤ s ∧ s ≤ 16777216) : descB p s = true := decide_eq_true h
/-- How many bytes a size has. -/
def wd (g : Bool) : Nat := if g then 8 else 4
theorem wd_bd (g : Bool) : 4 ≤ wd g ∧ wd g ≤ 8 := by cases g <;> decide
theorem width_any (g : Bool) (w : World) : Calls Try.prog 17 #[.bool g] w fun e w' => e = .returned (.int .i64 (wd g : Nat)) ∧ w' = w := by
  cases g
  · go_enter Try.func17, Try.ntmps17
    go_wp2
    go_ret
    exact ⟨rfl, rfl⟩
  · go_enter Try.func17, Try.ntmps17
    go_wp2
    go_ret
    exact ⟨rfl, rfl⟩
theorem len_any (x p s : Int) (g : Bool) (w : World) : Calls Try.prog 10 #[.agg #[.int .u32 x, .int .i64 p, .int .i64 s, .bool g]] w fun e w' => e = .returned (.int .i64 (8 + 2 * (wd g : Nat) : Int)) ∧ Below w.heap.size w w' := by
  have HB := Lib.hid ((Below.refl w.heap.size w).alloc (Nat.le_refl _) (.cells #[.int .u32 x, .int .i64 p, .int .i64 s, .bool g] 24))
  cases g
  · go_enter Try.func10, Try.ntmps10
    go_wp2
    go_ret
    exact ⟨rfl, HB.out⟩
  · go_enter Try.func10, Try.ntmps10
    go_wp2
    go_ret
    exact ⟨rfl, HB.out⟩
theorem dcheck_0 (x p s : Int) (g : Bool) (w : World)  (b0 : p < 0) : Calls Try.prog 9 #[.agg #[.int .u32 x, .int .i64 p, .int .i64 s, .bool g]] w fun e w' => e = .returned (Value.int .i64 13) ∧ Below w.heap.size w w' := by
  have c0 : decide (p < 0) = true := by simp; omega
  have HB := Lib.hid ((Below.refl w.heap.size w).alloc (Nat.le_refl _) (.cells #[.int .u32 x, .int .i64 p, .int .i64 s, .bool g] 24))
  go_enter Try.func9, Try.ntmps9
  go_wp2
  go_ret
  exact ⟨by simp, HB.out⟩
theorem dcheck_1 (x p s : Int) (g : Bool) (w : World) (b0 : 0 ≤ p) (b1 : 33554432 < p) : Calls Try.prog 9 #[.agg #[.int .u32 x, .int .i64 p, .int .i64 s, .bool g]] w fun e w' => e = .returned (Value.int .i64 13) ∧ Below w.heap.size w w' := by
  have c0 : decide (p < 0) = false := by simp; omega
  have c1 : decide (33554432 < p) = true := by simp; omega
  have HB := Lib.hid ((Below.refl w.heap.size w).alloc (Nat.le_refl _) (.cells #[.int .u32 x, .int .i64 p, .int .i64 s, .bool g] 24))
  go_enter Try.func9, Try.ntmps9
  go_wp2
  go_ret
  exact ⟨by simp, HB.out⟩
theorem dcheck_2 (x p s : Int) (g : Bool) (w : World) (b0 : 0 ≤ p) (b1 : p ≤ 33554432) (b2 : s < 0) : Calls Try.prog 9 #[.agg #[.int .u32 x, .int .i64 p, .int .i64 s, .bool g]] w fun e w' => e = .returned (Value.int .i64 13) ∧ Below w.heap.size w w' := by
  have c0 : decide (p < 0) = false := by simp; omega
  have c1 : decide (33554432 < p) = false := by simp; omega
  have c2 : decide (s < 0) = true := by simp; omega
  have HB := Lib.hid ((Below.refl w.heap.size w).alloc (Nat.le_refl _) (.cells #[.int .u32 x, .int .i64 p, .int .i64 s, .bool g] 24))
  go_enter Try.func9, Try.ntmps9
  go_wp2
  go_ret
  exact ⟨by simp, HB.out⟩
theorem dcheck_3 (x p s : Int) (g : Bool) (w : World) (b0 : 0 ≤ p) (b1 : p ≤ 33554432) (b2 : 0 ≤ s) (b3 : 16777216 < s) : Calls Try.prog 9 #[.agg #[.int .u32 x, .int .i64 p, .int .i64 s, .bool g]] w fun e w' => e = .returned (Value.int .i64 13) ∧ Below w.heap.size w w' := by
  have c0 : decide (p < 0) = false := by simp; omega
  have c1 : decide (33554432 < p) = false := by simp; omega
  have c2 : decide (s < 0) = false := by simp; omega
  have c3 : decide (16777216 < s) = true := by simp; omega
  have HB := Lib.hid ((Below.refl w.heap.size w).alloc (Nat.le_refl _) (.cells #[.int .u32 x, .int .i64 p, .int .i64 s, .bool g] 24))
  go_enter Try.func9, Try.ntmps9
  go_wp2
  go_ret
  exact ⟨by simp, HB.out⟩
theorem dcheck_4 (x p s : Int) (g : Bool) (w : World) (b0 : 0 ≤ p) (b1 : p ≤ 33554432) (b2 : 0 ≤ s) (b3 : s ≤ 16777216) : Calls Try.prog 9 #[.agg #[.int .u32 x, .int .i64 p, .int .i64 s, .bool g]] w fun e w' => e = .returned (Value.int .i64 0) ∧ Below w.heap.size w w' := by
  have c0 : decide (p < 0) = false := by simp; omega
  have c1 : decide (33554432 < p) = false := by simp; omega
  have c2 : decide (s < 0) = false := by simp; omega
  have c3 : decide (16777216 < s) = false := by simp; omega
  have HB := Lib.hid ((Below.refl w.heap.size w).alloc (Nat.le_refl _) (.cells #[.int .u32 x, .int .i64 p, .int .i64 s, .bool g] 24))
  go_enter Try.func9, Try.ntmps9
  go_wp2
  go_ret
  exact ⟨by simp, HB.out⟩
theorem dcheck_any (x p s : Int) (g : Bool) (w : World) : Calls Try.prog 9 #[.agg #[.int .u32 x, .int .i64 p, .int .i64 s, .bool g]] w fun e w' => e = .returned (.int .i64 (if descB p s then 0 else 13)) ∧ Below w.heap.size w w' := by
  by_cases b0 : p < 0
  · rw [descB_no (by omega)]; exact dcheck_0 x p s g w  b0
  by_cases b1 : 33554432 < p
  · rw [descB_no (by omega)]; exact dcheck_1 x p s g w (by omega) b1
  by_cases b2 : s < 0
  · rw [descB_no (by omega)]; exact dcheck_2 x p s g w (by omega) (by omega) b2
  by_cases b3 : 16777216 < s
  · rw [descB_no (by omega)]; exact dcheck_3 x p s g w (by omega) (by omega) (by omega) b3
  rw [descB_yes (by omega)]; exact dcheck_4 x p s g w (by omega) (by omega) (by omega) (by omega)
/-- A descriptor's record. -/
def descBytes (x p s : Nat) (g : Bool) : List UInt8 := ((byt 4 134695760 ++ byt 4 x) ++ byt (wd g) p) ++ byt (wd g) s
theorem descBytes_len (x p s : Nat) (g : Bool) : (descBytes x p s g).length = 8 + 2 * wd g := by
  simp [descBytes, byt_length]; omega
theorem denc_no (x p s : Int) (g : Bool) (w : World) (h : descB p s = false) : Calls Try.prog 6 #[.agg #[.int .u32 x, .int .i64 p, .int .i64 s, .bool g]] w fun e w' => e = .returned (.tuple #[.slice none 0 0, .int .i64 13]) ∧ Below w.heap.size w w' := by
  have HC := Lib.hid (fun W => dcheck_any x p s g W)
  rw [h] at HC
  clear h
  have HB := Lib.hid ((Below.refl w.heap.size w).alloc (Nat.le_refl _) (.cells #[.int .u32 x, .int .i64 p, .int .i64 s, .bool g] 24))
  go_enter Try.func6, Try.ntmps6
  go_wp2_with fail
  refine (HC.out _).mono ?_
  rintro e w1 ⟨rfl, hb⟩
  have HB := Lib.hid (HB.out.trans (hb.mono (by simp)))
  clear hb
  go_wp2
  go_ret2
  exact ⟨rfl, HB.out⟩
theorem hstB2 {l : List UInt8} : ∀ v W W', (fun v (W : World) => Byt W W.heap.size v l) v W → Below W.heap.size W W' → (fun v (W : World) => Byt W W.heap.size v l) v W' := fun _ _ _ h hb => (h.below hb).mono hb.size
set_option maxHeartbeats 2000000 in
theorem denc_yes (x p s : Nat) (g : Bool) (w : World) (hx : x < 4294967296) (h : descB p s = true) : Calls Try.prog 6 #[.agg #[.int .u32 (x : Nat), .int .i64 (p : Nat), .int .i64 (s : Nat), .bool g]] w fun e w' => ∃ v, e = .returned (.tuple #[v, .int .i64 0]) ∧ Byt w' w'.heap.size v (descBytes x p s g) ∧ Below w.heap.size w w' := by
  have HC := Lib.hid (fun W => dcheck_any x p s g W)
  rw [h] at HC
  have h' := of_decide_eq_true h
  have hw8 := wd_bd g
  have q_x : IntKind.u64.wrap (x : Int) = x := by rw [IntKind.wrap_u64]; omega
  have q_p : IntKind.u64.wrap (p : Int) = p := by rw [IntKind.wrap_u64]; omega
  have q_s : IntKind.u64.wrap (s : Int) = s := by rw [IntKind.wrap_u64]; omega
  have HQX := Lib.hid q_x
  clear h
  have HA := Lib.hid (Cells.new_at w [.int .u32 (x : Nat), .int .i64 (p : Nat), .int .i64 (s : Nat), .bool g] 24 w.heap.size rfl)
  have HB := Lib.hid ((Below.refl w.heap.size w).alloc (Nat.le_refl _) (.cells #[.int .u32 (x : Nat), .int .i64 (p : Nat), .int .i64 (s : Nat), .bool g] 24))
  have H1 := Lib.hid (fun W => append_yes (B := 0) none 0 [] 4 134695760 W (.inl ⟨none, 0, rfl, rfl, fun _ => rfl⟩) (Nat.zero_le _) (by decide) (by decide) (by decide) (by decide))
  have H2 := Lib.hid (fun (a : Option Addr) (c : Nat) (W : World) (hy : Byt W W.heap.size (.slice a (byt 4 134695760).length c) (byt 4 134695760)) => append_yes a c (byt 4 134695760) 4 x W hy (Nat.le_refl _) (by decide) (by decide) (by decide) (by omega))
  rw [List.nil_append] at H1
  go_enter Try.func6, Try.ntmps6
  go_wp2_with fail
  refine (HC.out _).mono ?_
  rintro e w1 ⟨rfl, hb⟩
  have hs1 := hb.size
  simp only [World.size_alloc] at hs1
  have HA := Lib.hid (HA.out.below hb (by simp))
  have HB := Lib.hid (HB.out.trans (hb.mono (by simp)))
  clear hb
  go_wp2_with fail
  refine (H1.out _).mono ?_
  rintro e w2 ⟨u2, rfl, ho, hb⟩
  have hs2 := hb.size
  have HU := Lib.hid (Byt.of_own ho)
  have HA := Lib.hid (HA.out.below hb (by omega))
  have HB := Lib.hid (HB.out.trans (hb.mono (by omega)))
  clear hb ho
  obtain ⟨a2, c2, hu2⟩ := HU.out.slice
  subst hu2
  have k0 := HA.out 0 _ rfl
  go_wp2_with fail
  refine (H2.out _ _ _ HU.out).mono ?_
  rintro e w3 ⟨u3, rfl, ho, hb⟩
  have hs3 := hb.size
  have HU := Lib.hid (Byt.of_own ho)
  have HA := Lib.hid (HA.out.below hb (by omega))
  have HB := Lib.hid (HB.out.trans (hb.mono (by omega)))
  clear hb ho k0
  generalize hX1 : byt 4 134695760 ++ byt 4 x = X1 at HU
  have hx1 : X1.length ≤ 8 := by rw [← hX1]; simp [byt_length]
  have HX1 := Lib.hid hX1
  clear hX1
  obtain ⟨au, cu, hu3⟩ := HU.out.slice
  subst hu3
  go_wp2_with fail
  refine Mono.region_below (by kernel_rfl) (by kernel_rfl) (by kernel_rfl) ?_
  refine Mono.rgl_val (v := ?v0) rfl Mono.rr (fun ρ a W hR hd hf => ?h0) ?_
  case h0 =>
    have e5 := Mono.init_get hf (t := 5) (by kernel_rfl)
    clear hd hf
    (go_simp; try with_reducible rfl)
  refine Mono.rgl_val (v := ?v1) rfl Mono.rr (fun ρ a W hR hd hf => ?h1) ?_
  case h1 =>
    have e1 := Mono.init_get hf (t := 1) (by kernel_rfl)
    clear hd hf
    (go_simp; try with_reducible rfl)
  refine Mono.rgl_val (v := ?v2) rfl Mono.rr (fun ρ a W hR hd hf => ?h2) ?_
  case h2 =>
    have e18 := Mono.dep_val hd hf (t := 18) (k := 1) (by kernel_rfl) rfl
    have hk := (HA.out.below hR (by omega) : Cells W _ _) 3 _ rfl
    clear hd hf
    (go_simp; try with_reducible rfl)
  refine Mono.rgl_call (fun x _ => x = .int .i64 ((wd g : Nat) : Int)) rfl Mono.rr (fun _ _ _ h _ => h) (fun ρ a W hR hd hf => ?h3) ?_
  case h3 =>
    have e19 := Mono.dep_val hd hf (t := 19) (k := 2) (by kernel_rfl) rfl
    clear hd hf
    refine ⟨_, _, by go_simp; first | rfl | exact ⟨rfl, rfl⟩, ?_⟩
    exact (width_any g W).mono (fun e W' ⟨he, hw⟩ => ⟨_, he, hw ▸ Mono.rr _, rfl⟩)
  refine Mono.rgl_val (v := ?v4) rfl Mono.rr (fun ρ a W hR hd hf => ?h4) ?_
  case h4 =>
    have e1 := Mono.init_get hf (t := 1) (by kernel_rfl)
    clear hd hf
    (go_simp; try with_reducible rfl)
  refine Mono.rgl_val (v := ?v5) rfl Mono.rr (fun ρ a W hR hd hf => ?h5) ?_
  case h5 =>
    have e21 := Mono.dep_val hd hf (t := 21) (k := 4) (by kernel_rfl) rfl
    have hk := (HA.out.below hR (by omega) : Cells W _ _) 1 _ rfl
    clear hd hf
    (go_simp; try with_reducible rfl)
  refine Mono.rgl_val (v := ?v6) rfl Mono.rr (fun ρ a W hR hd hf => ?h6) ?_
  case h6 =>
    have e22 := Mono.dep_val hd hf (t := 22) (k := 5) (by kernel_rfl) rfl
    have hq := q_p
    clear hd hf
    (go_simp; try with_reducible rfl)
  refine Mono.rgl_call (fun z W => Byt W W.heap.size z ((X1) ++ byt (wd g) p)) rfl Mono.rr hstB2 (fun ρ a W hR hd hf => ?h7) ?_
  case h7 =>
    have e17 := Mono.dep_val hd hf (t := 17) (k := 0) (by kernel_rfl) rfl
    have e20 := Mono.dep_val hd hf (t := 20) (k := 3) (by kernel_rfl) rfl
    have e23 := Mono.dep_val hd hf (t := 23) (k := 6) (by kernel_rfl) rfl
    clear hd hf
    refine ⟨_, _, by go_simp; first | rfl | exact ⟨rfl, rfl⟩, ?_⟩
    exact (append_yes au cu (X1) (wd g) p W ((HU.out.below hR).mono hR.size) (Nat.le_refl _) (by omega) (by omega) (by omega) (by omega)).mono (fun e W' ⟨v', he, ho, hb⟩ => ⟨v', he, hb, Byt.of_own ho⟩)
  refine Mono.rgl_pred (fun z W => Byt W W.heap.size z ((X1) ++ byt (wd g) p)) rfl hstB2 (fun ρ a W hR hd hf => ?h8) ?_
  case h8 =>
    obtain ⟨e24, d7⟩ := Mono.dep_get hd hf (t := 24) (k := 7) (by kernel_rfl)
    replace d7 : (fun z W => Byt W W.heap.size z ((X1) ++ byt (wd g) p)) (ρ 7) W := d7
    clear hd hf
    exact ⟨ρ 7, W, by go_simp, Mono.rr W, d7⟩
  refine Mono.rgl_done rfl (fun ρ W hR ht => ?_)
  obtain ⟨d8, d7, d6, d5, d4, d3, d2, d1, d0, _⟩ := ht
  replace d7 : (fun z W => Byt W W.heap.size z ((X1) ++ byt (wd g) p)) (ρ 7) W := d7
  replace d8 : (fun z W => Byt W W.heap.size z ((X1) ++ byt (wd g) p)) (ρ 8) W := d8
  simp only [List.length_cons, List.length_nil, Nat.reduceAdd] at d0 d1 d2 d3 d4 d5 d6
  simp only [Mono.putAll, Nat.reduceAdd, d0, d1, d2, d3, d4, d5, d6, Act.put, List.setIfInBounds_toArray, List.set_cons_zero, List.set_cons_succ]
  clear d0 d1 d2 d3 d4 d5 d6
  generalize ρ 7 = r7 at *
  generalize ρ 8 = r8 at *
  have hs4 := hR.size
  have HU := Lib.hid d8
  have HA := Lib.hid (HA.out.below hR (by omega))
  have HB := Lib.hid (HB.out.trans (hR.mono (by omega)))
  clear hR d7 d8
  generalize hX2 : X1 ++ byt (wd g) p = X2 at HU
  have hx2 : X2.length ≤ 16 := by rw [← hX2]; simp [byt_length]; omega
  have HX2 := Lib.hid hX2
  clear hX2
  obtain ⟨w4, rfl⟩ : ∃ z, z = W := ⟨_, rfl⟩
  obtain ⟨au2, cu2, hu4⟩ := HU.out.slice
  subst hu4
  go_wp2_with fail
  refine Mono.region_below (by kernel_rfl) (by kernel_rfl) (by kernel_rfl) ?_
  refine Mono.rgl_val (v := ?vq0) rfl Mono.rr (fun ρ a W hR hd hf => ?hq0) ?_
  case hq0 =>
    have e5 := Mono.init_get hf (t := 5) (by kernel_rfl)
    clear hd hf
    (go_simp; try with_reducible rfl)
  refine Mono.rgl_val (v := ?vq1) rfl Mono.rr (fun ρ a W hR hd hf => ?hq1) ?_
  case hq1 =>
    have e1 := Mono.init_get hf (t := 1) (by kernel_rfl)
    clear hd hf
    (go_simp; try with_reducible rfl)
  refine Mono.rgl_val (v := ?vq2) rfl Mono.rr (fun ρ a W hR hd hf => ?hq2) ?_
  case hq2 =>
    have e26 := Mono.dep_val hd hf (t := 26) (k := 1) (by kernel_rfl) rfl
    have hk := (HA.out.below hR (by omega) : Cells W _ _) 3 _ rfl
    clear hd hf
    (go_simp; try with_reducible rfl)
  refine Mono.rgl_call (fun x _ => x = .int .i64 ((wd g : Nat) : Int)) rfl Mono.rr (fun _ _ _ h _ => h) (fun ρ a W hR hd hf => ?hq3) ?_
  case hq3 =>
    have e27 := Mono.dep_val hd hf (t := 27) (k := 2) (by kernel_rfl) rfl
    clear hd hf
    refine ⟨_, _, by go_simp; first | rfl | exact ⟨rfl, rfl⟩, ?_⟩
    exact (width_any g W).mono (fun e W' ⟨he, hw⟩ => ⟨_, he, hw ▸ Mono.rr _, rfl⟩)
  refine Mono.rgl_val (v := ?vq4) rfl Mono.rr (fun ρ a W hR hd hf => ?hq4) ?_
  case hq4 =>
    have e1 := Mono.init_get hf (t := 1) (by kernel_rfl)
    clear hd hf
    (go_simp; try with_reducible rfl)
  refine Mono.rgl_val (v := ?vq5) rfl Mono.rr (fun ρ a W hR hd hf => ?hq5) ?_
  case hq5 =>
    have e29 := Mono.dep_val hd hf (t := 29) (k := 4) (by kernel_rfl) rfl
    have hk := (HA.out.below hR (by omega) : Cells W _ _) 2 _ rfl
    clear hd hf
    (go_simp; try with_reducible rfl)
  refine Mono.rgl_val (v := ?vq6) rfl Mono.rr (fun ρ a W hR hd hf => ?hq6) ?_
  case hq6 =>
    have e30 := Mono.dep_val hd hf (t := 30) (k := 5) (by kernel_rfl) rfl
    have hq := q_s
    clear hd hf
    (go_simp; try with_reducible rfl)
  refine Mono.rgl_call (fun z W => Byt W W.heap.size z ((X2) ++ byt (wd g) s)) rfl Mono.rr hstB2 (fun ρ a W hR hd hf => ?hq7) ?_
  case hq7 =>
    have e25 := Mono.dep_val hd hf (t := 25) (k := 0) (by kernel_rfl) rfl
    have e28 := Mono.dep_val hd hf (t := 28) (k := 3) (by kernel_rfl) rfl
    have e31 := Mono.dep_val hd hf (t := 31) (k := 6) (by kernel_rfl) rfl
    clear hd hf
    refine ⟨_, _, by go_simp; first | rfl | exact ⟨rfl, rfl⟩, ?_⟩
    exact (append_yes au2 cu2 (X2) (wd g) s W ((HU.out.below hR).mono hR.size) (Nat.le_refl _) (by omega) (by omega) (by omega) (by omega)).mono (fun e W' ⟨v', he, ho, hb⟩ => ⟨v', he, hb, Byt.of_own ho⟩)
  refine Mono.rgl_pred (fun z W => Byt W W.heap.size z ((X2) ++ byt (wd g) s)) rfl hstB2 (fun ρ a W hR hd hf => ?hq8) ?_
  case hq8 =>
    obtain ⟨e32, d7⟩ := Mono.dep_get hd hf (t := 32) (k := 7) (by kernel_rfl)
    replace d7 : (fun z W => Byt W W.heap.size z ((X2) ++ byt (wd g) s)) (ρ 7) W := d7
    clear hd hf
    exact ⟨ρ 7, W, by go_simp, Mono.rr W, d7⟩
  refine Mono.rgl_done rfl (fun ρ W hR ht => ?_)
  obtain ⟨dq8, dq7, dq6, dq5, dq4, dq3, dq2, dq1, dq0, _⟩ := ht
  replace dq7 : (fun z W => Byt W W.heap.size z ((X2) ++ byt (wd g) s)) (ρ 7) W := dq7
  replace dq8 : (fun z W => Byt W W.heap.size z ((X2) ++ byt (wd g) s)) (ρ 8) W := dq8
  simp only [List.length_cons, List.length_nil, Nat.reduceAdd] at dq0 dq1 dq2 dq3 dq4 dq5 dq6
  simp only [Mono.putAll, Nat.reduceAdd, dq0, dq1, dq2, dq3, dq4, dq5, dq6, Act.put, List.setIfInBounds_toArray, List.set_cons_zero, List.set_cons_succ]
  clear dq0 dq1 dq2 dq3 dq4 dq5 dq6
  generalize ρ 7 = rq7 at *
  generalize ρ 8 = rq8 at *
  have HU := Lib.hid dq8
  have HB := Lib.hid (HB.out.trans (hR.mono (by omega)))
  clear hR dq7 dq8
  go_wp2
  go_ret2
  refine ⟨_, rfl, ?_, HB.out⟩
  have := HU.out
  rw [← HX2.out, ← HX1.out] at this
  exact this
end Go.Proofs.Ytodjoccdjmmilaa
