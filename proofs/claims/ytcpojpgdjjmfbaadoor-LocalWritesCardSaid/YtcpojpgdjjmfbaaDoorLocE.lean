/- LocalWrites: the walk. -/
import Derived.Test.YtcpojpgdjjmfbaaDoorLocD
set_option linter.unusedVariables false
set_option linter.unusedSimpArgs false
namespace Go.Proofs.YtcpojpgdjjmfbaaDoor
set_option maxRecDepth 100000
open Go.RowKit
set_option maxHeartbeats 1000000 in
theorem lw_long (nm : ByteArray) (y mo da ho mi se me cr pk sz : Int) (gw gl : Bool) (w : World) (hA : Amb w) (hm : nm.size ≤ 9223372036854775807) (h : 1000 < nm.size) : Calls Tryd.prog 3 #[.agg #[.string nm, .int .i64 y, .int .i64 mo, .int .i64 da, .int .i64 ho, .int .i64 mi, .int .i64 se, .int .i64 me, .int .u32 cr, .int .i64 pk, .int .i64 sz, .bool gw, .bool gl]] w (CQ (.bool true) w) := by
  have HK := Lib.hid (awake_any (w.alloc (.cells #[.string nm, .int .i64 y, .int .i64 mo, .int .i64 da, .int .i64 ho, .int .i64 mi, .int .i64 se, .int .i64 me, .int .u32 cr, .int .i64 pk, .int .i64 sz, .bool gw, .bool gl] 26)) (hA.below ((Below.refl w.heap.size w).alloc (Nat.le_refl _) _)))
  have HB := Lib.hid ((Below.refl w.heap.size w).alloc (Nat.le_refl _) (.cells #[.string nm, .int .i64 y, .int .i64 mo, .int .i64 da, .int .i64 ho, .int .i64 mi, .int .i64 se, .int .i64 me, .int .u32 cr, .int .i64 pk, .int .i64 sz, .bool gw, .bool gl] 26))
  have HC := Lib.hid (Cells.new_at w [.string nm, .int .i64 y, .int .i64 mo, .int .i64 da, .int .i64 ho, .int .i64 mi, .int .i64 se, .int .i64 me, .int .u32 cr, .int .i64 pk, .int .i64 sz, .bool gw, .bool gl] 26 w.heap.size rfl)
  clear hA
  go_enter Tryd.func3, Tryd.ntmps3
  go_wp2_with (fail)
  refine HK.out.mono ?_
  rintro e w1 ⟨rfl, b1⟩
  have HB1 := Lib.hid (HB.out.trans (b1.mono (by simp)))
  have k0 := (HC.out.below b1 (by simp)) 0 _ rfl
  clear b1
  go_wp2_with (fail)
  go_ret
  exact ⟨rfl, HB1.out⟩
set_option maxHeartbeats 4000000 in
theorem lw_no (nm : ByteArray) (y mo da ho mi se me cr pk sz : Int) (gw gl : Bool) (c : Int) (f v : Int) (w : World) (hA : Amb w) (hs : nm.size ≤ 1000) (hc : (c != 0) = true) 
    (H1 : Hid (∀ W, Amb W → Calls Tryd.prog 10 #[.agg #[.string nm, .int .i64 y, .int .i64 mo, .int .i64 da, .int .i64 ho, .int .i64 mi, .int .i64 se, .int .i64 me, .int .u32 cr, .int .i64 pk, .int .i64 sz, .bool gw, .bool gl]] W (CQ (.int .i64 c) W))) (H2 : Hid (∀ W, Calls Tryd.prog 8 #[.agg #[.string nm, .int .i64 y, .int .i64 mo, .int .i64 da, .int .i64 ho, .int .i64 mi, .int .i64 se, .int .i64 me, .int .u32 cr, .int .i64 pk, .int .i64 sz, .bool gw, .bool gl]] W (CQ (.int .i64 c) W)))
    (H3 : Hid (∀ W, Calls Tryd.prog 7 #[.agg #[.string nm, .int .i64 y, .int .i64 mo, .int .i64 da, .int .i64 ho, .int .i64 mi, .int .i64 se, .int .i64 me, .int .u32 cr, .int .i64 pk, .int .i64 sz, .bool gw, .bool gl]] W (CQ (.agg #[.string nm, .int .i64 y, .int .i64 mo, .int .i64 da, .int .i64 ho, .int .i64 mi, .int .i64 se, .int .i64 me, .int .u32 cr, .int .i64 pk, .int .i64 sz, .bool gw, .bool gl]) W)))
    (H4 : Hid (∀ W, Amb W → Calls Tryd.prog 9 #[.agg #[.string nm, .int .i64 y, .int .i64 mo, .int .i64 da, .int .i64 ho, .int .i64 mi, .int .i64 se, .int .i64 me, .int .u32 cr, .int .i64 pk, .int .i64 sz, .bool gw, .bool gl]] W (CQ (.tuple #[.slice none 0 0, .int .i64 c]) W)))
    (H5 : Hid (∀ W, Calls Tryd.prog 11 #[.agg #[.string nm, .int .i64 y, .int .i64 mo, .int .i64 da, .int .i64 ho, .int .i64 mi, .int .i64 se, .int .i64 me, .int .u32 cr, .int .i64 pk, .int .i64 sz, .bool gw, .bool gl]] W (CQ (.int .i64 v) W))) (H6 : Hid (∀ W, Calls Tryd.prog 12 #[.agg #[.string nm, .int .i64 y, .int .i64 mo, .int .i64 da, .int .i64 ho, .int .i64 mi, .int .i64 se, .int .i64 me, .int .u32 cr, .int .i64 pk, .int .i64 sz, .bool gw, .bool gl]] W (CQ (.int .i64 v) W)))
    (H7 : Hid (∀ W, Calls Tryd.prog 13 #[.agg #[.string nm, .int .i64 y, .int .i64 mo, .int .i64 da, .int .i64 ho, .int .i64 mi, .int .i64 se, .int .i64 me, .int .u32 cr, .int .i64 pk, .int .i64 sz, .bool gw, .bool gl]] W (CQ (.int .i64 f) W))) (H8 : Hid (∀ W, Calls Tryd.prog 14 #[.agg #[.string nm, .int .i64 y, .int .i64 mo, .int .i64 da, .int .i64 ho, .int .i64 mi, .int .i64 se, .int .i64 me, .int .u32 cr, .int .i64 pk, .int .i64 sz, .bool gw, .bool gl]] W (CQ (.int .i64 f) W)))
     : Calls Tryd.prog 3 #[.agg #[.string nm, .int .i64 y, .int .i64 mo, .int .i64 da, .int .i64 ho, .int .i64 mi, .int .i64 se, .int .i64 me, .int .u32 cr, .int .i64 pk, .int .i64 sz, .bool gw, .bool gl]] w (CQ (.bool true) w) := by
  have HK := Lib.hid (awake_any (w.alloc (.cells #[.string nm, .int .i64 y, .int .i64 mo, .int .i64 da, .int .i64 ho, .int .i64 mi, .int .i64 se, .int .i64 me, .int .u32 cr, .int .i64 pk, .int .i64 sz, .bool gw, .bool gl] 26)) (hA.below ((Below.refl w.heap.size w).alloc (Nat.le_refl _) _)))
  have HB := Lib.hid ((Below.refl w.heap.size w).alloc (Nat.le_refl _) (.cells #[.string nm, .int .i64 y, .int .i64 mo, .int .i64 da, .int .i64 ho, .int .i64 mi, .int .i64 se, .int .i64 me, .int .u32 cr, .int .i64 pk, .int .i64 sz, .bool gw, .bool gl] 26))
  have HC := Lib.hid (Cells.new_at w [.string nm, .int .i64 y, .int .i64 mo, .int .i64 da, .int .i64 ho, .int .i64 mi, .int .i64 se, .int .i64 me, .int .u32 cr, .int .i64 pk, .int .i64 sz, .bool gw, .bool gl] 26 w.heap.size rfl)
  have HA := Lib.hid hA
  clear hA
  have xv : (v != v) = false := by simp
  have xf : (f != f) = false := by simp
  have xc : (c != c) = false := by simp
  go_enter Tryd.func3, Tryd.ntmps3
  go_wp2_with (fail)
  refine HK.out.mono ?_
  rintro e w1 ⟨rfl, b1⟩
  have hz1 := b1.size
  simp only [World.size_alloc] at hz1
  have HB1 := Lib.hid (HB.out.trans (b1.mono (by simp)))
  have HC1 := Lib.hid (HC.out.below b1 (by simp))
  clear b1 HB HC HK
  have k0 := HC1.out 0 _ rfl
  have k1 := HC1.out 1 _ rfl
  have k2 := HC1.out 2 _ rfl
  have k3 := HC1.out 3 _ rfl
  have k4 := HC1.out 4 _ rfl
  have k5 := HC1.out 5 _ rfl
  have k6 := HC1.out 6 _ rfl
  have k7 := HC1.out 7 _ rfl
  have k8 := HC1.out 8 _ rfl
  have k9 := HC1.out 9 _ rfl
  have k10 := HC1.out 10 _ rfl
  have k11 := HC1.out 11 _ rfl
  have k12 := HC1.out 12 _ rfl
  go_wp2_with (fail)
  refine (H3.out _).mono ?_
  rintro e w2 ⟨rfl, b2⟩
  have hz2 := b2.size
  have HB2 := Lib.hid ((HB1.out.trans (b2.mono (by omega))).alloc (by omega) (.cells #[.string nm, .int .i64 y, .int .i64 mo, .int .i64 da, .int .i64 ho, .int .i64 mi, .int .i64 se, .int .i64 me, .int .u32 cr, .int .i64 pk, .int .i64 sz, .bool gw, .bool gl] 28))
  have HC2 := Lib.hid ((HC1.out.below b2 (by omega)).below ((Below.refl w2.heap.size w2).alloc (Nat.le_refl _) (.cells #[.string nm, .int .i64 y, .int .i64 mo, .int .i64 da, .int .i64 ho, .int .i64 mi, .int .i64 se, .int .i64 me, .int .u32 cr, .int .i64 pk, .int .i64 sz, .bool gw, .bool gl] 28)) (by omega))
  have HT2 := Lib.hid (Cells.new_at w2 [.string nm, .int .i64 y, .int .i64 mo, .int .i64 da, .int .i64 ho, .int .i64 mi, .int .i64 se, .int .i64 me, .int .u32 cr, .int .i64 pk, .int .i64 sz, .bool gw, .bool gl] 28 w2.heap.size rfl)
  clear b2 HB1 HC1 k0 k1 k2 k3 k4 k5 k6 k7 k8 k9 k10 k11 k12
  go_wp2_with (fail)
  refine (H2.out _).mono ?_
  rintro e w3 ⟨rfl, b3⟩
  have hz3 := b3.size
  simp only [World.size_alloc] at hz3
  have HB3 := Lib.hid (HB2.out.trans (b3.mono (by simp; omega)))
  have HC3 := Lib.hid (HC2.out.below b3 (by simp; omega))
  have HT3 := Lib.hid (HT2.out.below b3 (by simp))
  clear b3 HB2 HC2 HT2
  have k0 := HC3.out 0 _ rfl
  have k1 := HC3.out 1 _ rfl
  have k2 := HC3.out 2 _ rfl
  have k3 := HC3.out 3 _ rfl
  have k4 := HC3.out 4 _ rfl
  have k5 := HC3.out 5 _ rfl
  have k6 := HC3.out 6 _ rfl
  have k7 := HC3.out 7 _ rfl
  have k8 := HC3.out 8 _ rfl
  have k9 := HC3.out 9 _ rfl
  have k10 := HC3.out 10 _ rfl
  have k11 := HC3.out 11 _ rfl
  have k12 := HC3.out 12 _ rfl
  go_wp2_with (fail)
  refine (H4.out _ (HA.out.below HB3.out)).mono ?_
  rintro e w4 ⟨rfl, b4⟩
  have hz4 := b4.size
  have HB4 := Lib.hid (HB3.out.trans (b4.mono (by omega)))
  have HC4 := Lib.hid (HC3.out.below b4 (by omega))
  have HT4 := Lib.hid (HT3.out.below b4 (by omega))
  clear b4 HB3 HC3 HT3 k0 k1 k2 k3 k4 k5 k6 k7 k8 k9 k10 k11 k12
  go_wp2_with (fail)
  refine Mono.region_below (by kernel_rfl) (by kernel_rfl) (by kernel_rfl) ?_
  refine Mono.rgl_val (v := ?v0) rfl Mono.rr (fun ρ a W hR hd hf => ?h0) ?_
  case h0 =>
    have e1 := Mono.init_get hf (t := 1) (by kernel_rfl)
    have hk0 := (HC4.out.below hR (by omega) : Cells W _ _) 0 _ rfl
    have hk1 := (HC4.out.below hR (by omega) : Cells W _ _) 1 _ rfl
    have hk2 := (HC4.out.below hR (by omega) : Cells W _ _) 2 _ rfl
    have hk3 := (HC4.out.below hR (by omega) : Cells W _ _) 3 _ rfl
    have hk4 := (HC4.out.below hR (by omega) : Cells W _ _) 4 _ rfl
    have hk5 := (HC4.out.below hR (by omega) : Cells W _ _) 5 _ rfl
    have hk6 := (HC4.out.below hR (by omega) : Cells W _ _) 6 _ rfl
    have hk7 := (HC4.out.below hR (by omega) : Cells W _ _) 7 _ rfl
    have hk8 := (HC4.out.below hR (by omega) : Cells W _ _) 8 _ rfl
    have hk9 := (HC4.out.below hR (by omega) : Cells W _ _) 9 _ rfl
    have hk10 := (HC4.out.below hR (by omega) : Cells W _ _) 10 _ rfl
    have hk11 := (HC4.out.below hR (by omega) : Cells W _ _) 11 _ rfl
    have hk12 := (HC4.out.below hR (by omega) : Cells W _ _) 12 _ rfl
    clear hd hf
    (go_simp; try with_reducible rfl)
  refine Mono.rgl_call (fun x _ => x = .int .i64 c) rfl Mono.rr (fun _ _ _ h _ => h) (fun ρ a W hR hd hf => ?h1) ?_
  case h1 =>
    have e22 := Mono.dep_val hd hf (t := 22) (k := 0) (by kernel_rfl) rfl
    clear hd hf
    refine ⟨_, _, by go_simp; first | rfl | exact ⟨rfl, rfl⟩, ?_⟩
    exact (H1.out W (HA.out.below (HB4.out.trans (hR.mono (by omega))))).mono (fun e W' ⟨he, hb⟩ => ⟨_, he, hb, rfl⟩)
  refine Mono.rgl_val (v := ?v2) rfl Mono.rr (fun ρ a W hR hd hf => ?h2) ?_
  case h2 =>
    have e4 := Mono.init_get hf (t := 4) (by kernel_rfl)
    clear hd hf
    (go_simp; try with_reducible rfl)
  refine Mono.rgl_val (v := .bool false) rfl Mono.rr (fun ρ a W hR hd hf => ?h3) ?_
  case h3 =>
    have e23 := Mono.dep_val hd hf (t := 23) (k := 1) (by kernel_rfl) rfl
    have e24 := Mono.dep_val hd hf (t := 24) (k := 2) (by kernel_rfl) rfl
    clear hd hf
    (go_simp; try with_reducible rfl)
  refine Mono.rgl_val (v := .bool false) rfl Mono.rr (fun ρ a W hR hd hf => ?h4) ?_
  case h4 =>
    have e25 := Mono.dep_val hd hf (t := 25) (k := 3) (by kernel_rfl) rfl
    clear hd hf
    (go_simp; try with_reducible rfl)
  refine Mono.rgl_valg (v := ?v5) rfl Mono.rr (fun ρ W hd => Mono.guard_val hd (t := 26) (k := 4) (by kernel_rfl) rfl) (fun ρ a W hR hd hf => ?h5) ?_
  case h5 =>
    have e1 := Mono.init_get hf (t := 1) (by kernel_rfl)
    have hk0 := (HC4.out.below hR (by omega) : Cells W _ _) 0 _ rfl
    have hk1 := (HC4.out.below hR (by omega) : Cells W _ _) 1 _ rfl
    have hk2 := (HC4.out.below hR (by omega) : Cells W _ _) 2 _ rfl
    have hk3 := (HC4.out.below hR (by omega) : Cells W _ _) 3 _ rfl
    have hk4 := (HC4.out.below hR (by omega) : Cells W _ _) 4 _ rfl
    have hk5 := (HC4.out.below hR (by omega) : Cells W _ _) 5 _ rfl
    have hk6 := (HC4.out.below hR (by omega) : Cells W _ _) 6 _ rfl
    have hk7 := (HC4.out.below hR (by omega) : Cells W _ _) 7 _ rfl
    have hk8 := (HC4.out.below hR (by omega) : Cells W _ _) 8 _ rfl
    have hk9 := (HC4.out.below hR (by omega) : Cells W _ _) 9 _ rfl
    have hk10 := (HC4.out.below hR (by omega) : Cells W _ _) 10 _ rfl
    have hk11 := (HC4.out.below hR (by omega) : Cells W _ _) 11 _ rfl
    have hk12 := (HC4.out.below hR (by omega) : Cells W _ _) 12 _ rfl
    clear hd hf
    (go_simp; try with_reducible rfl)
  refine Mono.rgl_callg (fun x _ => x = .int .i64 v) rfl Mono.rr (fun _ _ _ h _ => h) (fun ρ W hd => Mono.guard_val hd (t := 26) (k := 4) (by kernel_rfl) rfl) (fun ρ a W hR hd hf => ?h6) ?_
  case h6 =>
    have e27 := Mono.dep_val hd hf (t := 27) (k := 5) (by kernel_rfl) rfl
    clear hd hf
    refine ⟨_, _, by go_simp; first | rfl | exact ⟨rfl, rfl⟩, ?_⟩
    exact (H5.out W).mono (fun e W' ⟨he, hb⟩ => ⟨_, he, hb, rfl⟩)
  refine Mono.rgl_valg (v := ?v7) rfl Mono.rr (fun ρ W hd => Mono.guard_val hd (t := 26) (k := 4) (by kernel_rfl) rfl) (fun ρ a W hR hd hf => ?h7) ?_
  case h7 =>
    have e3 := Mono.init_get hf (t := 3) (by kernel_rfl)
    have hk0 := (HT4.out.below hR (by omega) : Cells W _ _) 0 _ rfl
    have hk1 := (HT4.out.below hR (by omega) : Cells W _ _) 1 _ rfl
    have hk2 := (HT4.out.below hR (by omega) : Cells W _ _) 2 _ rfl
    have hk3 := (HT4.out.below hR (by omega) : Cells W _ _) 3 _ rfl
    have hk4 := (HT4.out.below hR (by omega) : Cells W _ _) 4 _ rfl
    have hk5 := (HT4.out.below hR (by omega) : Cells W _ _) 5 _ rfl
    have hk6 := (HT4.out.below hR (by omega) : Cells W _ _) 6 _ rfl
    have hk7 := (HT4.out.below hR (by omega) : Cells W _ _) 7 _ rfl
    have hk8 := (HT4.out.below hR (by omega) : Cells W _ _) 8 _ rfl
    have hk9 := (HT4.out.below hR (by omega) : Cells W _ _) 9 _ rfl
    have hk10 := (HT4.out.below hR (by omega) : Cells W _ _) 10 _ rfl
    have hk11 := (HT4.out.below hR (by omega) : Cells W _ _) 11 _ rfl
    have hk12 := (HT4.out.below hR (by omega) : Cells W _ _) 12 _ rfl
    clear hd hf
    (go_simp; try with_reducible rfl)
  refine Mono.rgl_callg (fun x _ => x = .int .i64 v) rfl Mono.rr (fun _ _ _ h _ => h) (fun ρ W hd => Mono.guard_val hd (t := 26) (k := 4) (by kernel_rfl) rfl) (fun ρ a W hR hd hf => ?h8) ?_
  case h8 =>
    have e29 := Mono.dep_val hd hf (t := 29) (k := 7) (by kernel_rfl) rfl
    clear hd hf
    refine ⟨_, _, by go_simp; first | rfl | exact ⟨rfl, rfl⟩, ?_⟩
    exact (H6.out W).mono (fun e W' ⟨he, hb⟩ => ⟨_, he, hb, rfl⟩)
  refine Mono.rgl_valg (v := .bool false) rfl Mono.rr (fun ρ W hd => Mono.guard_val hd (t := 26) (k := 4) (by kernel_rfl) rfl) (fun ρ a W hR hd hf => ?h9) ?_
  case h9 =>
    have e28 := Mono.dep_val hd hf (t := 28) (k := 6) (by kernel_rfl) rfl
    have e30 := Mono.dep_val hd hf (t := 30) (k := 8) (by kernel_rfl) rfl
    clear hd hf
    (go_simp; try with_reducible rfl)
  refine Mono.rgl_val (v := .bool false) rfl Mono.rr (fun ρ a W hR hd hf => ?h10) ?_
  case h10 =>
    have e26 := Mono.dep_val hd hf (t := 26) (k := 4) (by kernel_rfl) rfl
    have e31 := Mono.dep_val hd hf (t := 31) (k := 9) (by kernel_rfl) rfl
    clear hd hf
    (go_simp; try with_reducible rfl)
  refine Mono.rgl_val (v := .bool false) rfl Mono.rr (fun ρ a W hR hd hf => ?h11) ?_
  case h11 =>
    have e32 := Mono.dep_val hd hf (t := 32) (k := 10) (by kernel_rfl) rfl
    clear hd hf
    (go_simp; try with_reducible rfl)
  refine Mono.rgl_valg (v := ?v12) rfl Mono.rr (fun ρ W hd => Mono.guard_val hd (t := 33) (k := 11) (by kernel_rfl) rfl) (fun ρ a W hR hd hf => ?h12) ?_
  case h12 =>
    have e1 := Mono.init_get hf (t := 1) (by kernel_rfl)
    have hk0 := (HC4.out.below hR (by omega) : Cells W _ _) 0 _ rfl
    have hk1 := (HC4.out.below hR (by omega) : Cells W _ _) 1 _ rfl
    have hk2 := (HC4.out.below hR (by omega) : Cells W _ _) 2 _ rfl
    have hk3 := (HC4.out.below hR (by omega) : Cells W _ _) 3 _ rfl
    have hk4 := (HC4.out.below hR (by omega) : Cells W _ _) 4 _ rfl
    have hk5 := (HC4.out.below hR (by omega) : Cells W _ _) 5 _ rfl
    have hk6 := (HC4.out.below hR (by omega) : Cells W _ _) 6 _ rfl
    have hk7 := (HC4.out.below hR (by omega) : Cells W _ _) 7 _ rfl
    have hk8 := (HC4.out.below hR (by omega) : Cells W _ _) 8 _ rfl
    have hk9 := (HC4.out.below hR (by omega) : Cells W _ _) 9 _ rfl
    have hk10 := (HC4.out.below hR (by omega) : Cells W _ _) 10 _ rfl
    have hk11 := (HC4.out.below hR (by omega) : Cells W _ _) 11 _ rfl
    have hk12 := (HC4.out.below hR (by omega) : Cells W _ _) 12 _ rfl
    clear hd hf
    (go_simp; try with_reducible rfl)
  refine Mono.rgl_callg (fun x _ => x = .int .i64 f) rfl Mono.rr (fun _ _ _ h _ => h) (fun ρ W hd => Mono.guard_val hd (t := 33) (k := 11) (by kernel_rfl) rfl) (fun ρ a W hR hd hf => ?h13) ?_
  case h13 =>
    have e34 := Mono.dep_val hd hf (t := 34) (k := 12) (by kernel_rfl) rfl
    clear hd hf
    refine ⟨_, _, by go_simp; first | rfl | exact ⟨rfl, rfl⟩, ?_⟩
    exact (H7.out W).mono (fun e W' ⟨he, hb⟩ => ⟨_, he, hb, rfl⟩)
  refine Mono.rgl_valg (v := ?v14) rfl Mono.rr (fun ρ W hd => Mono.guard_val hd (t := 33) (k := 11) (by kernel_rfl) rfl) (fun ρ a W hR hd hf => ?h14) ?_
  case h14 =>
    have e3 := Mono.init_get hf (t := 3) (by kernel_rfl)
    have hk0 := (HT4.out.below hR (by omega) : Cells W _ _) 0 _ rfl
    have hk1 := (HT4.out.below hR (by omega) : Cells W _ _) 1 _ rfl
    have hk2 := (HT4.out.below hR (by omega) : Cells W _ _) 2 _ rfl
    have hk3 := (HT4.out.below hR (by omega) : Cells W _ _) 3 _ rfl
    have hk4 := (HT4.out.below hR (by omega) : Cells W _ _) 4 _ rfl
    have hk5 := (HT4.out.below hR (by omega) : Cells W _ _) 5 _ rfl
    have hk6 := (HT4.out.below hR (by omega) : Cells W _ _) 6 _ rfl
    have hk7 := (HT4.out.below hR (by omega) : Cells W _ _) 7 _ rfl
    have hk8 := (HT4.out.below hR (by omega) : Cells W _ _) 8 _ rfl
    have hk9 := (HT4.out.below hR (by omega) : Cells W _ _) 9 _ rfl
    have hk10 := (HT4.out.below hR (by omega) : Cells W _ _) 10 _ rfl
    have hk11 := (HT4.out.below hR (by omega) : Cells W _ _) 11 _ rfl
    have hk12 := (HT4.out.below hR (by omega) : Cells W _ _) 12 _ rfl
    clear hd hf
    (go_simp; try with_reducible rfl)
  refine Mono.rgl_callg (fun x _ => x = .int .i64 f) rfl Mono.rr (fun _ _ _ h _ => h) (fun ρ W hd => Mono.guard_val hd (t := 33) (k := 11) (by kernel_rfl) rfl) (fun ρ a W hR hd hf => ?h15) ?_
  case h15 =>
    have e36 := Mono.dep_val hd hf (t := 36) (k := 14) (by kernel_rfl) rfl
    clear hd hf
    refine ⟨_, _, by go_simp; first | rfl | exact ⟨rfl, rfl⟩, ?_⟩
    exact (H8.out W).mono (fun e W' ⟨he, hb⟩ => ⟨_, he, hb, rfl⟩)
  refine Mono.rgl_valg (v := .bool false) rfl Mono.rr (fun ρ W hd => Mono.guard_val hd (t := 33) (k := 11) (by kernel_rfl) rfl) (fun ρ a W hR hd hf => ?h16) ?_
  case h16 =>
    have e35 := Mono.dep_val hd hf (t := 35) (k := 13) (by kernel_rfl) rfl
    have e37 := Mono.dep_val hd hf (t := 37) (k := 15) (by kernel_rfl) rfl
    clear hd hf
    (go_simp; try with_reducible rfl)
  refine Mono.rgl_val (v := .bool false) rfl Mono.rr (fun ρ a W hR hd hf => ?h17) ?_
  case h17 =>
    have e33 := Mono.dep_val hd hf (t := 33) (k := 11) (by kernel_rfl) rfl
    have e38 := Mono.dep_val hd hf (t := 38) (k := 16) (by kernel_rfl) rfl
    clear hd hf
    (go_simp; try with_reducible rfl)
  refine Mono.rgl_done rfl (fun ρ W hR ht => ?_)
  obtain ⟨d17, d16, d15, d14, d13, d12, d11, d10, d9, d8, d7, d6, d5, d4, d3, d2, d1, d0, _⟩ := ht
  simp only [List.length_cons, List.length_nil, Nat.reduceAdd] at d0 d1 d2 d3 d4 d5 d6 d7 d8 d9 d10 d11 d12 d13 d14 d15 d16 d17
  simp only [Mono.putAll, Nat.reduceAdd, d0, d1, d2, d3, d4, d5, d6, d7, d8, d9, d10, d11, d12, d13, d14, d15, d16, d17, Act.put, List.setIfInBounds_toArray, List.set_cons_zero, List.set_cons_succ]
  clear d0 d1 d2 d3 d4 d5 d6 d7 d8 d9 d10 d11 d12 d13 d14 d15 d16 d17
  have hz5 := hR.size
  have HB5 := Lib.hid (HB4.out.trans (hR.mono (by omega)))
  have HT5 := Lib.hid (HT4.out.below hR (by omega))
  clear hR HB4 HC4 HT4
  obtain ⟨w5, rfl⟩ : ∃ z, z = W := ⟨_, rfl⟩
  go_wp2_with (fail)
  have xq : (c == c) = true := by simp
  go_wp2_with (fail)
  go_ret
  exact ⟨rfl, HB5.out⟩
set_option maxHeartbeats 4000000 in
theorem lw_yes (nm : ByteArray) (y mo da ho mi se : Int) (me cr pk sz : Nat) (gw gl : Bool) (l : List UInt8) (f v : Int) (w : World) (hA : Amb w) (hs : nm.size ≤ 1000) 
    (H1 : Hid (∀ W, Amb W → Calls Tryd.prog 10 #[.agg #[.string nm, .int .i64 y, .int .i64 mo, .int .i64 da, .int .i64 ho, .int .i64 mi, .int .i64 se, .int .i64 (me : Nat), .int .u32 (cr : Nat), .int .i64 (pk : Nat), .int .i64 (sz : Nat), .bool gw, .bool gl]] W (CQ (.int .i64 0) W))) (H2 : Hid (∀ W, Calls Tryd.prog 8 #[.agg #[.string nm, .int .i64 y, .int .i64 mo, .int .i64 da, .int .i64 ho, .int .i64 mi, .int .i64 se, .int .i64 (me : Nat), .int .u32 (cr : Nat), .int .i64 (pk : Nat), .int .i64 (sz : Nat), .bool gw, .bool gl]] W (CQ (.int .i64 0) W)))
    (H3 : Hid (∀ W, Calls Tryd.prog 7 #[.agg #[.string nm, .int .i64 y, .int .i64 mo, .int .i64 da, .int .i64 ho, .int .i64 mi, .int .i64 se, .int .i64 (me : Nat), .int .u32 (cr : Nat), .int .i64 (pk : Nat), .int .i64 (sz : Nat), .bool gw, .bool gl]] W (CQ (.agg #[.string nm, .int .i64 y, .int .i64 mo, .int .i64 da, .int .i64 ho, .int .i64 mi, .int .i64 se, .int .i64 (me : Nat), .int .u32 (cr : Nat), .int .i64 (pk : Nat), .int .i64 (sz : Nat), .bool gw, .bool gl]) W)))
    (H4 : Hid (∀ W, Amb W → Calls Tryd.prog 9 #[.agg #[.string nm, .int .i64 y, .int .i64 mo, .int .i64 da, .int .i64 ho, .int .i64 mi, .int .i64 se, .int .i64 (me : Nat), .int .u32 (cr : Nat), .int .i64 (pk : Nat), .int .i64 (sz : Nat), .bool gw, .bool gl]] W fun e w' => ∃ v, e = .returned (.tuple #[v, .int .i64 0]) ∧ OB W.heap.size w' v l ∧ Below W.heap.size W w'))
    (H5 : Hid (∀ W, Calls Tryd.prog 11 #[.agg #[.string nm, .int .i64 y, .int .i64 mo, .int .i64 da, .int .i64 ho, .int .i64 mi, .int .i64 se, .int .i64 (me : Nat), .int .u32 (cr : Nat), .int .i64 (pk : Nat), .int .i64 (sz : Nat), .bool gw, .bool gl]] W (CQ (.int .i64 v) W))) (H6 : Hid (∀ W, Calls Tryd.prog 12 #[.agg #[.string nm, .int .i64 y, .int .i64 mo, .int .i64 da, .int .i64 ho, .int .i64 mi, .int .i64 se, .int .i64 (me : Nat), .int .u32 (cr : Nat), .int .i64 (pk : Nat), .int .i64 (sz : Nat), .bool gw, .bool gl]] W (CQ (.int .i64 v) W)))
    (H7 : Hid (∀ W, Calls Tryd.prog 13 #[.agg #[.string nm, .int .i64 y, .int .i64 mo, .int .i64 da, .int .i64 ho, .int .i64 mi, .int .i64 se, .int .i64 (me : Nat), .int .u32 (cr : Nat), .int .i64 (pk : Nat), .int .i64 (sz : Nat), .bool gw, .bool gl]] W (CQ (.int .i64 f) W))) (H8 : Hid (∀ W, Calls Tryd.prog 14 #[.agg #[.string nm, .int .i64 y, .int .i64 mo, .int .i64 da, .int .i64 ho, .int .i64 mi, .int .i64 se, .int .i64 (me : Nat), .int .u32 (cr : Nat), .int .i64 (pk : Nat), .int .i64 (sz : Nat), .bool gw, .bool gl]] W (CQ (.int .i64 f) W)))
    (H9 : Hid (∀ W, Calls Tryd.prog 15 #[.agg #[.string nm, .int .i64 y, .int .i64 mo, .int .i64 da, .int .i64 ho, .int .i64 mi, .int .i64 se, .int .i64 (me : Nat), .int .u32 (cr : Nat), .int .i64 (pk : Nat), .int .i64 (sz : Nat), .bool gw, .bool gl]] W fun e w' => ∃ v, e = .returned v ∧ OB W.heap.size w' v l ∧ Below W.heap.size W w')) : Calls Tryd.prog 3 #[.agg #[.string nm, .int .i64 y, .int .i64 mo, .int .i64 da, .int .i64 ho, .int .i64 mi, .int .i64 se, .int .i64 (me : Nat), .int .u32 (cr : Nat), .int .i64 (pk : Nat), .int .i64 (sz : Nat), .bool gw, .bool gl]] w (CQ (.bool true) w) := by
  have HK := Lib.hid (awake_any (w.alloc (.cells #[.string nm, .int .i64 y, .int .i64 mo, .int .i64 da, .int .i64 ho, .int .i64 mi, .int .i64 se, .int .i64 (me : Nat), .int .u32 (cr : Nat), .int .i64 (pk : Nat), .int .i64 (sz : Nat), .bool gw, .bool gl] 26)) (hA.below ((Below.refl w.heap.size w).alloc (Nat.le_refl _) _)))
  have HB := Lib.hid ((Below.refl w.heap.size w).alloc (Nat.le_refl _) (.cells #[.string nm, .int .i64 y, .int .i64 mo, .int .i64 da, .int .i64 ho, .int .i64 mi, .int .i64 se, .int .i64 (me : Nat), .int .u32 (cr : Nat), .int .i64 (pk : Nat), .int .i64 (sz : Nat), .bool gw, .bool gl] 26))
  have HC := Lib.hid (Cells.new_at w [.string nm, .int .i64 y, .int .i64 mo, .int .i64 da, .int .i64 ho, .int .i64 mi, .int .i64 se, .int .i64 (me : Nat), .int .u32 (cr : Nat), .int .i64 (pk : Nat), .int .i64 (sz : Nat), .bool gw, .bool gl] 26 w.heap.size rfl)
  have HA := Lib.hid hA
  clear hA
  have xv : (v != v) = false := by simp
  have xf : (f != f) = false := by simp
  
  go_enter Tryd.func3, Tryd.ntmps3
  go_wp2_with (fail)
  refine HK.out.mono ?_
  rintro e w1 ⟨rfl, b1⟩
  have hz1 := b1.size
  simp only [World.size_alloc] at hz1
  have HB1 := Lib.hid (HB.out.trans (b1.mono (by simp)))
  have HC1 := Lib.hid (HC.out.below b1 (by simp))
  clear b1 HB HC HK
  have k0 := HC1.out 0 _ rfl
  have k1 := HC1.out 1 _ rfl
  have k2 := HC1.out 2 _ rfl
  have k3 := HC1.out 3 _ rfl
  have k4 := HC1.out 4 _ rfl
  have k5 := HC1.out 5 _ rfl
  have k6 := HC1.out 6 _ rfl
  have k7 := HC1.out 7 _ rfl
  have k8 := HC1.out 8 _ rfl
  have k9 := HC1.out 9 _ rfl
  have k10 := HC1.out 10 _ rfl
  have k11 := HC1.out 11 _ rfl
  have k12 := HC1.out 12 _ rfl
  go_wp2_with (fail)
  refine (H3.out _).mono ?_
  rintro e w2 ⟨rfl, b2⟩
  have hz2 := b2.size
  have HB2 := Lib.hid ((HB1.out.trans (b2.mono (by omega))).alloc (by omega) (.cells #[.string nm, .int .i64 y, .int .i64 mo, .int .i64 da, .int .i64 ho, .int .i64 mi, .int .i64 se, .int .i64 (me : Nat), .int .u32 (cr : Nat), .int .i64 (pk : Nat), .int .i64 (sz : Nat), .bool gw, .bool gl] 28))
  have HC2 := Lib.hid ((HC1.out.below b2 (by omega)).below ((Below.refl w2.heap.size w2).alloc (Nat.le_refl _) (.cells #[.string nm, .int .i64 y, .int .i64 mo, .int .i64 da, .int .i64 ho, .int .i64 mi, .int .i64 se, .int .i64 (me : Nat), .int .u32 (cr : Nat), .int .i64 (pk : Nat), .int .i64 (sz : Nat), .bool gw, .bool gl] 28)) (by omega))
  have HT2 := Lib.hid (Cells.new_at w2 [.string nm, .int .i64 y, .int .i64 mo, .int .i64 da, .int .i64 ho, .int .i64 mi, .int .i64 se, .int .i64 (me : Nat), .int .u32 (cr : Nat), .int .i64 (pk : Nat), .int .i64 (sz : Nat), .bool gw, .bool gl] 28 w2.heap.size rfl)
  clear b2 HB1 HC1 k0 k1 k2 k3 k4 k5 k6 k7 k8 k9 k10 k11 k12
  go_wp2_with (fail)
  refine (H2.out _).mono ?_
  rintro e w3 ⟨rfl, b3⟩
  have hz3 := b3.size
  simp only [World.size_alloc] at hz3
  have HB3 := Lib.hid (HB2.out.trans (b3.mono (by simp; omega)))
  have HC3 := Lib.hid (HC2.out.below b3 (by simp; omega))
  have HT3 := Lib.hid (HT2.out.below b3 (by simp))
  clear b3 HB2 HC2 HT2
  have k0 := HC3.out 0 _ rfl
  have k1 := HC3.out 1 _ rfl
  have k2 := HC3.out 2 _ rfl
  have k3 := HC3.out 3 _ rfl
  have k4 := HC3.out 4 _ rfl
  have k5 := HC3.out 5 _ rfl
  have k6 := HC3.out 6 _ rfl
  have k7 := HC3.out 7 _ rfl
  have k8 := HC3.out 8 _ rfl
  have k9 := HC3.out 9 _ rfl
  have k10 := HC3.out 10 _ rfl
  have k11 := HC3.out 11 _ rfl
  have k12 := HC3.out 12 _ rfl
  go_wp2_with (fail)
  refine (H4.out _ (HA.out.below HB3.out)).mono ?_
  rintro e w4 ⟨u4, rfl, ho, b4⟩
  have HY := Lib.hid (OB.byt ho)
  clear ho
  have hz4 := b4.size
  have HB4 := Lib.hid (HB3.out.trans (b4.mono (by omega)))
  have HC4 := Lib.hid (HC3.out.below b4 (by omega))
  have HT4 := Lib.hid (HT3.out.below b4 (by omega))
  clear b4 HB3 HC3 HT3 k0 k1 k2 k3 k4 k5 k6 k7 k8 k9 k10 k11 k12
  go_wp2_with (fail)
  refine Mono.region_below (by kernel_rfl) (by kernel_rfl) (by kernel_rfl) ?_
  refine Mono.rgl_val (v := ?v0) rfl Mono.rr (fun ρ a W hR hd hf => ?h0) ?_
  case h0 =>
    have e1 := Mono.init_get hf (t := 1) (by kernel_rfl)
    have hk0 := (HC4.out.below hR (by omega) : Cells W _ _) 0 _ rfl
    have hk1 := (HC4.out.below hR (by omega) : Cells W _ _) 1 _ rfl
    have hk2 := (HC4.out.below hR (by omega) : Cells W _ _) 2 _ rfl
    have hk3 := (HC4.out.below hR (by omega) : Cells W _ _) 3 _ rfl
    have hk4 := (HC4.out.below hR (by omega) : Cells W _ _) 4 _ rfl
    have hk5 := (HC4.out.below hR (by omega) : Cells W _ _) 5 _ rfl
    have hk6 := (HC4.out.below hR (by omega) : Cells W _ _) 6 _ rfl
    have hk7 := (HC4.out.below hR (by omega) : Cells W _ _) 7 _ rfl
    have hk8 := (HC4.out.below hR (by omega) : Cells W _ _) 8 _ rfl
    have hk9 := (HC4.out.below hR (by omega) : Cells W _ _) 9 _ rfl
    have hk10 := (HC4.out.below hR (by omega) : Cells W _ _) 10 _ rfl
    have hk11 := (HC4.out.below hR (by omega) : Cells W _ _) 11 _ rfl
    have hk12 := (HC4.out.below hR (by omega) : Cells W _ _) 12 _ rfl
    clear hd hf
    (go_simp; try with_reducible rfl)
  refine Mono.rgl_call (fun x _ => x = .int .i64 0) rfl Mono.rr (fun _ _ _ h _ => h) (fun ρ a W hR hd hf => ?h1) ?_
  case h1 =>
    have e22 := Mono.dep_val hd hf (t := 22) (k := 0) (by kernel_rfl) rfl
    clear hd hf
    refine ⟨_, _, by go_simp; first | rfl | exact ⟨rfl, rfl⟩, ?_⟩
    exact (H1.out W (HA.out.below (HB4.out.trans (hR.mono (by omega))))).mono (fun e W' ⟨he, hb⟩ => ⟨_, he, hb, rfl⟩)
  refine Mono.rgl_val (v := ?v2) rfl Mono.rr (fun ρ a W hR hd hf => ?h2) ?_
  case h2 =>
    have e4 := Mono.init_get hf (t := 4) (by kernel_rfl)
    clear hd hf
    (go_simp; try with_reducible rfl)
  refine Mono.rgl_val (v := .bool false) rfl Mono.rr (fun ρ a W hR hd hf => ?h3) ?_
  case h3 =>
    have e23 := Mono.dep_val hd hf (t := 23) (k := 1) (by kernel_rfl) rfl
    have e24 := Mono.dep_val hd hf (t := 24) (k := 2) (by kernel_rfl) rfl
    clear hd hf
    (go_simp; try with_reducible rfl)
  refine Mono.rgl_val (v := .bool false) rfl Mono.rr (fun ρ a W hR hd hf => ?h4) ?_
  case h4 =>
    have e25 := Mono.dep_val hd hf (t := 25) (k := 3) (by kernel_rfl) rfl
    clear hd hf
    (go_simp; try with_reducible rfl)
  refine Mono.rgl_valg (v := ?v5) rfl Mono.rr (fun ρ W hd => Mono.guard_val hd (t := 26) (k := 4) (by kernel_rfl) rfl) (fun ρ a W hR hd hf => ?h5) ?_
  case h5 =>
    have e1 := Mono.init_get hf (t := 1) (by kernel_rfl)
    have hk0 := (HC4.out.below hR (by omega) : Cells W _ _) 0 _ rfl
    have hk1 := (HC4.out.below hR (by omega) : Cells W _ _) 1 _ rfl
    have hk2 := (HC4.out.below hR (by omega) : Cells W _ _) 2 _ rfl
    have hk3 := (HC4.out.below hR (by omega) : Cells W _ _) 3 _ rfl
    have hk4 := (HC4.out.below hR (by omega) : Cells W _ _) 4 _ rfl
    have hk5 := (HC4.out.below hR (by omega) : Cells W _ _) 5 _ rfl
    have hk6 := (HC4.out.below hR (by omega) : Cells W _ _) 6 _ rfl
    have hk7 := (HC4.out.below hR (by omega) : Cells W _ _) 7 _ rfl
    have hk8 := (HC4.out.below hR (by omega) : Cells W _ _) 8 _ rfl
    have hk9 := (HC4.out.below hR (by omega) : Cells W _ _) 9 _ rfl
    have hk10 := (HC4.out.below hR (by omega) : Cells W _ _) 10 _ rfl
    have hk11 := (HC4.out.below hR (by omega) : Cells W _ _) 11 _ rfl
    have hk12 := (HC4.out.below hR (by omega) : Cells W _ _) 12 _ rfl
    clear hd hf
    (go_simp; try with_reducible rfl)
  refine Mono.rgl_callg (fun x _ => x = .int .i64 v) rfl Mono.rr (fun _ _ _ h _ => h) (fun ρ W hd => Mono.guard_val hd (t := 26) (k := 4) (by kernel_rfl) rfl) (fun ρ a W hR hd hf => ?h6) ?_
  case h6 =>
    have e27 := Mono.dep_val hd hf (t := 27) (k := 5) (by kernel_rfl) rfl
    clear hd hf
    refine ⟨_, _, by go_simp; first | rfl | exact ⟨rfl, rfl⟩, ?_⟩
    exact (H5.out W).mono (fun e W' ⟨he, hb⟩ => ⟨_, he, hb, rfl⟩)
  refine Mono.rgl_valg (v := ?v7) rfl Mono.rr (fun ρ W hd => Mono.guard_val hd (t := 26) (k := 4) (by kernel_rfl) rfl) (fun ρ a W hR hd hf => ?h7) ?_
  case h7 =>
    have e3 := Mono.init_get hf (t := 3) (by kernel_rfl)
    have hk0 := (HT4.out.below hR (by omega) : Cells W _ _) 0 _ rfl
    have hk1 := (HT4.out.below hR (by omega) : Cells W _ _) 1 _ rfl
    have hk2 := (HT4.out.below hR (by omega) : Cells W _ _) 2 _ rfl
    have hk3 := (HT4.out.below hR (by omega) : Cells W _ _) 3 _ rfl
    have hk4 := (HT4.out.below hR (by omega) : Cells W _ _) 4 _ rfl
    have hk5 := (HT4.out.below hR (by omega) : Cells W _ _) 5 _ rfl
    have hk6 := (HT4.out.below hR (by omega) : Cells W _ _) 6 _ rfl
    have hk7 := (HT4.out.below hR (by omega) : Cells W _ _) 7 _ rfl
    have hk8 := (HT4.out.below hR (by omega) : Cells W _ _) 8 _ rfl
    have hk9 := (HT4.out.below hR (by omega) : Cells W _ _) 9 _ rfl
    have hk10 := (HT4.out.below hR (by omega) : Cells W _ _) 10 _ rfl
    have hk11 := (HT4.out.below hR (by omega) : Cells W _ _) 11 _ rfl
    have hk12 := (HT4.out.below hR (by omega) : Cells W _ _) 12 _ rfl
    clear hd hf
    (go_simp; try with_reducible rfl)
  refine Mono.rgl_callg (fun x _ => x = .int .i64 v) rfl Mono.rr (fun _ _ _ h _ => h) (fun ρ W hd => Mono.guard_val hd (t := 26) (k := 4) (by kernel_rfl) rfl) (fun ρ a W hR hd hf => ?h8) ?_
  case h8 =>
    have e29 := Mono.dep_val hd hf (t := 29) (k := 7) (by kernel_rfl) rfl
    clear hd hf
    refine ⟨_, _, by go_simp; first | rfl | exact ⟨rfl, rfl⟩, ?_⟩
    exact (H6.out W).mono (fun e W' ⟨he, hb⟩ => ⟨_, he, hb, rfl⟩)
  refine Mono.rgl_valg (v := .bool false) rfl Mono.rr (fun ρ W hd => Mono.guard_val hd (t := 26) (k := 4) (by kernel_rfl) rfl) (fun ρ a W hR hd hf => ?h9) ?_
  case h9 =>
    have e28 := Mono.dep_val hd hf (t := 28) (k := 6) (by kernel_rfl) rfl
    have e30 := Mono.dep_val hd hf (t := 30) (k := 8) (by kernel_rfl) rfl
    clear hd hf
    (go_simp; try with_reducible rfl)
  refine Mono.rgl_val (v := .bool false) rfl Mono.rr (fun ρ a W hR hd hf => ?h10) ?_
  case h10 =>
    have e26 := Mono.dep_val hd hf (t := 26) (k := 4) (by kernel_rfl) rfl
    have e31 := Mono.dep_val hd hf (t := 31) (k := 9) (by kernel_rfl) rfl
    clear hd hf
    (go_simp; try with_reducible rfl)
  refine Mono.rgl_val (v := .bool false) rfl Mono.rr (fun ρ a W hR hd hf => ?h11) ?_
  case h11 =>
    have e32 := Mono.dep_val hd hf (t := 32) (k := 10) (by kernel_rfl) rfl
    clear hd hf
    (go_simp; try with_reducible rfl)
  refine Mono.rgl_valg (v := ?v12) rfl Mono.rr (fun ρ W hd => Mono.guard_val hd (t := 33) (k := 11) (by kernel_rfl) rfl) (fun ρ a W hR hd hf => ?h12) ?_
  case h12 =>
    have e1 := Mono.init_get hf (t := 1) (by kernel_rfl)
    have hk0 := (HC4.out.below hR (by omega) : Cells W _ _) 0 _ rfl
    have hk1 := (HC4.out.below hR (by omega) : Cells W _ _) 1 _ rfl
    have hk2 := (HC4.out.below hR (by omega) : Cells W _ _) 2 _ rfl
    have hk3 := (HC4.out.below hR (by omega) : Cells W _ _) 3 _ rfl
    have hk4 := (HC4.out.below hR (by omega) : Cells W _ _) 4 _ rfl
    have hk5 := (HC4.out.below hR (by omega) : Cells W _ _) 5 _ rfl
    have hk6 := (HC4.out.below hR (by omega) : Cells W _ _) 6 _ rfl
    have hk7 := (HC4.out.below hR (by omega) : Cells W _ _) 7 _ rfl
    have hk8 := (HC4.out.below hR (by omega) : Cells W _ _) 8 _ rfl
    have hk9 := (HC4.out.below hR (by omega) : Cells W _ _) 9 _ rfl
    have hk10 := (HC4.out.below hR (by omega) : Cells W _ _) 10 _ rfl
    have hk11 := (HC4.out.below hR (by omega) : Cells W _ _) 11 _ rfl
    have hk12 := (HC4.out.below hR (by omega) : Cells W _ _) 12 _ rfl
    clear hd hf
    (go_simp; try with_reducible rfl)
  refine Mono.rgl_callg (fun x _ => x = .int .i64 f) rfl Mono.rr (fun _ _ _ h _ => h) (fun ρ W hd => Mono.guard_val hd (t := 33) (k := 11) (by kernel_rfl) rfl) (fun ρ a W hR hd hf => ?h13) ?_
  case h13 =>
    have e34 := Mono.dep_val hd hf (t := 34) (k := 12) (by kernel_rfl) rfl
    clear hd hf
    refine ⟨_, _, by go_simp; first | rfl | exact ⟨rfl, rfl⟩, ?_⟩
    exact (H7.out W).mono (fun e W' ⟨he, hb⟩ => ⟨_, he, hb, rfl⟩)
  refine Mono.rgl_valg (v := ?v14) rfl Mono.rr (fun ρ W hd => Mono.guard_val hd (t := 33) (k := 11) (by kernel_rfl) rfl) (fun ρ a W hR hd hf => ?h14) ?_
  case h14 =>
    have e3 := Mono.init_get hf (t := 3) (by kernel_rfl)
    have hk0 := (HT4.out.below hR (by omega) : Cells W _ _) 0 _ rfl
    have hk1 := (HT4.out.below hR (by omega) : Cells W _ _) 1 _ rfl
    have hk2 := (HT4.out.below hR (by omega) : Cells W _ _) 2 _ rfl
    have hk3 := (HT4.out.below hR (by omega) : Cells W _ _) 3 _ rfl
    have hk4 := (HT4.out.below hR (by omega) : Cells W _ _) 4 _ rfl
    have hk5 := (HT4.out.below hR (by omega) : Cells W _ _) 5 _ rfl
    have hk6 := (HT4.out.below hR (by omega) : Cells W _ _) 6 _ rfl
    have hk7 := (HT4.out.below hR (by omega) : Cells W _ _) 7 _ rfl
    have hk8 := (HT4.out.below hR (by omega) : Cells W _ _) 8 _ rfl
    have hk9 := (HT4.out.below hR (by omega) : Cells W _ _) 9 _ rfl
    have hk10 := (HT4.out.below hR (by omega) : Cells W _ _) 10 _ rfl
    have hk11 := (HT4.out.below hR (by omega) : Cells W _ _) 11 _ rfl
    have hk12 := (HT4.out.below hR (by omega) : Cells W _ _) 12 _ rfl
    clear hd hf
    (go_simp; try with_reducible rfl)
  refine Mono.rgl_callg (fun x _ => x = .int .i64 f) rfl Mono.rr (fun _ _ _ h _ => h) (fun ρ W hd => Mono.guard_val hd (t := 33) (k := 11) (by kernel_rfl) rfl) (fun ρ a W hR hd hf => ?h15) ?_
  case h15 =>
    have e36 := Mono.dep_val hd hf (t := 36) (k := 14) (by kernel_rfl) rfl
    clear hd hf
    refine ⟨_, _, by go_simp; first | rfl | exact ⟨rfl, rfl⟩, ?_⟩
    exact (H8.out W).mono (fun e W' ⟨he, hb⟩ => ⟨_, he, hb, rfl⟩)
  refine Mono.rgl_valg (v := .bool false) rfl Mono.rr (fun ρ W hd => Mono.guard_val hd (t := 33) (k := 11) (by kernel_rfl) rfl) (fun ρ a W hR hd hf => ?h16) ?_
  case h16 =>
    have e35 := Mono.dep_val hd hf (t := 35) (k := 13) (by kernel_rfl) rfl
    have e37 := Mono.dep_val hd hf (t := 37) (k := 15) (by kernel_rfl) rfl
    clear hd hf
    (go_simp; try with_reducible rfl)
  refine Mono.rgl_val (v := .bool false) rfl Mono.rr (fun ρ a W hR hd hf => ?h17) ?_
  case h17 =>
    have e33 := Mono.dep_val hd hf (t := 33) (k := 11) (by kernel_rfl) rfl
    have e38 := Mono.dep_val hd hf (t := 38) (k := 16) (by kernel_rfl) rfl
    clear hd hf
    (go_simp; try with_reducible rfl)
  refine Mono.rgl_done rfl (fun ρ W hR ht => ?_)
  obtain ⟨d17, d16, d15, d14, d13, d12, d11, d10, d9, d8, d7, d6, d5, d4, d3, d2, d1, d0, _⟩ := ht
  simp only [List.length_cons, List.length_nil, Nat.reduceAdd] at d0 d1 d2 d3 d4 d5 d6 d7 d8 d9 d10 d11 d12 d13 d14 d15 d16 d17
  simp only [Mono.putAll, Nat.reduceAdd, d0, d1, d2, d3, d4, d5, d6, d7, d8, d9, d10, d11, d12, d13, d14, d15, d16, d17, Act.put, List.setIfInBounds_toArray, List.set_cons_zero, List.set_cons_succ]
  clear d0 d1 d2 d3 d4 d5 d6 d7 d8 d9 d10 d11 d12 d13 d14 d15 d16 d17
  have hz5 := hR.size
  have HB5 := Lib.hid (HB4.out.trans (hR.mono (by omega)))
  have HT5 := Lib.hid (HT4.out.below hR (by omega))
  have HY := Lib.hid ((HY.out.below hR).mono hR.size)
  clear hR HB4 HC4 HT4
  obtain ⟨w5, rfl⟩ : ∃ z, z = W := ⟨_, rfl⟩
  go_wp2_with (fail)
  refine Mono.region_below (by kernel_rfl) (by kernel_rfl) (by kernel_rfl) ?_
  refine Mono.rgl_val (v := ?vq0) rfl Mono.rr (fun ρ a W hR hd hf => ?hq0) ?_
  case hq0 =>
    have e6 := Mono.init_get hf (t := 6) (by kernel_rfl)
    clear hd hf
    (go_simp; try with_reducible rfl)
  refine Mono.rgl_val (v := .bool true) rfl Mono.rr (fun ρ a W hR hd hf => ?hq1) ?_
  case hq1 =>
    have e50 := Mono.dep_val hd hf (t := 50) (k := 0) (by kernel_rfl) rfl
    clear hd hf
    (go_simp; try with_reducible rfl)
  refine Mono.rgl_val (v := .bool true) rfl Mono.rr (fun ρ a W hR hd hf => ?hq2) ?_
  case hq2 =>
    have e51 := Mono.dep_val hd hf (t := 51) (k := 1) (by kernel_rfl) rfl
    clear hd hf
    (go_simp; try with_reducible rfl)
  refine Mono.rgl_valg (v := ?vq3) rfl Mono.rr (fun ρ W hd => Mono.guard_val hd (t := 52) (k := 2) (by kernel_rfl) rfl) (fun ρ a W hR hd hf => ?hq3) ?_
  case hq3 =>
    have e5 := Mono.init_get hf (t := 5) (by kernel_rfl)
    clear hd hf
    (go_simp; try with_reducible rfl)
  refine Mono.rgl_valg (v := .string (str l)) rfl Mono.rr (fun ρ W hd => Mono.guard_val hd (t := 52) (k := 2) (by kernel_rfl) rfl) (fun ρ a W hR hd hf => ?hq4) ?_
  case hq4 =>
    have e53 := Mono.dep_val hd hf (t := 53) (k := 3) (by kernel_rfl) rfl
    have hcv := convert_byt Tryd.underlying31 Tryd.underlying5 Tryd.underlying9 ((HY.out.below hR).mono hR.size)
    clear hd hf
    (go_simp; try with_reducible rfl)
  refine Mono.rgl_valg (v := ?vq5) rfl Mono.rr (fun ρ W hd => Mono.guard_val hd (t := 52) (k := 2) (by kernel_rfl) rfl) (fun ρ a W hR hd hf => ?hq5) ?_
  case hq5 =>
    have e3 := Mono.init_get hf (t := 3) (by kernel_rfl)
    have hk0 := (HT5.out.below hR (by omega) : Cells W _ _) 0 _ rfl
    have hk1 := (HT5.out.below hR (by omega) : Cells W _ _) 1 _ rfl
    have hk2 := (HT5.out.below hR (by omega) : Cells W _ _) 2 _ rfl
    have hk3 := (HT5.out.below hR (by omega) : Cells W _ _) 3 _ rfl
    have hk4 := (HT5.out.below hR (by omega) : Cells W _ _) 4 _ rfl
    have hk5 := (HT5.out.below hR (by omega) : Cells W _ _) 5 _ rfl
    have hk6 := (HT5.out.below hR (by omega) : Cells W _ _) 6 _ rfl
    have hk7 := (HT5.out.below hR (by omega) : Cells W _ _) 7 _ rfl
    have hk8 := (HT5.out.below hR (by omega) : Cells W _ _) 8 _ rfl
    have hk9 := (HT5.out.below hR (by omega) : Cells W _ _) 9 _ rfl
    have hk10 := (HT5.out.below hR (by omega) : Cells W _ _) 10 _ rfl
    have hk11 := (HT5.out.below hR (by omega) : Cells W _ _) 11 _ rfl
    have hk12 := (HT5.out.below hR (by omega) : Cells W _ _) 12 _ rfl
    clear hd hf
    (go_simp; try with_reducible rfl)
  refine Mono.rgl_callg (fun z W => Byt W W.heap.size z l) rfl Mono.rr hstB2 (fun ρ W hd => Mono.guard_val hd (t := 52) (k := 2) (by kernel_rfl) rfl) (fun ρ a W hR hd hf => ?hq6) ?_
  case hq6 =>
    have e55 := Mono.dep_val hd hf (t := 55) (k := 5) (by kernel_rfl) rfl
    clear hd hf
    refine ⟨_, _, by go_simp; first | rfl | exact ⟨rfl, rfl⟩, ?_⟩
    exact (H9.out W).mono (fun e W' ⟨v', he, ho, hb⟩ => ⟨v', he, hb, OB.byt ho⟩)
  refine Mono.rgl_valg (v := .string (str l)) rfl Mono.rr (fun ρ W hd => Mono.guard_val hd (t := 52) (k := 2) (by kernel_rfl) rfl) (fun ρ a W hR hd hf => ?hq7) ?_
  case hq7 =>
    obtain ⟨e56, d6⟩ := Mono.dep_get hd hf (t := 56) (k := 6) (by kernel_rfl)
    replace d6 : (fun z W => Byt W W.heap.size z l) (ρ 6) W := d6
    have hcv := convert_byt Tryd.underlying31 Tryd.underlying5 Tryd.underlying9 d6
    clear hd hf
    (go_simp; try with_reducible rfl)
  refine Mono.rgl_valg (v := .bool true) rfl Mono.rr (fun ρ W hd => Mono.guard_val hd (t := 52) (k := 2) (by kernel_rfl) rfl) (fun ρ a W hR hd hf => ?hq8) ?_
  case hq8 =>
    have e54 := Mono.dep_val hd hf (t := 54) (k := 4) (by kernel_rfl) rfl
    have e57 := Mono.dep_val hd hf (t := 57) (k := 7) (by kernel_rfl) rfl
    have hx : ((str l).toList == (str l).toList) = true := by simp
    clear hd hf
    (go_simp; try with_reducible rfl)
  refine Mono.rgl_val (v := .bool true) rfl Mono.rr (fun ρ a W hR hd hf => ?hq9) ?_
  case hq9 =>
    have e52 := Mono.dep_val hd hf (t := 52) (k := 2) (by kernel_rfl) rfl
    have e58 := Mono.dep_val hd hf (t := 58) (k := 8) (by kernel_rfl) rfl
    clear hd hf
    (go_simp; try with_reducible rfl)
  refine Mono.rgl_val (v := ?vq10) rfl Mono.rr (fun ρ a W hR hd hf => ?hq10) ?_
  case hq10 =>
    have e59 := Mono.dep_val hd hf (t := 59) (k := 9) (by kernel_rfl) rfl
    clear hd hf
    (go_simp; try with_reducible rfl)
  refine Mono.rgl_done rfl (fun ρ W hR ht => ?_)
  obtain ⟨dq10, dq9, dq8, dq7, dq6, dq5, dq4, dq3, dq2, dq1, dq0, _⟩ := ht
  replace dq6 : (fun z W => Byt W W.heap.size z l) (ρ 6) W := dq6
  simp only [List.length_cons, List.length_nil, Nat.reduceAdd] at dq0 dq1 dq2 dq3 dq4 dq5 dq7 dq8 dq9 dq10
  simp only [Mono.putAll, Nat.reduceAdd, dq0, dq1, dq2, dq3, dq4, dq5, dq7, dq8, dq9, dq10, Act.put, List.setIfInBounds_toArray, List.set_cons_zero, List.set_cons_succ]
  clear dq0 dq1 dq2 dq3 dq4 dq5 dq7 dq8 dq9 dq10
  generalize ρ 6 = rq6 at *
  have HB6 := Lib.hid (HB5.out.trans (hR.mono (by omega)))
  clear hR
  go_wp2_with (fail)
  go_ret
  exact ⟨rfl, HB6.out⟩
theorem lw_walk (nm : ByteArray) (y mo da ho mi se me cr pk sz : Int) (gw gl : Bool) (w : World) (hA : Amb w) (hm : nm.size ≤ maxLen) (hcr0 : 0 ≤ cr) (hcr1 : cr ≤ 4294967295) : Calls Tryd.prog 3 #[.agg #[.string nm, .int .i64 y, .int .i64 mo, .int .i64 da, .int .i64 ho, .int .i64 mi, .int .i64 se, .int .i64 me, .int .u32 cr, .int .i64 pk, .int .i64 sz, .bool gw, .bool gl]] w (CQ (.bool true) w) := by
  unfold maxLen at hm
  by_cases h : 1000 < nm.size
  · exact lw_long nm y mo da ho mi se me cr pk sz gw gl w hA hm h
  by_cases hc : lcode (chk nm) (Dos.rightB y mo da ho mi se) me pk sz = 0
  · obtain ⟨h1, h2, h3, h4, h5, h6, h7, h8⟩ := lcode_0 hc
    obtain ⟨me, rfl⟩ : ∃ k : Nat, me = k := ⟨me.toNat, by omega⟩
    obtain ⟨cr, rfl⟩ : ∃ k : Nat, cr = k := ⟨cr.toNat, by omega⟩
    obtain ⟨pk, rfl⟩ : ∃ k : Nat, pk = k := ⟨pk.toNat, by omega⟩
    obtain ⟨sz, rfl⟩ : ∃ k : Nat, sz = k := ⟨sz.toNat, by omega⟩
    refine lw_yes nm y mo da ho mi se me cr pk sz gw gl _ (flagI nm gl) (verI gw) w hA (by omega) (Lib.hid fun W hA => ?_) (Lib.hid fun W => ?_) (Lib.hid fun W => ref_any nm y mo da ho mi se me cr pk sz gw gl W) (Lib.hid fun W hA => lenc_any nm y mo da ho mi se me cr pk sz gw gl W hA (by omega) hc) (Lib.hid fun W => version_any nm y mo da ho mi se me cr pk sz gw gl W) (Lib.hid fun W => refVersion_any nm y mo da ho mi se me cr pk sz gw gl W) (Lib.hid fun W => flags_any nm y mo da ho mi se me cr pk sz gw gl W (by omega)) (Lib.hid fun W => refFlags_any nm y mo da ho mi se me cr pk sz gw gl W (by omega)) (Lib.hid fun W => refLenc_any nm y mo da ho mi se me cr pk sz gw gl W (by omega) hc)
    · have := lcheck_any nm y mo da ho mi se me cr pk sz gw gl W hA
      rw [hc] at this
      exact this
    · have := refLcheck_any nm y mo da ho mi se me cr pk sz gw gl W
      rw [hc] at this
      exact this
  · exact lw_no nm y mo da ho mi se me cr pk sz gw gl _ (flagI nm gl) (verI gw) w hA (by omega) (by simpa using hc) (Lib.hid fun W hA => lcheck_any nm y mo da ho mi se me cr pk sz gw gl W hA) (Lib.hid fun W => refLcheck_any nm y mo da ho mi se me cr pk sz gw gl W) (Lib.hid fun W => ref_any nm y mo da ho mi se me cr pk sz gw gl W) (Lib.hid fun W hA => lenc_no nm y mo da ho mi se me cr pk sz gw gl _ W hA rfl (by simpa using hc)) (Lib.hid fun W => version_any nm y mo da ho mi se me cr pk sz gw gl W) (Lib.hid fun W => refVersion_any nm y mo da ho mi se me cr pk sz gw gl W) (Lib.hid fun W => flags_any nm y mo da ho mi se me cr pk sz gw gl W (by omega)) (Lib.hid fun W => refFlags_any nm y mo da ho mi se me cr pk sz gw gl W (by omega))
end Go.Proofs.YtcpojpgdjjmfbaaDoor
