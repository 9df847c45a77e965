/- central.Header.Encode: a header that may be. -/
import Derived.Test.YtjkmgakgjoojfaaDoorCenA
import Derived.Test.YtjkmgakgjoojfaaDoorLocP
import Derived.Deep.QuietTactic
import Derived.BigQuiet
namespace Go.Proofs.YtjkmgakgjoojfaaDoor
set_option maxRecDepth 100000
set_option linter.unusedVariables false
set_option linter.unusedSimpArgs false
open Go.RowKit
set_option maxHeartbeats 8000000 in
set_option maxRecDepth 100000 in
theorem cenc_t (nm : ByteArray) (y mo da ho mi se : Int) (me cr pk sz pl f D C : Nat) (gl : Bool) (w : World) (hA : Amb w) (hnm : nm.size ≤ 255) (hme : me ≤ 8) (hcr : cr < 4294967296) (hpk : pk ≤ 33554432) (hsz : sz ≤ 16777216) (hpl : pl < 4294967295) (hf : f ≤ 4000) (hD : D ≤ 65535) (hC : C ≤ 65535)
    (HK : Hid (∀ W, Amb W → Calls Tryd.prog 10 #[.agg #[.string nm, .int .i64 y, .int .i64 mo, .int .i64 da, .int .i64 ho, .int .i64 mi, .int .i64 se, .int .i64 (me : Nat), .int .u32 (cr : Nat), .int .i64 (pk : Nat), .int .i64 (sz : Nat), .bool true, .bool gl, .int .i64 (pl : Nat)]] W (CQ (.int .i64 0) W)))
    (HE : Hid (∀ W, Calls Tryd.prog 20 #[.agg #[.int .i64 y, .int .i64 mo, .int .i64 da, .int .i64 ho, .int .i64 mi, .int .i64 se]] W fun e w' => e = .returned (.tuple #[.int .u16 (D : Nat), .int .u16 (C : Nat), .int .i64 0]) ∧ Below W.heap.size W w'))
    (HV : Hid (∀ W, Calls Tryd.prog 22 #[.agg #[.string nm, .int .i64 y, .int .i64 mo, .int .i64 da, .int .i64 ho, .int .i64 mi, .int .i64 se, .int .i64 (me : Nat), .int .u32 (cr : Nat), .int .i64 (pk : Nat), .int .i64 (sz : Nat), .bool true, .bool gl]] W (CQ (.int .i64 45) W)))
    (HF : Hid (∀ W, Calls Tryd.prog 23 #[.agg #[.string nm, .int .i64 y, .int .i64 mo, .int .i64 da, .int .i64 ho, .int .i64 mi, .int .i64 se, .int .i64 (me : Nat), .int .u32 (cr : Nat), .int .i64 (pk : Nat), .int .i64 (sz : Nat), .bool true, .bool gl]] W (CQ (.int .i64 (f : Nat)) W))) :
    Calls Tryd.prog 9 #[.agg #[.string nm, .int .i64 y, .int .i64 mo, .int .i64 da, .int .i64 ho, .int .i64 mi, .int .i64 se, .int .i64 (me : Nat), .int .u32 (cr : Nat), .int .i64 (pk : Nat), .int .i64 (sz : Nat), .bool true, .bool gl, .int .i64 (pl : Nat)]] w fun e w' => ∃ v, e = .returned (.tuple #[v, .int .i64 0]) ∧ OB w.heap.size w' v (((((((((byt 4 33639248 ++ bys 2 [(788 : Int), (45 : Int), (f : Int), (me : Int), (C : Int), (D : Int)]) ++ bys 4 [(cr : Int), (4294967295 : Int), (4294967295 : Int)]) ++ bys 2 [(nm.size : Int), (28 : Int), (0 : Int), (0 : Int), (0 : Int)]) ++ byt 4 2175008768) ++ byt 4 4294967295) ++ nm.data.toList) ++ byt 2 1) ++ byt 2 24) ++ bys 8 [(sz : Int), (pk : Int), (pl : Int)]) ∧ Below w.heap.size w w' := by
  have HB := Lib.hid ((Below.refl w.heap.size w).alloc (Nat.le_refl _) (.cells #[.string nm, .int .i64 y, .int .i64 mo, .int .i64 da, .int .i64 ho, .int .i64 mi, .int .i64 se, .int .i64 (me : Nat), .int .u32 (cr : Nat), .int .i64 (pk : Nat), .int .i64 (sz : Nat), .bool true, .bool gl, .int .i64 (pl : Nat)] 28))
  have HC := Lib.hid (Cells.new_at w [.string nm, .int .i64 y, .int .i64 mo, .int .i64 da, .int .i64 ho, .int .i64 mi, .int .i64 se, .int .i64 (me : Nat), .int .u32 (cr : Nat), .int .i64 (pk : Nat), .int .i64 (sz : Nat), .bool true, .bool gl, .int .i64 (pl : Nat)] 28 w.heap.size rfl)
  have HA := Lib.hid hA
  have q_pk : IntKind.u64.wrap (pk : Int) = pk := by rw [IntKind.wrap_u64]; omega
  have q_sz : IntKind.u64.wrap (sz : Int) = sz := by rw [IntKind.wrap_u64]; omega
  have q_pl : IntKind.u64.wrap (pl : Int) = pl := by rw [IntKind.wrap_u64]; omega
  have Q_cr : Hid (IntKind.u64.wrap (cr : Int) = cr) := Lib.hid (by rw [IntKind.wrap_u64]; omega)
  have Q_me : Hid (IntKind.u64.wrap (me : Int) = me) := Lib.hid (by rw [IntKind.wrap_u64]; omega)
  have Q_f : Hid (IntKind.u64.wrap (f : Int) = f) := Lib.hid (by rw [IntKind.wrap_u64]; omega)
  have Q_D : Hid (IntKind.u64.wrap (D : Int) = D) := Lib.hid (by rw [IntKind.wrap_u64]; omega)
  have Q_C : Hid (IntKind.u64.wrap (C : Int) = C) := Lib.hid (by rw [IntKind.wrap_u64]; omega)
  have Q_nm : Hid (IntKind.u64.wrap (nm.size : Int) = nm.size) := Lib.hid (by rw [IntKind.wrap_u64]; omega)
  have HQ1 : Hid (∀ x ∈ ([(788 : Int), (45 : Int), (f : Int), (me : Int), (C : Int), (D : Int)] : List Int), 0 ≤ x ∧ x < 18446744073709551616) := Lib.hid (by intro x hx; simp only [List.mem_cons, List.not_mem_nil, or_false] at hx; omega)
  have HQ2 : Hid (∀ x ∈ ([(cr : Int), (4294967295 : Int), (4294967295 : Int)] : List Int), 0 ≤ x ∧ x < 18446744073709551616) := Lib.hid (by intro x hx; simp only [List.mem_cons, List.not_mem_nil, or_false] at hx; omega)
  have HQ3 : Hid (∀ x ∈ ([(nm.size : Int), (28 : Int), (0 : Int), (0 : Int), (0 : Int)] : List Int), 0 ≤ x ∧ x < 18446744073709551616) := Lib.hid (by intro x hx; simp only [List.mem_cons, List.not_mem_nil, or_false] at hx; omega)
  have HQ4 : Hid (∀ x ∈ ([(sz : Int), (pk : Int), (pl : Int)] : List Int), 0 ≤ x ∧ x < 18446744073709551616) := Lib.hid (by intro x hx; simp only [List.mem_cons, List.not_mem_nil, or_false] at hx; omega)
  clear hA
  go_enter Tryd.func9, Tryd.ntmps9
  go_wp2_with (fail)
  refine (HK.out _ (HA.out.below HB.out)).mono ?_
  rintro e w1 ⟨rfl, b1⟩
  have hz1 := b1.size
  simp only [World.size_alloc] at hz1
  have HB1 := Lib.hid (HB.out.trans (b1.mono (by simp)))
  have HC1 := Lib.hid (HC.out.below b1 (by simp))
  clear b1 HB HC
  have k1 := HC1.out 1 _ rfl
  have k2 := HC1.out 2 _ rfl
  have k3 := HC1.out 3 _ rfl
  have k4 := HC1.out 4 _ rfl
  have k5 := HC1.out 5 _ rfl
  have k6 := HC1.out 6 _ rfl
  go_wp2_with (fail)
  refine (HE.out _).mono ?_
  rintro e w2 ⟨rfl, b2⟩
  have hz2 := b2.size
  have HB2 := Lib.hid (HB1.out.trans (b2.mono (by omega)))
  have HC2 := Lib.hid (HC1.out.below b2 (by omega))
  clear b2 HB1 HC1 k1 k2 k3 k4 k5 k6
  have k9 := HC2.out 9 _ rfl
  have k10 := HC2.out 10 _ rfl
  have k13 := HC2.out 13 _ rfl
  go_wp2_with (fail)
  go_quiet (fail)
  have HB3 := Lib.hid (below_drewN HB2.out nq)
  have HC3 := Lib.hid (HC2.out.below (below_drewN (Below.refl w2.heap.size w2) nq) (by omega))
  have hz3 : w.heap.size + 1 ≤ (w2.drewN nq).heap.size := by show _ ≤ w2.heap.size; omega
  clear k9 k10 k13 HB2 HC2
  generalize w2.drewN nq = w3 at *
  have k11 := HC3.out 11 _ rfl
  clear hz1 hz2 q_pk q_sz q_pl
  go_wp2_with (fail)
  refine (appO 4 33639248 (nil_byt _) (by decide) (by decide) (by decide) (by decide)).mono ?_
  rintro e w4 ⟨u4, rfl, ho, b4⟩
  have hz4 := b4.size
  rw [List.nil_append] at ho
  have HO := Lib.hid (OB.mono ho (show w.heap.size + 1 ≤ w3.heap.size by omega))
  have HB4 := Lib.hid (HB3.out.trans (b4.mono (by omega)))
  have HC4 := Lib.hid (HC3.out.below b4 (by omega))
  clear ho b4 k11 HB3 HC3
  go_wp2_with (fail)
  refine Mono.region_below (by kernel_rfl) (by kernel_rfl) (by kernel_rfl) ?_
  refine Mono.rgl_val (v := ?v0) rfl Mono.rr (fun ρ a W hR hd hf => ?h0) ?_
  case h0 =>
    have e1 := Mono.init_get hf (t := 1) (by kernel_rfl)
    clear hd hf
    (go_simp; try with_reducible rfl)
  refine Mono.rgl_val (v := ?v1) rfl Mono.rr (fun ρ a W hR hd hf => ?h1) ?_
  case h1 =>
    have e52 := Mono.dep_val hd hf (t := 52) (k := 0) (by kernel_rfl) rfl
    have hk0 := (HC4.out.below hR (by omega) : Cells W _ _) 0 _ rfl
    have hk1 := (HC4.out.below hR (by omega) : Cells W _ _) 1 _ rfl
    have hk2 := (HC4.out.below hR (by omega) : Cells W _ _) 2 _ rfl
    have hk3 := (HC4.out.below hR (by omega) : Cells W _ _) 3 _ rfl
    have hk4 := (HC4.out.below hR (by omega) : Cells W _ _) 4 _ rfl
    have hk5 := (HC4.out.below hR (by omega) : Cells W _ _) 5 _ rfl
    have hk6 := (HC4.out.below hR (by omega) : Cells W _ _) 6 _ rfl
    have hk7 := (HC4.out.below hR (by omega) : Cells W _ _) 7 _ rfl
    have hk8 := (HC4.out.below hR (by omega) : Cells W _ _) 8 _ rfl
    have hk9 := (HC4.out.below hR (by omega) : Cells W _ _) 9 _ rfl
    have hk10 := (HC4.out.below hR (by omega) : Cells W _ _) 10 _ rfl
    have hk11 := (HC4.out.below hR (by omega) : Cells W _ _) 11 _ rfl
    have hk12 := (HC4.out.below hR (by omega) : Cells W _ _) 12 _ rfl
    clear hd hf
    (go_simp; try with_reducible rfl)
  refine Mono.rgl_call (fun x _ => x = .int .i64 45) rfl Mono.rr (fun _ _ _ h _ => h) (fun ρ a W hR hd hf => ?h2) ?_
  case h2 =>
    have e53 := Mono.dep_val hd hf (t := 53) (k := 1) (by kernel_rfl) rfl
    clear hd hf
    refine ⟨_, _, by go_simp; first | rfl | exact ⟨rfl, rfl⟩, ?_⟩
    exact (HV.out W).mono (fun e W' ⟨he, hb⟩ => ⟨_, he, hb, rfl⟩)
  refine Mono.rgl_val (v := ?v3) rfl Mono.rr (fun ρ a W hR hd hf => ?h3) ?_
  case h3 =>
    have e54 := Mono.dep_val hd hf (t := 54) (k := 2) (by kernel_rfl) rfl
    clear hd hf
    (go_simp; try with_reducible rfl)
  refine Mono.rgl_val (v := ?v4) rfl Mono.rr (fun ρ a W hR hd hf => ?h4) ?_
  case h4 =>
    have e1 := Mono.init_get hf (t := 1) (by kernel_rfl)
    clear hd hf
    (go_simp; try with_reducible rfl)
  refine Mono.rgl_val (v := ?v5) rfl Mono.rr (fun ρ a W hR hd hf => ?h5) ?_
  case h5 =>
    have e56 := Mono.dep_val hd hf (t := 56) (k := 4) (by kernel_rfl) rfl
    have hk0 := (HC4.out.below hR (by omega) : Cells W _ _) 0 _ rfl
    have hk1 := (HC4.out.below hR (by omega) : Cells W _ _) 1 _ rfl
    have hk2 := (HC4.out.below hR (by omega) : Cells W _ _) 2 _ rfl
    have hk3 := (HC4.out.below hR (by omega) : Cells W _ _) 3 _ rfl
    have hk4 := (HC4.out.below hR (by omega) : Cells W _ _) 4 _ rfl
    have hk5 := (HC4.out.below hR (by omega) : Cells W _ _) 5 _ rfl
    have hk6 := (HC4.out.below hR (by omega) : Cells W _ _) 6 _ rfl
    have hk7 := (HC4.out.below hR (by omega) : Cells W _ _) 7 _ rfl
    have hk8 := (HC4.out.below hR (by omega) : Cells W _ _) 8 _ rfl
    have hk9 := (HC4.out.below hR (by omega) : Cells W _ _) 9 _ rfl
    have hk10 := (HC4.out.below hR (by omega) : Cells W _ _) 10 _ rfl
    have hk11 := (HC4.out.below hR (by omega) : Cells W _ _) 11 _ rfl
    have hk12 := (HC4.out.below hR (by omega) : Cells W _ _) 12 _ rfl
    clear hd hf
    (go_simp; try with_reducible rfl)
  refine Mono.rgl_call (fun x _ => x = .int .i64 ((f : Nat) : Int)) rfl Mono.rr (fun _ _ _ h _ => h) (fun ρ a W hR hd hf => ?h6) ?_
  case h6 =>
    have e57 := Mono.dep_val hd hf (t := 57) (k := 5) (by kernel_rfl) rfl
    clear hd hf
    refine ⟨_, _, by go_simp; first | rfl | exact ⟨rfl, rfl⟩, ?_⟩
    exact (HF.out W).mono (fun e W' ⟨he, hb⟩ => ⟨_, he, hb, rfl⟩)
  refine Mono.rgl_val (v := ?v7) rfl Mono.rr (fun ρ a W hR hd hf => ?h7) ?_
  case h7 =>
    have e58 := Mono.dep_val hd hf (t := 58) (k := 6) (by kernel_rfl) rfl
    have hq := Q_f.out
    clear hd hf
    (go_simp; try with_reducible rfl)
  refine Mono.rgl_val (v := ?v8) rfl Mono.rr (fun ρ a W hR hd hf => ?h8) ?_
  case h8 =>
    have e1 := Mono.init_get hf (t := 1) (by kernel_rfl)
    clear hd hf
    (go_simp; try with_reducible rfl)
  refine Mono.rgl_val (v := ?v9) rfl Mono.rr (fun ρ a W hR hd hf => ?h9) ?_
  case h9 =>
    have e60 := Mono.dep_val hd hf (t := 60) (k := 8) (by kernel_rfl) rfl
    clear hd hf
    (go_simp; try with_reducible rfl)
  refine Mono.rgl_val (v := ?v10) rfl Mono.rr (fun ρ a W hR hd hf => ?h10) ?_
  case h10 =>
    have e61 := Mono.dep_val hd hf (t := 61) (k := 9) (by kernel_rfl) rfl
    have hk := (HC4.out.below hR (by omega) : Cells W _ _) 7 _ rfl
    clear hd hf
    (go_simp; try with_reducible rfl)
  refine Mono.rgl_val (v := ?v11) rfl Mono.rr (fun ρ a W hR hd hf => ?h11) ?_
  case h11 =>
    have e62 := Mono.dep_val hd hf (t := 62) (k := 10) (by kernel_rfl) rfl
    have hq := Q_me.out
    clear hd hf
    (go_simp; try with_reducible rfl)
  refine Mono.rgl_val (v := ?v12) rfl Mono.rr (fun ρ a W hR hd hf => ?h12) ?_
  case h12 =>
    have e6 := Mono.init_get hf (t := 6) (by kernel_rfl)
    clear hd hf
    (go_simp; try with_reducible rfl)
  refine Mono.rgl_val (v := ?v13) rfl Mono.rr (fun ρ a W hR hd hf => ?h13) ?_
  case h13 =>
    have e64 := Mono.dep_val hd hf (t := 64) (k := 12) (by kernel_rfl) rfl
    have hq := Q_C.out
    clear hd hf
    (go_simp; try with_reducible rfl)
  refine Mono.rgl_val (v := ?v14) rfl Mono.rr (fun ρ a W hR hd hf => ?h14) ?_
  case h14 =>
    have e5 := Mono.init_get hf (t := 5) (by kernel_rfl)
    clear hd hf
    (go_simp; try with_reducible rfl)
  refine Mono.rgl_val (v := ?v15) rfl Mono.rr (fun ρ a W hR hd hf => ?h15) ?_
  case h15 =>
    have e66 := Mono.dep_val hd hf (t := 66) (k := 14) (by kernel_rfl) rfl
    have hq := Q_D.out
    clear hd hf
    (go_simp; try with_reducible rfl)
  refine Mono.rgl_pred (fun z W => SU .u64 W z [(788 : Int), (45 : Int), (f : Int), (me : Int), (C : Int), (D : Int)]) rfl hstSU (fun ρ a W hR hd hf => ?h16) ?_
  case h16 =>
    have e55 := Mono.dep_val hd hf (t := 55) (k := 3) (by kernel_rfl) rfl
    have e59 := Mono.dep_val hd hf (t := 59) (k := 7) (by kernel_rfl) rfl
    have e63 := Mono.dep_val hd hf (t := 63) (k := 11) (by kernel_rfl) rfl
    have e65 := Mono.dep_val hd hf (t := 65) (k := 13) (by kernel_rfl) rfl
    have e67 := Mono.dep_val hd hf (t := 67) (k := 15) (by kernel_rfl) rfl
    clear hd hf
    exact ⟨_, _, by go_simp; rfl, (Below.refl _ _).alloc (Nat.le_refl _) _, SU.new .u64 W _ _⟩
  refine Mono.rgl_val (v := .int .i64 6) rfl Mono.rr (fun ρ a W hR hd hf => ?h17) ?_
  case h17 =>
    obtain ⟨e68, d16⟩ := Mono.dep_get hd hf (t := 68) (k := 16) (by kernel_rfl)
    replace d16 : (fun z W => SU .u64 W z [(788 : Int), (45 : Int), (f : Int), (me : Int), (C : Int), (D : Int)]) (ρ 16) W := d16
    obtain ⟨bq, oq, cq, hzq, _, _⟩ := d16
    rw [hzq] at e68
    clear hd hf
    (go_simp; try with_reducible rfl)
  refine Mono.rgl_val (v := ?v18) rfl Mono.rr (fun ρ a W hR hd hf => ?h18) ?_
  case h18 =>
    clear hd hf
    (go_simp; try with_reducible rfl)
  refine Mono.rgl_done rfl (fun ρ W hR ht => ?_)
  obtain ⟨d18, d17, d16, d15, d14, d13, d12, d11, d10, d9, d8, d7, d6, d5, d4, d3, d2, d1, d0, _⟩ := ht
  replace d16 : (fun z W => SU .u64 W z [(788 : Int), (45 : Int), (f : Int), (me : Int), (C : Int), (D : Int)]) (ρ 16) W := d16
  simp only [List.length_cons, List.length_nil, Nat.reduceAdd] at d0 d1 d2 d3 d4 d5 d6 d7 d8 d9 d10 d11 d12 d13 d14 d15 d17 d18
  simp only [Mono.putAll, Nat.reduceAdd, d0, d1, d2, d3, d4, d5, d6, d7, d8, d9, d10, d11, d12, d13, d14, d15, d17, d18, Act.put, List.setIfInBounds_toArray, List.set_cons_zero, List.set_cons_succ]
  clear d0 d1 d2 d3 d4 d5 d6 d7 d8 d9 d10 d11 d12 d13 d14 d15 d17 d18
  generalize ρ 16 = r16 at *
  have hz5 := hR.size
  have HO := Lib.hid (HO.out.below hR)
  have HB5 := Lib.hid (HB4.out.trans (hR.mono (by omega)))
  have HC5 := Lib.hid (HC4.out.below hR (by omega))
  obtain ⟨bs, os, cs, hrs, hbs, hcs⟩ := d16
  simp only [List.length_cons, List.length_nil, Nat.zero_add, Nat.reduceAdd] at hrs
  subst hrs
  have HS : Hid (∀ j, j < 6 → W.cell? ⟨bs, os + j, none⟩ = some (.int .u64 (([(788 : Int), (45 : Int), (f : Int), (me : Int), (C : Int), (D : Int)] : List Int).getD j 0))) := Lib.hid hcs
  clear hR hcs HB4 HC4
  obtain ⟨w5, rfl⟩ : ∃ z, z = W := ⟨_, rfl⟩
  have hz5b : w.heap.size + 1 ≤ w5.heap.size := by omega
  clear hz5 hz4 hz3
  go_wp2_with (fail)
  go_loopw [12, 14, 70, 71, 72, 73, 74, 75, 76, 77] (fun v _ i _ _ _ _ _ _ _ wr => ∃ j : Nat, i = .int .i64 j ∧ j ≤ 6 ∧ Hid (OB (w.heap.size + 1) wr v (byt 4 33639248 ++ bys 2 (([(788 : Int), (45 : Int), (f : Int), (me : Int), (C : Int), (D : Int)] : List Int).take j))) ∧ Hid (Below w5.heap.size w5 wr)) (fun _ _ i _ _ _ _ _ _ _ _ => 6 - (intOf i).toNat)
  case atStart => exact ⟨0, rfl, by omega, Lib.hid (by rw [List.take_zero]; show OB _ _ _ (_ ++ []); rw [List.append_nil]; exact HO.out), Lib.hid (Below.refl _ _)⟩
  case round =>
    obtain ⟨j, rfl, hj, HOj, HBj⟩ := hrel
    have hzj := HBj.out.size
    by_cases hlt : j < 6
    · have hk : wr.cell? ⟨bs, os + j, none⟩ = _ := (HBj.out.cell (p := ⟨bs, os + j, none⟩) hbs).trans (HS.out j hlt)
      have hmem : ([(788 : Int), (45 : Int), (f : Int), (me : Int), (C : Int), (D : Int)] : List Int).getD j 0 ∈ ([(788 : Int), (45 : Int), (f : Int), (me : Int), (C : Int), (D : Int)] : List Int) := by
        rw [List.getD_eq_getElem?_getD, List.getElem?_eq_getElem (show j < ([(788 : Int), (45 : Int), (f : Int), (me : Int), (C : Int), (D : Int)] : List Int).length from hlt)]; exact List.getElem_mem _
      have hxx := HQ1.out _ hmem
      have HSN := Lib.hid (bys_snoc 2 ([(788 : Int), (45 : Int), (f : Int), (me : Int), (C : Int), (D : Int)] : List Int) j hlt)
      clear hmem
      generalize ([(788 : Int), (45 : Int), (f : Int), (me : Int), (C : Int), (D : Int)] : List Int).getD j 0 = x at *
      obtain ⟨z, rfl⟩ : ∃ z : Nat, x = z := ⟨x.toNat, by omega⟩
      go_wp2_with (fail)
      refine (appO 2 z HOj.out.byt (by simp only [List.length_append, bys_length, byt_length, List.length_cons, List.length_nil, Array.length_toList, List.length_take]; have : nm.data.size = nm.size := rfl; omega) (by decide) (by decide) (by omega)).mono ?_
      rintro e w6 ⟨u6, rfl, ho, b6⟩
      have HO6 := Lib.hid (OB.mono ho (show w.heap.size + 1 ≤ wr.heap.size by omega))
      have HB6 := Lib.hid (HBj.out.trans (b6.mono (by omega)))
      clear ho b6
      go_wp2_with (fail)
      go_roundw
      case rel => exact ⟨j + 1, by go_num, by omega, Lib.hid (by rw [HSN.out, ← List.append_assoc]; exact HO6.out), HB6⟩
      case measure => simp [intOf]; omega
    · have HO := Lib.hid (show OB (w.heap.size + 1) wr _ (byt 4 33639248 ++ bys 2 ([(788 : Int), (45 : Int), (f : Int), (me : Int), (C : Int), (D : Int)] : List Int)) from by have h := HOj.out; rw [show j = 6 by omega] at h; exact h)
      have HB7 := Lib.hid (HB5.out.trans (HBj.out.mono (by omega)))
      have HC7 := Lib.hid (HC5.out.below HBj.out (by omega))
      have hz7 : w.heap.size + 1 ≤ wr.heap.size := by omega
      clear HOj HBj HS HB5 HC5 hbs hzj hj
      obtain ⟨w7, rfl⟩ : ∃ z : World, z = wr := ⟨_, rfl⟩
      have k8 := HC7.out 8 _ rfl
      have hq := Q_cr.out
      go_wp2_with (fail)
      clear k8 hq hlt
      go_loopw [12, 16, 86, 87, 88, 89, 90, 91, 92, 93] (fun v _ i _ _ _ _ _ _ _ wr => ∃ j : Nat, i = .int .i64 j ∧ j ≤ 3 ∧ w7.heap.size < wr.heap.size ∧ Hid (OB (w.heap.size + 1) wr v ((byt 4 33639248 ++ bys 2 [(788 : Int), (45 : Int), (f : Int), (me : Int), (C : Int), (D : Int)]) ++ bys 4 (([(cr : Int), (4294967295 : Int), (4294967295 : Int)] : List Int).take j))) ∧ Hid (Below w7.heap.size w7 wr) ∧ Hid (∀ j, j < 3 → wr.cell? ⟨w7.heap.size, j, none⟩ = some (.int .u64 (([(cr : Int), (4294967295 : Int), (4294967295 : Int)] : List Int).getD j 0)))) (fun _ _ i _ _ _ _ _ _ _ _ => 3 - (intOf i).toNat)
      case atStart =>
        have hb78 := fun o => (Below.refl w7.heap.size w7).alloc (Nat.le_refl _) o
        refine ⟨0, rfl, by omega, by simp, Lib.hid ?_, Lib.hid (hb78 _), Lib.hid (fun j hj => ?_)⟩
        · rw [List.take_zero]; show OB _ _ _ (_ ++ []); rw [List.append_nil]; exact HO.out.below (hb78 _)
        · rw [World.cell?_alloc_at _ _ _ _ rfl]
          match j, hj with
          | 0, _ => rfl
          | 1, _ => rfl
          | 2, _ => rfl
      case round =>
        obtain ⟨i, rfl, hj, hwz, HOj, HBj, HSj⟩ := hrel
        by_cases hlt : i < 3
        · have hk := HSj.out i hlt
          have hmem : ([(cr : Int), (4294967295 : Int), (4294967295 : Int)] : List Int).getD i 0 ∈ ([(cr : Int), (4294967295 : Int), (4294967295 : Int)] : List Int) := by
            rw [List.getD_eq_getElem?_getD, List.getElem?_eq_getElem (show i < ([(cr : Int), (4294967295 : Int), (4294967295 : Int)] : List Int).length from hlt)]; exact List.getElem_mem _
          have hxx := HQ2.out _ hmem
          have HSN := Lib.hid (bys_snoc 4 ([(cr : Int), (4294967295 : Int), (4294967295 : Int)] : List Int) i hlt)
          clear hmem
          generalize ([(cr : Int), (4294967295 : Int), (4294967295 : Int)] : List Int).getD i 0 = x at *
          obtain ⟨z, rfl⟩ : ∃ z : Nat, x = z := ⟨x.toNat, by omega⟩
          go_wp2_with (fail)
          refine (appO 4 z HOj.out.byt (by simp only [List.length_append, bys_length, byt_length, List.length_cons, List.length_nil, Array.length_toList, List.length_take]; have : nm.data.size = nm.size := rfl; omega) (by decide) (by decide) (by omega)).mono ?_
          rintro e w9 ⟨u9, rfl, ho, b9⟩
          have hz9 := b9.size
          have HO9 := Lib.hid (OB.mono ho (show w.heap.size + 1 ≤ wr.heap.size by omega))
          have HB9 := Lib.hid (HBj.out.trans (b9.mono (by omega)))
          have HS9 : Hid (∀ i, i < 3 → w9.cell? ⟨w7.heap.size, i, none⟩ = some (.int .u64 (([(cr : Int), (4294967295 : Int), (4294967295 : Int)] : List Int).getD i 0))) := Lib.hid (fun i hj => (b9.cell (p := ⟨w7.heap.size, i, none⟩) hwz).trans (HSj.out i hj))
          clear ho b9 
          go_wp2_with (fail)
          go_roundw
          case rel => exact ⟨i + 1, by go_num, by omega, by omega, Lib.hid (by rw [HSN.out, ← List.append_assoc]; exact HO9.out), HB9, HS9⟩
          case measure => simp [intOf]; omega
        · have HO := Lib.hid (show OB (w.heap.size + 1) wr _ ((byt 4 33639248 ++ bys 2 [(788 : Int), (45 : Int), (f : Int), (me : Int), (C : Int), (D : Int)]) ++ bys 4 ([(cr : Int), (4294967295 : Int), (4294967295 : Int)] : List Int)) from by have h := HOj.out; rw [show i = 3 by omega] at h; exact h)
          have HBA := Lib.hid (HB7.out.trans (HBj.out.mono (by omega)))
          have HCA := Lib.hid (HC7.out.below HBj.out (by omega))
          have hzA : w.heap.size + 1 ≤ wr.heap.size := by omega
          clear HOj HBj HSj HB7 HC7 hz7 hwz hj
          obtain ⟨wA, rfl⟩ : ∃ z : World, z = wr := ⟨_, rfl⟩
          have k0 := HCA.out 0 _ rfl
          have hq := Q_nm.out
          go_wp2_with (fail)
          clear k0 hq hlt
          go_loopw [12, 18, 102, 103, 104, 105, 106, 107, 108, 109] (fun v _ i _ _ _ _ _ _ _ wr => ∃ j : Nat, i = .int .i64 j ∧ j ≤ 5 ∧ wA.heap.size < wr.heap.size ∧ Hid (OB (w.heap.size + 1) wr v (((byt 4 33639248 ++ bys 2 [(788 : Int), (45 : Int), (f : Int), (me : Int), (C : Int), (D : Int)]) ++ bys 4 [(cr : Int), (4294967295 : Int), (4294967295 : Int)]) ++ bys 2 (([(nm.size : Int), (28 : Int), (0 : Int), (0 : Int), (0 : Int)] : List Int).take j))) ∧ Hid (Below wA.heap.size wA wr) ∧ Hid (∀ j, j < 5 → wr.cell? ⟨wA.heap.size, j, none⟩ = some (.int .u64 (([(nm.size : Int), (28 : Int), (0 : Int), (0 : Int), (0 : Int)] : List Int).getD j 0)))) (fun _ _ i _ _ _ _ _ _ _ _ => 5 - (intOf i).toNat)
          case atStart =>
            have hb78 := fun o => (Below.refl wA.heap.size wA).alloc (Nat.le_refl _) o
            refine ⟨0, rfl, by omega, by simp, Lib.hid ?_, Lib.hid (hb78 _), Lib.hid (fun j hj => ?_)⟩
            · rw [List.take_zero]; show OB _ _ _ (_ ++ []); rw [List.append_nil]; exact HO.out.below (hb78 _)
            · rw [World.cell?_alloc_at _ _ _ _ rfl]
              match j, hj with
              | 0, _ => rfl
              | 1, _ => rfl
              | 2, _ => rfl
              | 3, _ => rfl
              | 4, _ => rfl
          case round =>
            obtain ⟨i, rfl, hj, hwz, HOj, HBj, HSj⟩ := hrel
            by_cases hlt : i < 5
            · have hk := HSj.out i hlt
              have hmem : ([(nm.size : Int), (28 : Int), (0 : Int), (0 : Int), (0 : Int)] : List Int).getD i 0 ∈ ([(nm.size : Int), (28 : Int), (0 : Int), (0 : Int), (0 : Int)] : List Int) := by
                rw [List.getD_eq_getElem?_getD, List.getElem?_eq_getElem (show i < ([(nm.size : Int), (28 : Int), (0 : Int), (0 : Int), (0 : Int)] : List Int).length from hlt)]; exact List.getElem_mem _
              have hxx := HQ3.out _ hmem
              have HSN := Lib.hid (bys_snoc 2 ([(nm.size : Int), (28 : Int), (0 : Int), (0 : Int), (0 : Int)] : List Int) i hlt)
              clear hmem
              generalize ([(nm.size : Int), (28 : Int), (0 : Int), (0 : Int), (0 : Int)] : List Int).getD i 0 = x at *
              obtain ⟨z, rfl⟩ : ∃ z : Nat, x = z := ⟨x.toNat, by omega⟩
              go_wp2_with (fail)
              refine (appO 2 z HOj.out.byt (by simp only [List.length_append, bys_length, byt_length, List.length_cons, List.length_nil, Array.length_toList, List.length_take]; have : nm.data.size = nm.size := rfl; omega) (by decide) (by decide) (by omega)).mono ?_
              rintro e w9 ⟨u9, rfl, ho, b9⟩
              have hz9 := b9.size
              have HO9 := Lib.hid (OB.mono ho (show w.heap.size + 1 ≤ wr.heap.size by omega))
              have HB9 := Lib.hid (HBj.out.trans (b9.mono (by omega)))
              have HS9 : Hid (∀ i, i < 5 → w9.cell? ⟨wA.heap.size, i, none⟩ = some (.int .u64 (([(nm.size : Int), (28 : Int), (0 : Int), (0 : Int), (0 : Int)] : List Int).getD i 0))) := Lib.hid (fun i hj => (b9.cell (p := ⟨wA.heap.size, i, none⟩) hwz).trans (HSj.out i hj))
              clear ho b9 
              go_wp2_with (fail)
              go_roundw
              case rel => exact ⟨i + 1, by go_num, by omega, by omega, Lib.hid (by rw [HSN.out, ← List.append_assoc]; exact HO9.out), HB9, HS9⟩
              case measure => simp [intOf]; omega
            · have HO := Lib.hid (show OB (w.heap.size + 1) wr _ (((byt 4 33639248 ++ bys 2 [(788 : Int), (45 : Int), (f : Int), (me : Int), (C : Int), (D : Int)]) ++ bys 4 [(cr : Int), (4294967295 : Int), (4294967295 : Int)]) ++ bys 2 ([(nm.size : Int), (28 : Int), (0 : Int), (0 : Int), (0 : Int)] : List Int)) from by have h := HOj.out; rw [show i = 5 by omega] at h; exact h)
              have HBB := Lib.hid (HBA.out.trans (HBj.out.mono (by omega)))
              have HCB := Lib.hid (HCA.out.below HBj.out (by omega))
              have hzB : w.heap.size + 1 ≤ wr.heap.size := by omega
              clear HOj HBj HSj HBA HCA hzA hwz hj
              obtain ⟨wB, rfl⟩ : ∃ z : World, z = wr := ⟨_, rfl⟩
              go_wp2_with (fail)
              refine (appO 4 2175008768 HO.out.byt (by simp only [List.length_append, bys_length, byt_length, List.length_cons, List.length_nil, Array.length_toList, List.length_take]; have : nm.data.size = nm.size := rfl; omega) (by decide) (by decide) (by omega)).mono ?_
              rintro e wD ⟨uD, rfl, ho, bb⟩
              have hzD := bb.size
              have HO := Lib.hid (OB.mono ho (show w.heap.size + 1 ≤ wB.heap.size by omega))
              have HBD := Lib.hid (HBB.out.trans (bb.mono (by omega)))
              have HCD := Lib.hid (HCB.out.below bb (by omega))
              have hzz : w.heap.size + 1 ≤ wD.heap.size := by omega
              clear hlt ho bb HBB HCB hzB hzD
              have hzD := hzz
              clear hzz
              go_wp2_with (fail)
              refine (appO 4 4294967295 HO.out.byt (by simp only [List.length_append, bys_length, byt_length, List.length_cons, List.length_nil, Array.length_toList, List.length_take]; have : nm.data.size = nm.size := rfl; omega) (by decide) (by decide) (by omega)).mono ?_
              rintro e wE ⟨uE, rfl, ho, bb⟩
              have hzE := bb.size
              have HO := Lib.hid (OB.mono ho (show w.heap.size + 1 ≤ wD.heap.size by omega))
              have HBE := Lib.hid (HBD.out.trans (bb.mono (by omega)))
              have HCE := Lib.hid (HCD.out.below bb (by omega))
              have hzz : w.heap.size + 1 ≤ wE.heap.size := by omega
              clear ho bb HBD HCD hzD hzE
              have hzE := hzz
              clear hzz
              have k0 := HCE.out 0 _ rfl
              go_wp2_with (at_builtin; refine append_OS rfl _ _ rfl rfl HO.out rfl (by simp only [List.length_append, bys_length, byt_length, List.length_cons, List.length_nil, Array.length_toList, List.length_take]; have : nm.data.size = nm.size := rfl; omega) (by omega) ?_)
              intro vG wG ho bb
              have hzG : w.heap.size + 1 ≤ wG.heap.size := Nat.le_trans hzE bb.size
              have HO := Lib.hid ho
              have HBG := Lib.hid (HBE.out.trans (bb.mono (by omega)))
              have HCG := Lib.hid (HCE.out.below bb (by omega))
              clear ho bb k0 HBE HCE hzE
              have k11 := HCG.out 11 _ rfl
              go_wp2_with (fail)
              refine (appO 2 1 HO.out.byt (by simp only [List.length_append, bys_length, byt_length, List.length_cons, List.length_nil, Array.length_toList, List.length_take]; have : nm.data.size = nm.size := rfl; omega) (by decide) (by decide) (by omega)).mono ?_
              rintro e wH ⟨uH, rfl, ho, bb⟩
              have hzH := bb.size
              have HO := Lib.hid (OB.mono ho (show w.heap.size + 1 ≤ wG.heap.size by omega))
              have HBH := Lib.hid (HBG.out.trans (bb.mono (by omega)))
              have HCH := Lib.hid (HCG.out.below bb (by omega))
              have hzz : w.heap.size + 1 ≤ wH.heap.size := by omega
              clear ho bb k11 HBG HCG hzG hzH
              have hzH := hzz
              clear hzz
              go_wp2_with (fail)
              refine (appO 2 24 HO.out.byt (by simp only [List.length_append, bys_length, byt_length, List.length_cons, List.length_nil, Array.length_toList, List.length_take]; have : nm.data.size = nm.size := rfl; omega) (by decide) (by decide) (by omega)).mono ?_
              rintro e wI ⟨uI, rfl, ho, bb⟩
              have hzI := bb.size
              have HO := Lib.hid (OB.mono ho (show w.heap.size + 1 ≤ wH.heap.size by omega))
              have HBI := Lib.hid (HBH.out.trans (bb.mono (by omega)))
              have HCI := Lib.hid (HCH.out.below bb (by omega))
              have hzz : w.heap.size + 1 ≤ wI.heap.size := by omega
              clear ho bb HBH HCH hzH hzI
              have hzI := hzz
              clear hzz
              have k9 := HCI.out 9 _ rfl
              have k10 := HCI.out 10 _ rfl
              have k13 := HCI.out 13 _ rfl
              go_wp2_with (fail)
              clear k9 k10 k13
              go_loopw [12, 20, 137, 138, 139, 140, 141, 142, 143, 144, 145] (fun v _ i _ _ _ _ _ _ _ _ wr => ∃ j : Nat, i = .int .i64 j ∧ j ≤ 3 ∧ wI.heap.size < wr.heap.size ∧ Hid (OB (w.heap.size + 1) wr v (((((((((byt 4 33639248 ++ bys 2 [(788 : Int), (45 : Int), (f : Int), (me : Int), (C : Int), (D : Int)]) ++ bys 4 [(cr : Int), (4294967295 : Int), (4294967295 : Int)]) ++ bys 2 [(nm.size : Int), (28 : Int), (0 : Int), (0 : Int), (0 : Int)]) ++ byt 4 2175008768) ++ byt 4 4294967295) ++ nm.data.toList) ++ byt 2 1) ++ byt 2 24) ++ bys 8 (([(sz : Int), (pk : Int), (pl : Int)] : List Int).take j))) ∧ Hid (Below wI.heap.size wI wr) ∧ Hid (∀ j, j < 3 → wr.cell? ⟨wI.heap.size, j, none⟩ = some (.int .i64 (([(sz : Int), (pk : Int), (pl : Int)] : List Int).getD j 0)))) (fun _ _ i _ _ _ _ _ _ _ _ _ => 3 - (intOf i).toNat)
              case atStart =>
                have hb78 := fun o => (Below.refl wI.heap.size wI).alloc (Nat.le_refl _) o
                refine ⟨0, rfl, by omega, by simp, Lib.hid ?_, Lib.hid (hb78 _), Lib.hid (fun j hj => ?_)⟩
                · rw [List.take_zero]; show OB _ _ _ (_ ++ []); rw [List.append_nil]; exact HO.out.below (hb78 _)
                · rw [World.cell?_alloc_at _ _ _ _ rfl]
                  match j, hj with
                  | 0, _ => rfl
                  | 1, _ => rfl
                  | 2, _ => rfl
              case round =>
                obtain ⟨i, rfl, hj, hwz, HOj, HBj, HSj⟩ := hrel
                by_cases hlt : i < 3
                · have hk := HSj.out i hlt
                  have hmem : ([(sz : Int), (pk : Int), (pl : Int)] : List Int).getD i 0 ∈ ([(sz : Int), (pk : Int), (pl : Int)] : List Int) := by
                    rw [List.getD_eq_getElem?_getD, List.getElem?_eq_getElem (show i < ([(sz : Int), (pk : Int), (pl : Int)] : List Int).length from hlt)]; exact List.getElem_mem _
                  have hxx := HQ4.out _ hmem
                  have HSN := Lib.hid (bys_snoc 8 ([(sz : Int), (pk : Int), (pl : Int)] : List Int) i hlt)
                  clear hmem
                  generalize ([(sz : Int), (pk : Int), (pl : Int)] : List Int).getD i 0 = x at *
                  obtain ⟨z, rfl⟩ : ∃ z : Nat, x = z := ⟨x.toNat, by omega⟩
                  have hq : IntKind.u64.wrap (z : Int) = z := by rw [IntKind.wrap_u64]; omega
                  go_wp2_with (fail)
                  refine (appO 8 z HOj.out.byt (by simp only [List.length_append, bys_length, byt_length, List.length_cons, List.length_nil, Array.length_toList, List.length_take]; have : nm.data.size = nm.size := rfl; omega) (by decide) (by decide) (by omega)).mono ?_
                  rintro e w9 ⟨u9, rfl, ho, b9⟩
                  have hz9 := b9.size
                  have HO9 := Lib.hid (OB.mono ho (show w.heap.size + 1 ≤ wr.heap.size by omega))
                  have HB9 := Lib.hid (HBj.out.trans (b9.mono (by omega)))
                  have HS9 : Hid (∀ i, i < 3 → w9.cell? ⟨wI.heap.size, i, none⟩ = some (.int .i64 (([(sz : Int), (pk : Int), (pl : Int)] : List Int).getD i 0))) := Lib.hid (fun i hj => (b9.cell (p := ⟨wI.heap.size, i, none⟩) hwz).trans (HSj.out i hj))
                  clear ho b9 hq
                  go_wp2_with (fail)
                  go_roundw
                  case rel => exact ⟨i + 1, by go_num, by omega, by omega, Lib.hid (by rw [HSN.out, ← List.append_assoc]; exact HO9.out), HB9, HS9⟩
                  case measure => simp [intOf]; omega
                · have HO := Lib.hid (show OB (w.heap.size + 1) wr _ (((((((((byt 4 33639248 ++ bys 2 [(788 : Int), (45 : Int), (f : Int), (me : Int), (C : Int), (D : Int)]) ++ bys 4 [(cr : Int), (4294967295 : Int), (4294967295 : Int)]) ++ bys 2 [(nm.size : Int), (28 : Int), (0 : Int), (0 : Int), (0 : Int)]) ++ byt 4 2175008768) ++ byt 4 4294967295) ++ nm.data.toList) ++ byt 2 1) ++ byt 2 24) ++ bys 8 ([(sz : Int), (pk : Int), (pl : Int)] : List Int)) from by have h := HOj.out; rw [show i = 3 by omega] at h; exact h)
                  have HBJ := Lib.hid (HBI.out.trans (HBj.out.mono (by omega)))
                  have HCJ := Lib.hid (HCI.out.below HBj.out (by omega))
                  have hzJ : w.heap.size + 1 ≤ wr.heap.size := by omega
                  clear HOj HBj HSj HBI HCI hzI hwz hj
                  obtain ⟨wJ, rfl⟩ : ∃ z : World, z = wr := ⟨_, rfl⟩
                  go_wp2_with (fail)
                  go_ret2
                  exact ⟨_, rfl, OB.mono HO.out (by omega), HBJ.out⟩
set_option maxHeartbeats 8000000 in
set_option maxRecDepth 100000 in
theorem cenc_f (nm : ByteArray) (y mo da ho mi se : Int) (me cr pk sz pl f D C : Nat) (gl : Bool) (w : World) (hA : Amb w) (hnm : nm.size ≤ 255) (hme : me ≤ 8) (hcr : cr < 4294967296) (hpk : pk ≤ 33554432) (hsz : sz ≤ 16777216) (hpl : pl < 4294967295) (hf : f ≤ 4000) (hD : D ≤ 65535) (hC : C ≤ 65535)
    (HK : Hid (∀ W, Amb W → Calls Tryd.prog 10 #[.agg #[.string nm, .int .i64 y, .int .i64 mo, .int .i64 da, .int .i64 ho, .int .i64 mi, .int .i64 se, .int .i64 (me : Nat), .int .u32 (cr : Nat), .int .i64 (pk : Nat), .int .i64 (sz : Nat), .bool false, .bool gl, .int .i64 (pl : Nat)]] W (CQ (.int .i64 0) W)))
    (HE : Hid (∀ W, Calls Tryd.prog 20 #[.agg #[.int .i64 y, .int .i64 mo, .int .i64 da, .int .i64 ho, .int .i64 mi, .int .i64 se]] W fun e w' => e = .returned (.tuple #[.int .u16 (D : Nat), .int .u16 (C : Nat), .int .i64 0]) ∧ Below W.heap.size W w'))
    (HV : Hid (∀ W, Calls Tryd.prog 22 #[.agg #[.string nm, .int .i64 y, .int .i64 mo, .int .i64 da, .int .i64 ho, .int .i64 mi, .int .i64 se, .int .i64 (me : Nat), .int .u32 (cr : Nat), .int .i64 (pk : Nat), .int .i64 (sz : Nat), .bool false, .bool gl]] W (CQ (.int .i64 20) W)))
    (HF : Hid (∀ W, Calls Tryd.prog 23 #[.agg #[.string nm, .int .i64 y, .int .i64 mo, .int .i64 da, .int .i64 ho, .int .i64 mi, .int .i64 se, .int .i64 (me : Nat), .int .u32 (cr : Nat), .int .i64 (pk : Nat), .int .i64 (sz : Nat), .bool false, .bool gl]] W (CQ (.int .i64 (f : Nat)) W))) :
    Calls Tryd.prog 9 #[.agg #[.string nm, .int .i64 y, .int .i64 mo, .int .i64 da, .int .i64 ho, .int .i64 mi, .int .i64 se, .int .i64 (me : Nat), .int .u32 (cr : Nat), .int .i64 (pk : Nat), .int .i64 (sz : Nat), .bool false, .bool gl, .int .i64 (pl : Nat)]] w fun e w' => ∃ v, e = .returned (.tuple #[v, .int .i64 0]) ∧ OB w.heap.size w' v ((((((byt 4 33639248 ++ bys 2 [(788 : Int), (20 : Int), (f : Int), (me : Int), (C : Int), (D : Int)]) ++ bys 4 [(cr : Int), (pk : Int), (sz : Int)]) ++ bys 2 [(nm.size : Int), (0 : Int), (0 : Int), (0 : Int), (0 : Int)]) ++ byt 4 2175008768) ++ byt 4 pl) ++ nm.data.toList) ∧ Below w.heap.size w w' := by
  have HB := Lib.hid ((Below.refl w.heap.size w).alloc (Nat.le_refl _) (.cells #[.string nm, .int .i64 y, .int .i64 mo, .int .i64 da, .int .i64 ho, .int .i64 mi, .int .i64 se, .int .i64 (me : Nat), .int .u32 (cr : Nat), .int .i64 (pk : Nat), .int .i64 (sz : Nat), .bool false, .bool gl, .int .i64 (pl : Nat)] 28))
  have HC := Lib.hid (Cells.new_at w [.string nm, .int .i64 y, .int .i64 mo, .int .i64 da, .int .i64 ho, .int .i64 mi, .int .i64 se, .int .i64 (me : Nat), .int .u32 (cr : Nat), .int .i64 (pk : Nat), .int .i64 (sz : Nat), .bool false, .bool gl, .int .i64 (pl : Nat)] 28 w.heap.size rfl)
  have HA := Lib.hid hA
  have q_pk : IntKind.u64.wrap (pk : Int) = pk := by rw [IntKind.wrap_u64]; omega
  have q_sz : IntKind.u64.wrap (sz : Int) = sz := by rw [IntKind.wrap_u64]; omega
  have q_pl : IntKind.u64.wrap (pl : Int) = pl := by rw [IntKind.wrap_u64]; omega
  have Q_cr : Hid (IntKind.u64.wrap (cr : Int) = cr) := Lib.hid (by rw [IntKind.wrap_u64]; omega)
  have Q_me : Hid (IntKind.u64.wrap (me : Int) = me) := Lib.hid (by rw [IntKind.wrap_u64]; omega)
  have Q_f : Hid (IntKind.u64.wrap (f : Int) = f) := Lib.hid (by rw [IntKind.wrap_u64]; omega)
  have Q_D : Hid (IntKind.u64.wrap (D : Int) = D) := Lib.hid (by rw [IntKind.wrap_u64]; omega)
  have Q_C : Hid (IntKind.u64.wrap (C : Int) = C) := Lib.hid (by rw [IntKind.wrap_u64]; omega)
  have Q_nm : Hid (IntKind.u64.wrap (nm.size : Int) = nm.size) := Lib.hid (by rw [IntKind.wrap_u64]; omega)
  have HQ1 : Hid (∀ x ∈ ([(788 : Int), (20 : Int), (f : Int), (me : Int), (C : Int), (D : Int)] : List Int), 0 ≤ x ∧ x < 18446744073709551616) := Lib.hid (by intro x hx; simp only [List.mem_cons, List.not_mem_nil, or_false] at hx; omega)
  have HQ2 : Hid (∀ x ∈ ([(cr : Int), (pk : Int), (sz : Int)] : List Int), 0 ≤ x ∧ x < 18446744073709551616) := Lib.hid (by intro x hx; simp only [List.mem_cons, List.not_mem_nil, or_false] at hx; omega)
  have HQ3 : Hid (∀ x ∈ ([(nm.size : Int), (0 : Int), (0 : Int), (0 : Int), (0 : Int)] : List Int), 0 ≤ x ∧ x < 18446744073709551616) := Lib.hid (by intro x hx; simp only [List.mem_cons, List.not_mem_nil, or_false] at hx; omega)
  have HQ4 : Hid (∀ x ∈ ([(sz : Int), (pk : Int), (pl : Int)] : List Int), 0 ≤ x ∧ x < 18446744073709551616) := Lib.hid (by intro x hx; simp only [List.mem_cons, List.not_mem_nil, or_false] at hx; omega)
  clear hA
  go_enter Tryd.func9, Tryd.ntmps9
  go_wp2_with (fail)
  refine (HK.out _ (HA.out.below HB.out)).mono ?_
  rintro e w1 ⟨rfl, b1⟩
  have hz1 := b1.size
  simp only [World.size_alloc] at hz1
  have HB1 := Lib.hid (HB.out.trans (b1.mono (by simp)))
  have HC1 := Lib.hid (HC.out.below b1 (by simp))
  clear b1 HB HC
  have k1 := HC1.out 1 _ rfl
  have k2 := HC1.out 2 _ rfl
  have k3 := HC1.out 3 _ rfl
  have k4 := HC1.out 4 _ rfl
  have k5 := HC1.out 5 _ rfl
  have k6 := HC1.out 6 _ rfl
  go_wp2_with (fail)
  refine (HE.out _).mono ?_
  rintro e w2 ⟨rfl, b2⟩
  have hz2 := b2.size
  have HB2 := Lib.hid (HB1.out.trans (b2.mono (by omega)))
  have HC2 := Lib.hid (HC1.out.below b2 (by omega))
  clear b2 HB1 HC1 k1 k2 k3 k4 k5 k6
  have k9 := HC2.out 9 _ rfl
  have k10 := HC2.out 10 _ rfl
  have k13 := HC2.out 13 _ rfl
  go_wp2_with (fail)
  go_quiet (fail)
  have HB3 := Lib.hid (below_drewN HB2.out nq)
  have HC3 := Lib.hid (HC2.out.below (below_drewN (Below.refl w2.heap.size w2) nq) (by omega))
  have hz3 : w.heap.size + 1 ≤ (w2.drewN nq).heap.size := by show _ ≤ w2.heap.size; omega
  clear k9 k10 k13 HB2 HC2
  generalize w2.drewN nq = w3 at *
  have k11 := HC3.out 11 _ rfl
  clear hz1 hz2 q_pk q_sz q_pl
  go_wp2_with (fail)
  refine (appO 4 33639248 (nil_byt _) (by decide) (by decide) (by decide) (by decide)).mono ?_
  rintro e w4 ⟨u4, rfl, ho, b4⟩
  have hz4 := b4.size
  rw [List.nil_append] at ho
  have HO := Lib.hid (OB.mono ho (show w.heap.size + 1 ≤ w3.heap.size by omega))
  have HB4 := Lib.hid (HB3.out.trans (b4.mono (by omega)))
  have HC4 := Lib.hid (HC3.out.below b4 (by omega))
  clear ho b4 k11 HB3 HC3
  go_wp2_with (fail)
  refine Mono.region_below (by kernel_rfl) (by kernel_rfl) (by kernel_rfl) ?_
  refine Mono.rgl_val (v := ?v0) rfl Mono.rr (fun ρ a W hR hd hf => ?h0) ?_
  case h0 =>
    have e1 := Mono.init_get hf (t := 1) (by kernel_rfl)
    clear hd hf
    (go_simp; try with_reducible rfl)
  refine Mono.rgl_val (v := ?v1) rfl Mono.rr (fun ρ a W hR hd hf => ?h1) ?_
  case h1 =>
    have e52 := Mono.dep_val hd hf (t := 52) (k := 0) (by kernel_rfl) rfl
    have hk0 := (HC4.out.below hR (by omega) : Cells W _ _) 0 _ rfl
    have hk1 := (HC4.out.below hR (by omega) : Cells W _ _) 1 _ rfl
    have hk2 := (HC4.out.below hR (by omega) : Cells W _ _) 2 _ rfl
    have hk3 := (HC4.out.below hR (by omega) : Cells W _ _) 3 _ rfl
    have hk4 := (HC4.out.below hR (by omega) : Cells W _ _) 4 _ rfl
    have hk5 := (HC4.out.below hR (by omega) : Cells W _ _) 5 _ rfl
    have hk6 := (HC4.out.below hR (by omega) : Cells W _ _) 6 _ rfl
    have hk7 := (HC4.out.below hR (by omega) : Cells W _ _) 7 _ rfl
    have hk8 := (HC4.out.below hR (by omega) : Cells W _ _) 8 _ rfl
    have hk9 := (HC4.out.below hR (by omega) : Cells W _ _) 9 _ rfl
    have hk10 := (HC4.out.below hR (by omega) : Cells W _ _) 10 _ rfl
    have hk11 := (HC4.out.below hR (by omega) : Cells W _ _) 11 _ rfl
    have hk12 := (HC4.out.below hR (by omega) : Cells W _ _) 12 _ rfl
    clear hd hf
    (go_simp; try with_reducible rfl)
  refine Mono.rgl_call (fun x _ => x = .int .i64 20) rfl Mono.rr (fun _ _ _ h _ => h) (fun ρ a W hR hd hf => ?h2) ?_
  case h2 =>
    have e53 := Mono.dep_val hd hf (t := 53) (k := 1) (by kernel_rfl) rfl
    clear hd hf
    refine ⟨_, _, by go_simp; first | rfl | exact ⟨rfl, rfl⟩, ?_⟩
    exact (HV.out W).mono (fun e W' ⟨he, hb⟩ => ⟨_, he, hb, rfl⟩)
  refine Mono.rgl_val (v := ?v3) rfl Mono.rr (fun ρ a W hR hd hf => ?h3) ?_
  case h3 =>
    have e54 := Mono.dep_val hd hf (t := 54) (k := 2) (by kernel_rfl) rfl
    clear hd hf
    (go_simp; try with_reducible rfl)
  refine Mono.rgl_val (v := ?v4) rfl Mono.rr (fun ρ a W hR hd hf => ?h4) ?_
  case h4 =>
    have e1 := Mono.init_get hf (t := 1) (by kernel_rfl)
    clear hd hf
    (go_simp; try with_reducible rfl)
  refine Mono.rgl_val (v := ?v5) rfl Mono.rr (fun ρ a W hR hd hf => ?h5) ?_
  case h5 =>
    have e56 := Mono.dep_val hd hf (t := 56) (k := 4) (by kernel_rfl) rfl
    have hk0 := (HC4.out.below hR (by omega) : Cells W _ _) 0 _ rfl
    have hk1 := (HC4.out.below hR (by omega) : Cells W _ _) 1 _ rfl
    have hk2 := (HC4.out.below hR (by omega) : Cells W _ _) 2 _ rfl
    have hk3 := (HC4.out.below hR (by omega) : Cells W _ _) 3 _ rfl
    have hk4 := (HC4.out.below hR (by omega) : Cells W _ _) 4 _ rfl
    have hk5 := (HC4.out.below hR (by omega) : Cells W _ _) 5 _ rfl
    have hk6 := (HC4.out.below hR (by omega) : Cells W _ _) 6 _ rfl
    have hk7 := (HC4.out.below hR (by omega) : Cells W _ _) 7 _ rfl
    have hk8 := (HC4.out.below hR (by omega) : Cells W _ _) 8 _ rfl
    have hk9 := (HC4.out.below hR (by omega) : Cells W _ _) 9 _ rfl
    have hk10 := (HC4.out.below hR (by omega) : Cells W _ _) 10 _ rfl
    have hk11 := (HC4.out.below hR (by omega) : Cells W _ _) 11 _ rfl
    have hk12 := (HC4.out.below hR (by omega) : Cells W _ _) 12 _ rfl
    clear hd hf
    (go_simp; try with_reducible rfl)
  refine Mono.rgl_call (fun x _ => x = .int .i64 ((f : Nat) : Int)) rfl Mono.rr (fun _ _ _ h _ => h) (fun ρ a W hR hd hf => ?h6) ?_
  case h6 =>
    have e57 := Mono.dep_val hd hf (t := 57) (k := 5) (by kernel_rfl) rfl
    clear hd hf
    refine ⟨_, _, by go_simp; first | rfl | exact ⟨rfl, rfl⟩, ?_⟩
    exact (HF.out W).mono (fun e W' ⟨he, hb⟩ => ⟨_, he, hb, rfl⟩)
  refine Mono.rgl_val (v := ?v7) rfl Mono.rr (fun ρ a W hR hd hf => ?h7) ?_
  case h7 =>
    have e58 := Mono.dep_val hd hf (t := 58) (k := 6) (by kernel_rfl) rfl
    have hq := Q_f.out
    clear hd hf
    (go_simp; try with_reducible rfl)
  refine Mono.rgl_val (v := ?v8) rfl Mono.rr (fun ρ a W hR hd hf => ?h8) ?_
  case h8 =>
    have e1 := Mono.init_get hf (t := 1) (by kernel_rfl)
    clear hd hf
    (go_simp; try with_reducible rfl)
  refine Mono.rgl_val (v := ?v9) rfl Mono.rr (fun ρ a W hR hd hf => ?h9) ?_
  case h9 =>
    have e60 := Mono.dep_val hd hf (t := 60) (k := 8) (by kernel_rfl) rfl
    clear hd hf
    (go_simp; try with_reducible rfl)
  refine Mono.rgl_val (v := ?v10) rfl Mono.rr (fun ρ a W hR hd hf => ?h10) ?_
  case h10 =>
    have e61 := Mono.dep_val hd hf (t := 61) (k := 9) (by kernel_rfl) rfl
    have hk := (HC4.out.below hR (by omega) : Cells W _ _) 7 _ rfl
    clear hd hf
    (go_simp; try with_reducible rfl)
  refine Mono.rgl_val (v := ?v11) rfl Mono.rr (fun ρ a W hR hd hf => ?h11) ?_
  case h11 =>
    have e62 := Mono.dep_val hd hf (t := 62) (k := 10) (by kernel_rfl) rfl
    have hq := Q_me.out
    clear hd hf
    (go_simp; try with_reducible rfl)
  refine Mono.rgl_val (v := ?v12) rfl Mono.rr (fun ρ a W hR hd hf => ?h12) ?_
  case h12 =>
    have e6 := Mono.init_get hf (t := 6) (by kernel_rfl)
    clear hd hf
    (go_simp; try with_reducible rfl)
  refine Mono.rgl_val (v := ?v13) rfl Mono.rr (fun ρ a W hR hd hf => ?h13) ?_
  case h13 =>
    have e64 := Mono.dep_val hd hf (t := 64) (k := 12) (by kernel_rfl) rfl
    have hq := Q_C.out
    clear hd hf
    (go_simp; try with_reducible rfl)
  refine Mono.rgl_val (v := ?v14) rfl Mono.rr (fun ρ a W hR hd hf => ?h14) ?_
  case h14 =>
    have e5 := Mono.init_get hf (t := 5) (by kernel_rfl)
    clear hd hf
    (go_simp; try with_reducible rfl)
  refine Mono.rgl_val (v := ?v15) rfl Mono.rr (fun ρ a W hR hd hf => ?h15) ?_
  case h15 =>
    have e66 := Mono.dep_val hd hf (t := 66) (k := 14) (by kernel_rfl) rfl
    have hq := Q_D.out
    clear hd hf
    (go_simp; try with_reducible rfl)
  refine Mono.rgl_pred (fun z W => SU .u64 W z [(788 : Int), (20 : Int), (f : Int), (me : Int), (C : Int), (D : Int)]) rfl hstSU (fun ρ a W hR hd hf => ?h16) ?_
  case h16 =>
    have e55 := Mono.dep_val hd hf (t := 55) (k := 3) (by kernel_rfl) rfl
    have e59 := Mono.dep_val hd hf (t := 59) (k := 7) (by kernel_rfl) rfl
    have e63 := Mono.dep_val hd hf (t := 63) (k := 11) (by kernel_rfl) rfl
    have e65 := Mono.dep_val hd hf (t := 65) (k := 13) (by kernel_rfl) rfl
    have e67 := Mono.dep_val hd hf (t := 67) (k := 15) (by kernel_rfl) rfl
    clear hd hf
    exact ⟨_, _, by go_simp; rfl, (Below.refl _ _).alloc (Nat.le_refl _) _, SU.new .u64 W _ _⟩
  refine Mono.rgl_val (v := .int .i64 6) rfl Mono.rr (fun ρ a W hR hd hf => ?h17) ?_
  case h17 =>
    obtain ⟨e68, d16⟩ := Mono.dep_get hd hf (t := 68) (k := 16) (by kernel_rfl)
    replace d16 : (fun z W => SU .u64 W z [(788 : Int), (20 : Int), (f : Int), (me : Int), (C : Int), (D : Int)]) (ρ 16) W := d16
    obtain ⟨bq, oq, cq, hzq, _, _⟩ := d16
    rw [hzq] at e68
    clear hd hf
    (go_simp; try with_reducible rfl)
  refine Mono.rgl_val (v := ?v18) rfl Mono.rr (fun ρ a W hR hd hf => ?h18) ?_
  case h18 =>
    clear hd hf
    (go_simp; try with_reducible rfl)
  refine Mono.rgl_done rfl (fun ρ W hR ht => ?_)
  obtain ⟨d18, d17, d16, d15, d14, d13, d12, d11, d10, d9, d8, d7, d6, d5, d4, d3, d2, d1, d0, _⟩ := ht
  replace d16 : (fun z W => SU .u64 W z [(788 : Int), (20 : Int), (f : Int), (me : Int), (C : Int), (D : Int)]) (ρ 16) W := d16
  simp only [List.length_cons, List.length_nil, Nat.reduceAdd] at d0 d1 d2 d3 d4 d5 d6 d7 d8 d9 d10 d11 d12 d13 d14 d15 d17 d18
  simp only [Mono.putAll, Nat.reduceAdd, d0, d1, d2, d3, d4, d5, d6, d7, d8, d9, d10, d11, d12, d13, d14, d15, d17, d18, Act.put, List.setIfInBounds_toArray, List.set_cons_zero, List.set_cons_succ]
  clear d0 d1 d2 d3 d4 d5 d6 d7 d8 d9 d10 d11 d12 d13 d14 d15 d17 d18
  generalize ρ 16 = r16 at *
  have hz5 := hR.size
  have HO := Lib.hid (HO.out.below hR)
  have HB5 := Lib.hid (HB4.out.trans (hR.mono (by omega)))
  have HC5 := Lib.hid (HC4.out.below hR (by omega))
  obtain ⟨bs, os, cs, hrs, hbs, hcs⟩ := d16
  simp only [List.length_cons, List.length_nil, Nat.zero_add, Nat.reduceAdd] at hrs
  subst hrs
  have HS : Hid (∀ j, j < 6 → W.cell? ⟨bs, os + j, none⟩ = some (.int .u64 (([(788 : Int), (20 : Int), (f : Int), (me : Int), (C : Int), (D : Int)] : List Int).getD j 0))) := Lib.hid hcs
  clear hR hcs HB4 HC4
  obtain ⟨w5, rfl⟩ : ∃ z, z = W := ⟨_, rfl⟩
  have hz5b : w.heap.size + 1 ≤ w5.heap.size := by omega
  clear hz5 hz4 hz3
  go_wp2_with (fail)
  go_loopw [12, 14, 70, 71, 72, 73, 74, 75, 76, 77] (fun v _ i _ _ _ _ _ _ _ wr => ∃ j : Nat, i = .int .i64 j ∧ j ≤ 6 ∧ Hid (OB (w.heap.size + 1) wr v (byt 4 33639248 ++ bys 2 (([(788 : Int), (20 : Int), (f : Int), (me : Int), (C : Int), (D : Int)] : List Int).take j))) ∧ Hid (Below w5.heap.size w5 wr)) (fun _ _ i _ _ _ _ _ _ _ _ => 6 - (intOf i).toNat)
  case atStart => exact ⟨0, rfl, by omega, Lib.hid (by rw [List.take_zero]; show OB _ _ _ (_ ++ []); rw [List.append_nil]; exact HO.out), Lib.hid (Below.refl _ _)⟩
  case round =>
    obtain ⟨j, rfl, hj, HOj, HBj⟩ := hrel
    have hzj := HBj.out.size
    by_cases hlt : j < 6
    · have hk : wr.cell? ⟨bs, os + j, none⟩ = _ := (HBj.out.cell (p := ⟨bs, os + j, none⟩) hbs).trans (HS.out j hlt)
      have hmem : ([(788 : Int), (20 : Int), (f : Int), (me : Int), (C : Int), (D : Int)] : List Int).getD j 0 ∈ ([(788 : Int), (20 : Int), (f : Int), (me : Int), (C : Int), (D : Int)] : List Int) := by
        rw [List.getD_eq_getElem?_getD, List.getElem?_eq_getElem (show j < ([(788 : Int), (20 : Int), (f : Int), (me : Int), (C : Int), (D : Int)] : List Int).length from hlt)]; exact List.getElem_mem _
      have hxx := HQ1.out _ hmem
      have HSN := Lib.hid (bys_snoc 2 ([(788 : Int), (20 : Int), (f : Int), (me : Int), (C : Int), (D : Int)] : List Int) j hlt)
      clear hmem
      generalize ([(788 : Int), (20 : Int), (f : Int), (me : Int), (C : Int), (D : Int)] : List Int).getD j 0 = x at *
      obtain ⟨z, rfl⟩ : ∃ z : Nat, x = z := ⟨x.toNat, by omega⟩
      go_wp2_with (fail)
      refine (appO 2 z HOj.out.byt (by simp only [List.length_append, bys_length, byt_length, List.length_cons, List.length_nil, Array.length_toList, List.length_take]; have : nm.data.size = nm.size := rfl; omega) (by decide) (by decide) (by omega)).mono ?_
      rintro e w6 ⟨u6, rfl, ho, b6⟩
      have HO6 := Lib.hid (OB.mono ho (show w.heap.size + 1 ≤ wr.heap.size by omega))
      have HB6 := Lib.hid (HBj.out.trans (b6.mono (by omega)))
      clear ho b6
      go_wp2_with (fail)
      go_roundw
      case rel => exact ⟨j + 1, by go_num, by omega, Lib.hid (by rw [HSN.out, ← List.append_assoc]; exact HO6.out), HB6⟩
      case measure => simp [intOf]; omega
    · have HO := Lib.hid (show OB (w.heap.size + 1) wr _ (byt 4 33639248 ++ bys 2 ([(788 : Int), (20 : Int), (f : Int), (me : Int), (C : Int), (D : Int)] : List Int)) from by have h := HOj.out; rw [show j = 6 by omega] at h; exact h)
      have HB7 := Lib.hid (HB5.out.trans (HBj.out.mono (by omega)))
      have HC7 := Lib.hid (HC5.out.below HBj.out (by omega))
      have hz7 : w.heap.size + 1 ≤ wr.heap.size := by omega
      clear HOj HBj HS HB5 HC5 hbs hzj hj
      obtain ⟨w7, rfl⟩ : ∃ z : World, z = wr := ⟨_, rfl⟩
      have k8 := HC7.out 8 _ rfl
      have hq := Q_cr.out
      go_wp2_with (fail)
      clear k8 hq hlt
      go_loopw [12, 16, 86, 87, 88, 89, 90, 91, 92, 93] (fun v _ i _ _ _ _ _ _ _ wr => ∃ j : Nat, i = .int .i64 j ∧ j ≤ 3 ∧ w7.heap.size < wr.heap.size ∧ Hid (OB (w.heap.size + 1) wr v ((byt 4 33639248 ++ bys 2 [(788 : Int), (20 : Int), (f : Int), (me : Int), (C : Int), (D : Int)]) ++ bys 4 (([(cr : Int), (pk : Int), (sz : Int)] : List Int).take j))) ∧ Hid (Below w7.heap.size w7 wr) ∧ Hid (∀ j, j < 3 → wr.cell? ⟨w7.heap.size, j, none⟩ = some (.int .u64 (([(cr : Int), (pk : Int), (sz : Int)] : List Int).getD j 0)))) (fun _ _ i _ _ _ _ _ _ _ _ => 3 - (intOf i).toNat)
      case atStart =>
        have hb78 := fun o => (Below.refl w7.heap.size w7).alloc (Nat.le_refl _) o
        refine ⟨0, rfl, by omega, by simp, Lib.hid ?_, Lib.hid (hb78 _), Lib.hid (fun j hj => ?_)⟩
        · rw [List.take_zero]; show OB _ _ _ (_ ++ []); rw [List.append_nil]; exact HO.out.below (hb78 _)
        · rw [World.cell?_alloc_at _ _ _ _ rfl]
          match j, hj with
          | 0, _ => rfl
          | 1, _ => rfl
          | 2, _ => rfl
      case round =>
        obtain ⟨i, rfl, hj, hwz, HOj, HBj, HSj⟩ := hrel
        by_cases hlt : i < 3
        · have hk := HSj.out i hlt
          have hmem : ([(cr : Int), (pk : Int), (sz : Int)] : List Int).getD i 0 ∈ ([(cr : Int), (pk : Int), (sz : Int)] : List Int) := by
            rw [List.getD_eq_getElem?_getD, List.getElem?_eq_getElem (show i < ([(cr : Int), (pk : Int), (sz : Int)] : List Int).length from hlt)]; exact List.getElem_mem _
          have hxx := HQ2.out _ hmem
          have HSN := Lib.hid (bys_snoc 4 ([(cr : Int), (pk : Int), (sz : Int)] : List Int) i hlt)
          clear hmem
          generalize ([(cr : Int), (pk : Int), (sz : Int)] : List Int).getD i 0 = x at *
          obtain ⟨z, rfl⟩ : ∃ z : Nat, x = z := ⟨x.toNat, by omega⟩
          go_wp2_with (fail)
          refine (appO 4 z HOj.out.byt (by simp only [List.length_append, bys_length, byt_length, List.length_cons, List.length_nil, Array.length_toList, List.length_take]; have : nm.data.size = nm.size := rfl; omega) (by decide) (by decide) (by omega)).mono ?_
          rintro e w9 ⟨u9, rfl, ho, b9⟩
          have hz9 := b9.size
          have HO9 := Lib.hid (OB.mono ho (show w.heap.size + 1 ≤ wr.heap.size by omega))
          have HB9 := Lib.hid (HBj.out.trans (b9.mono (by omega)))
          have HS9 : Hid (∀ i, i < 3 → w9.cell? ⟨w7.heap.size, i, none⟩ = some (.int .u64 (([(cr : Int), (pk : Int), (sz : Int)] : List Int).getD i 0))) := Lib.hid (fun i hj => (b9.cell (p := ⟨w7.heap.size, i, none⟩) hwz).trans (HSj.out i hj))
          clear ho b9 
          go_wp2_with (fail)
          go_roundw
          case rel => exact ⟨i + 1, by go_num, by omega, by omega, Lib.hid (by rw [HSN.out, ← List.append_assoc]; exact HO9.out), HB9, HS9⟩
          case measure => simp [intOf]; omega
        · have HO := Lib.hid (show OB (w.heap.size + 1) wr _ ((byt 4 33639248 ++ bys 2 [(788 : Int), (20 : Int), (f : Int), (me : Int), (C : Int), (D : Int)]) ++ bys 4 ([(cr : Int), (pk : Int), (sz : Int)] : List Int)) from by have h := HOj.out; rw [show i = 3 by omega] at h; exact h)
          have HBA := Lib.hid (HB7.out.trans (HBj.out.mono (by omega)))
          have HCA := Lib.hid (HC7.out.below HBj.out (by omega))
          have hzA : w.heap.size + 1 ≤ wr.heap.size := by omega
          clear HOj HBj HSj HB7 HC7 hz7 hwz hj
          obtain ⟨wA, rfl⟩ : ∃ z : World, z = wr := ⟨_, rfl⟩
          have k0 := HCA.out 0 _ rfl
          have hq := Q_nm.out
          go_wp2_with (fail)
          clear k0 hq hlt
          go_loopw [12, 18, 102, 103, 104, 105, 106, 107, 108, 109] (fun v _ i _ _ _ _ _ _ _ wr => ∃ j : Nat, i = .int .i64 j ∧ j ≤ 5 ∧ wA.heap.size < wr.heap.size ∧ Hid (OB (w.heap.size + 1) wr v (((byt 4 33639248 ++ bys 2 [(788 : Int), (20 : Int), (f : Int), (me : Int), (C : Int), (D : Int)]) ++ bys 4 [(cr : Int), (pk : Int), (sz : Int)]) ++ bys 2 (([(nm.size : Int), (0 : Int), (0 : Int), (0 : Int), (0 : Int)] : List Int).take j))) ∧ Hid (Below wA.heap.size wA wr) ∧ Hid (∀ j, j < 5 → wr.cell? ⟨wA.heap.size, j, none⟩ = some (.int .u64 (([(nm.size : Int), (0 : Int), (0 : Int), (0 : Int), (0 : Int)] : List Int).getD j 0)))) (fun _ _ i _ _ _ _ _ _ _ _ => 5 - (intOf i).toNat)
          case atStart =>
            have hb78 := fun o => (Below.refl wA.heap.size wA).alloc (Nat.le_refl _) o
            refine ⟨0, rfl, by omega, by simp, Lib.hid ?_, Lib.hid (hb78 _), Lib.hid (fun j hj => ?_)⟩
            · rw [List.take_zero]; show OB _ _ _ (_ ++ []); rw [List.append_nil]; exact HO.out.below (hb78 _)
            · rw [World.cell?_alloc_at _ _ _ _ rfl]
              match j, hj with
              | 0, _ => rfl
              | 1, _ => rfl
              | 2, _ => rfl
              | 3, _ => rfl
              | 4, _ => rfl
          case round =>
            obtain ⟨i, rfl, hj, hwz, HOj, HBj, HSj⟩ := hrel
            by_cases hlt : i < 5
            · have hk := HSj.out i hlt
              have hmem : ([(nm.size : Int), (0 : Int), (0 : Int), (0 : Int), (0 : Int)] : List Int).getD i 0 ∈ ([(nm.size : Int), (0 : Int), (0 : Int), (0 : Int), (0 : Int)] : List Int) := by
                rw [List.getD_eq_getElem?_getD, List.getElem?_eq_getElem (show i < ([(nm.size : Int), (0 : Int), (0 : Int), (0 : Int), (0 : Int)] : List Int).length from hlt)]; exact List.getElem_mem _
              have hxx := HQ3.out _ hmem
              have HSN := Lib.hid (bys_snoc 2 ([(nm.size : Int), (0 : Int), (0 : Int), (0 : Int), (0 : Int)] : List Int) i hlt)
              clear hmem
              generalize ([(nm.size : Int), (0 : Int), (0 : Int), (0 : Int), (0 : Int)] : List Int).getD i 0 = x at *
              obtain ⟨z, rfl⟩ : ∃ z : Nat, x = z := ⟨x.toNat, by omega⟩
              go_wp2_with (fail)
              refine (appO 2 z HOj.out.byt (by simp only [List.length_append, bys_length, byt_length, List.length_cons, List.length_nil, Array.length_toList, List.length_take]; have : nm.data.size = nm.size := rfl; omega) (by decide) (by decide) (by omega)).mono ?_
              rintro e w9 ⟨u9, rfl, ho, b9⟩
              have hz9 := b9.size
              have HO9 := Lib.hid (OB.mono ho (show w.heap.size + 1 ≤ wr.heap.size by omega))
              have HB9 := Lib.hid (HBj.out.trans (b9.mono (by omega)))
              have HS9 : Hid (∀ i, i < 5 → w9.cell? ⟨wA.heap.size, i, none⟩ = some (.int .u64 (([(nm.size : Int), (0 : Int), (0 : Int), (0 : Int), (0 : Int)] : List Int).getD i 0))) := Lib.hid (fun i hj => (b9.cell (p := ⟨wA.heap.size, i, none⟩) hwz).trans (HSj.out i hj))
              clear ho b9 
              go_wp2_with (fail)
              go_roundw
              case rel => exact ⟨i + 1, by go_num, by omega, by omega, Lib.hid (by rw [HSN.out, ← List.append_assoc]; exact HO9.out), HB9, HS9⟩
              case measure => simp [intOf]; omega
            · have HO := Lib.hid (show OB (w.heap.size + 1) wr _ (((byt 4 33639248 ++ bys 2 [(788 : Int), (20 : Int), (f : Int), (me : Int), (C : Int), (D : Int)]) ++ bys 4 [(cr : Int), (pk : Int), (sz : Int)]) ++ bys 2 ([(nm.size : Int), (0 : Int), (0 : Int), (0 : Int), (0 : Int)] : List Int)) from by have h := HOj.out; rw [show i = 5 by omega] at h; exact h)
              have HBB := Lib.hid (HBA.out.trans (HBj.out.mono (by omega)))
              have HCB := Lib.hid (HCA.out.below HBj.out (by omega))
              have hzB : w.heap.size + 1 ≤ wr.heap.size := by omega
              clear HOj HBj HSj HBA HCA hzA hwz hj
              obtain ⟨wB, rfl⟩ : ∃ z : World, z = wr := ⟨_, rfl⟩
              go_wp2_with (fail)
              refine (appO 4 2175008768 HO.out.byt (by simp only [List.length_append, bys_length, byt_length, List.length_cons, List.length_nil, Array.length_toList, List.length_take]; have : nm.data.size = nm.size := rfl; omega) (by decide) (by decide) (by omega)).mono ?_
              rintro e wD ⟨uD, rfl, ho, bb⟩
              have hzD := bb.size
              have HO := Lib.hid (OB.mono ho (show w.heap.size + 1 ≤ wB.heap.size by omega))
              have HBD := Lib.hid (HBB.out.trans (bb.mono (by omega)))
              have HCD := Lib.hid (HCB.out.below bb (by omega))
              have hzz : w.heap.size + 1 ≤ wD.heap.size := by omega
              clear hlt ho bb HBB HCB hzB hzD
              have hzD := hzz
              clear hzz
              go_wp2_with (fail)
              refine (appO 4 pl HO.out.byt (by simp only [List.length_append, bys_length, byt_length, List.length_cons, List.length_nil, Array.length_toList, List.length_take]; have : nm.data.size = nm.size := rfl; omega) (by decide) (by decide) (by omega)).mono ?_
              rintro e wE ⟨uE, rfl, ho, bb⟩
              have hzE := bb.size
              have HO := Lib.hid (OB.mono ho (show w.heap.size + 1 ≤ wD.heap.size by omega))
              have HBE := Lib.hid (HBD.out.trans (bb.mono (by omega)))
              have HCE := Lib.hid (HCD.out.below bb (by omega))
              have hzz : w.heap.size + 1 ≤ wE.heap.size := by omega
              clear ho bb HBD HCD hzD hzE
              have hzE := hzz
              clear hzz
              have k0 := HCE.out 0 _ rfl
              go_wp2_with (at_builtin; refine append_OS rfl _ _ rfl rfl HO.out rfl (by simp only [List.length_append, bys_length, byt_length, List.length_cons, List.length_nil, Array.length_toList, List.length_take]; have : nm.data.size = nm.size := rfl; omega) (by omega) ?_)
              intro vG wG ho bb
              have hzG : w.heap.size + 1 ≤ wG.heap.size := Nat.le_trans hzE bb.size
              have HO := Lib.hid ho
              have HBG := Lib.hid (HBE.out.trans (bb.mono (by omega)))
              have HCG := Lib.hid (HCE.out.below bb (by omega))
              clear ho bb k0 HBE HCE hzE
              have k11 := HCG.out 11 _ rfl
              go_wp2_with (fail)
              go_ret2
              exact ⟨_, rfl, OB.mono HO.out (by omega), HBG.out⟩
end Go.Proofs.YtjkmgakgjoojfaaDoor
