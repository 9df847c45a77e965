/- local.Header.Encode: a header that may be. -/
import Derived.Test.YtcpojpgdjjmfbaaDoorLocA
import Derived.Test.YtcpojpgdjjmfbaaDoorLocP
import Derived.Deep.QuietTactic
import Derived.BigQuiet
namespace Go.Proofs.YtcpojpgdjjmfbaaDoor
set_option linter.unusedVariables false
set_option linter.unusedSimpArgs false
set_option maxRecDepth 100000
open Go.RowKit
set_option maxHeartbeats 4000000 in
theorem lenc_tt (nm : ByteArray) (y mo da ho mi se : Int) (me cr pk sz f D C : Nat) (w : World) (hA : Amb w) (hnm : nm.size ≤ 255) (hme : me ≤ 8) (hcr : cr < 4294967296) (hpk : pk ≤ 33554432) (hsz : sz ≤ 16777216) (hf : f ≤ 4000) (hD : D ≤ 65535) (hC : C ≤ 65535)
    (HK : Hid (∀ W, Amb W → Calls Tryd.prog 10 #[.agg #[.string nm, .int .i64 y, .int .i64 mo, .int .i64 da, .int .i64 ho, .int .i64 mi, .int .i64 se, .int .i64 (me : Nat), .int .u32 (cr : Nat), .int .i64 (pk : Nat), .int .i64 (sz : Nat), .bool true, .bool true]] W (CQ (.int .i64 0) W)))
    (HE : Hid (∀ W, Calls Tryd.prog 25 #[.agg #[.int .i64 y, .int .i64 mo, .int .i64 da, .int .i64 ho, .int .i64 mi, .int .i64 se]] W fun e w' => e = .returned (.tuple #[.int .u16 (D : Nat), .int .u16 (C : Nat), .int .i64 0]) ∧ Below W.heap.size W w'))
    (HV : Hid (∀ W, Calls Tryd.prog 11 #[.agg #[.string nm, .int .i64 y, .int .i64 mo, .int .i64 da, .int .i64 ho, .int .i64 mi, .int .i64 se, .int .i64 (me : Nat), .int .u32 (cr : Nat), .int .i64 (pk : Nat), .int .i64 (sz : Nat), .bool true, .bool true]] W (CQ (.int .i64 45) W)))
    (HF : Hid (∀ W, Calls Tryd.prog 13 #[.agg #[.string nm, .int .i64 y, .int .i64 mo, .int .i64 da, .int .i64 ho, .int .i64 mi, .int .i64 se, .int .i64 (me : Nat), .int .u32 (cr : Nat), .int .i64 (pk : Nat), .int .i64 (sz : Nat), .bool true, .bool true]] W (CQ (.int .i64 (f : Nat)) W))) :
    Calls Tryd.prog 9 #[.agg #[.string nm, .int .i64 y, .int .i64 mo, .int .i64 da, .int .i64 ho, .int .i64 mi, .int .i64 se, .int .i64 (me : Nat), .int .u32 (cr : Nat), .int .i64 (pk : Nat), .int .i64 (sz : Nat), .bool true, .bool true]] w fun e w' => ∃ v, e = .returned (.tuple #[v, .int .i64 0]) ∧ OB w.heap.size w' v ((((((((((byt 4 67324752 ++ bys 2 [(45 : Int), (f : Int), (me : Int), (C : Int), (D : Int)]) ++ bys 4 [(0 : Int), (4294967295 : Int), (4294967295 : Int)]) ++ byt 2 nm.size) ++ byt 2 20) ++ nm.data.toList)) ++ byt 2 1) ++ byt 2 16) ++ byt 8 0) ++ byt 8 0) ∧ Below w.heap.size w w' := by
  have HB := Lib.hid ((Below.refl w.heap.size w).alloc (Nat.le_refl _) (.cells #[.string nm, .int .i64 y, .int .i64 mo, .int .i64 da, .int .i64 ho, .int .i64 mi, .int .i64 se, .int .i64 (me : Nat), .int .u32 (cr : Nat), .int .i64 (pk : Nat), .int .i64 (sz : Nat), .bool true, .bool true] 26))
  have HC := Lib.hid (Cells.new_at w [.string nm, .int .i64 y, .int .i64 mo, .int .i64 da, .int .i64 ho, .int .i64 mi, .int .i64 se, .int .i64 (me : Nat), .int .u32 (cr : Nat), .int .i64 (pk : Nat), .int .i64 (sz : Nat), .bool true, .bool true] 26 w.heap.size rfl)
  have HA := Lib.hid hA
  have q_cr : IntKind.u64.wrap (cr : Int) = cr := by rw [IntKind.wrap_u64]; omega
  have q_pk : IntKind.u64.wrap (pk : Int) = pk := by rw [IntKind.wrap_u64]; omega
  have q_sz : IntKind.u64.wrap (sz : Int) = sz := by rw [IntKind.wrap_u64]; omega
  have Q_me : Hid (IntKind.u64.wrap (me : Int) = me) := Lib.hid (by rw [IntKind.wrap_u64]; omega)
  have Q_f : Hid (IntKind.u64.wrap (f : Int) = f) := Lib.hid (by rw [IntKind.wrap_u64]; omega)
  have Q_D : Hid (IntKind.u64.wrap (D : Int) = D) := Lib.hid (by rw [IntKind.wrap_u64]; omega)
  have Q_C : Hid (IntKind.u64.wrap (C : Int) = C) := Lib.hid (by rw [IntKind.wrap_u64]; omega)
  have Q_nm : Hid (IntKind.u64.wrap (nm.size : Int) = nm.size) := Lib.hid (by rw [IntKind.wrap_u64]; omega)
  have HQ1 : Hid (∀ x ∈ ([(45 : Int), (f : Int), (me : Int), (C : Int), (D : Int)] : List Int), 0 ≤ x ∧ x < 18446744073709551616) := Lib.hid (by intro x hx; simp only [List.mem_cons, List.not_mem_nil, or_false] at hx; omega)
  have HQ2 : Hid (∀ x ∈ ([(0 : Int), (4294967295 : Int), (4294967295 : Int)] : List Int), 0 ≤ x ∧ x < 18446744073709551616) := Lib.hid (by intro x hx; simp only [List.mem_cons, List.not_mem_nil, or_false] at hx; omega)
  clear hA
  go_enter Tryd.func9, Tryd.ntmps9
  go_wp2_with (fail)
  refine (HK.out _ (HA.out.below HB.out)).mono ?_
  rintro e w1 ⟨rfl, b1⟩
  have hz1 := b1.size
  simp only [World.size_alloc] at hz1
  have HB1 := Lib.hid (HB.out.trans (b1.mono (by simp)))
  have HC1 := Lib.hid (HC.out.below b1 (by simp))
  clear b1 HB HC
  have k1 := HC1.out 1 _ rfl
  have k2 := HC1.out 2 _ rfl
  have k3 := HC1.out 3 _ rfl
  have k4 := HC1.out 4 _ rfl
  have k5 := HC1.out 5 _ rfl
  have k6 := HC1.out 6 _ rfl
  go_wp2_with (fail)
  refine (HE.out _).mono ?_
  rintro e w2 ⟨rfl, b2⟩
  have hz2 := b2.size
  have HB2 := Lib.hid (HB1.out.trans (b2.mono (by omega)))
  have HC2 := Lib.hid (HC1.out.below b2 (by omega))
  clear b2 HB1 HC1 k1 k2 k3 k4 k5 k6
  have k8 := HC2.out 8 _ rfl
  have k9 := HC2.out 9 _ rfl
  have k10 := HC2.out 10 _ rfl
  go_wp2_with (fail)
  go_quiet (fail)
  have HB3 := Lib.hid (below_drewN HB2.out nq)
  have HC3 := Lib.hid (HC2.out.below (below_drewN (Below.refl w2.heap.size w2) nq) (by omega))
  have hz3 : w.heap.size + 1 ≤ (w2.drewN nq).heap.size := by show _ ≤ w2.heap.size; omega
  clear k8 k9 k10 HB2 HC2
  generalize w2.drewN nq = w3 at *
  have k11 := HC3.out 11 _ rfl
  have k12 := HC3.out 12 _ rfl
  clear hz1 hz2 q_cr q_pk q_sz
  go_wp2_with (fail)
  refine (appO 4 67324752 (nil_byt _) (by decide) (by decide) (by decide) (by decide)).mono ?_
  rintro e w4 ⟨u4, rfl, ho, b4⟩
  have hz4 := b4.size
  rw [List.nil_append] at ho
  have HO := Lib.hid (OB.mono ho (show w.heap.size + 1 ≤ w3.heap.size by omega))
  have HB4 := Lib.hid (HB3.out.trans (b4.mono (by omega)))
  have HC4 := Lib.hid (HC3.out.below b4 (by omega))
  clear ho b4 k11 k12 HB3 HC3
  go_wp2_with (fail)
  refine Mono.region_below (by kernel_rfl) (by kernel_rfl) (by kernel_rfl) ?_
  refine Mono.rgl_val (v := ?v0) rfl Mono.rr (fun ρ a W hR hd hf => ?h0) ?_
  case h0 =>
    have e1 := Mono.init_get hf (t := 1) (by kernel_rfl)
    have hk0 := (HC4.out.below hR (by omega) : Cells W _ _) 0 _ rfl
    have hk1 := (HC4.out.below hR (by omega) : Cells W _ _) 1 _ rfl
    have hk2 := (HC4.out.below hR (by omega) : Cells W _ _) 2 _ rfl
    have hk3 := (HC4.out.below hR (by omega) : Cells W _ _) 3 _ rfl
    have hk4 := (HC4.out.below hR (by omega) : Cells W _ _) 4 _ rfl
    have hk5 := (HC4.out.below hR (by omega) : Cells W _ _) 5 _ rfl
    have hk6 := (HC4.out.below hR (by omega) : Cells W _ _) 6 _ rfl
    have hk7 := (HC4.out.below hR (by omega) : Cells W _ _) 7 _ rfl
    have hk8 := (HC4.out.below hR (by omega) : Cells W _ _) 8 _ rfl
    have hk9 := (HC4.out.below hR (by omega) : Cells W _ _) 9 _ rfl
    have hk10 := (HC4.out.below hR (by omega) : Cells W _ _) 10 _ rfl
    have hk11 := (HC4.out.below hR (by omega) : Cells W _ _) 11 _ rfl
    have hk12 := (HC4.out.below hR (by omega) : Cells W _ _) 12 _ rfl
    clear hd hf
    (go_simp; try with_reducible rfl)
  refine Mono.rgl_call (fun x _ => x = .int .i64 45) rfl Mono.rr (fun _ _ _ h _ => h) (fun ρ a W hR hd hf => ?h1) ?_
  case h1 =>
    have e50 := Mono.dep_val hd hf (t := 50) (k := 0) (by kernel_rfl) rfl
    clear hd hf
    refine ⟨_, _, by go_simp; first | rfl | exact ⟨rfl, rfl⟩, ?_⟩
    exact (HV.out W).mono (fun e W' ⟨he, hb⟩ => ⟨_, he, hb, rfl⟩)
  refine Mono.rgl_val (v := ?v2) rfl Mono.rr (fun ρ a W hR hd hf => ?h2) ?_
  case h2 =>
    have e51 := Mono.dep_val hd hf (t := 51) (k := 1) (by kernel_rfl) rfl
    clear hd hf
    (go_simp; try with_reducible rfl)
  refine Mono.rgl_val (v := ?v3) rfl Mono.rr (fun ρ a W hR hd hf => ?h3) ?_
  case h3 =>
    have e1 := Mono.init_get hf (t := 1) (by kernel_rfl)
    have hk0 := (HC4.out.below hR (by omega) : Cells W _ _) 0 _ rfl
    have hk1 := (HC4.out.below hR (by omega) : Cells W _ _) 1 _ rfl
    have hk2 := (HC4.out.below hR (by omega) : Cells W _ _) 2 _ rfl
    have hk3 := (HC4.out.below hR (by omega) : Cells W _ _) 3 _ rfl
    have hk4 := (HC4.out.below hR (by omega) : Cells W _ _) 4 _ rfl
    have hk5 := (HC4.out.below hR (by omega) : Cells W _ _) 5 _ rfl
    have hk6 := (HC4.out.below hR (by omega) : Cells W _ _) 6 _ rfl
    have hk7 := (HC4.out.below hR (by omega) : Cells W _ _) 7 _ rfl
    have hk8 := (HC4.out.below hR (by omega) : Cells W _ _) 8 _ rfl
    have hk9 := (HC4.out.below hR (by omega) : Cells W _ _) 9 _ rfl
    have hk10 := (HC4.out.below hR (by omega) : Cells W _ _) 10 _ rfl
    have hk11 := (HC4.out.below hR (by omega) : Cells W _ _) 11 _ rfl
    have hk12 := (HC4.out.below hR (by omega) : Cells W _ _) 12 _ rfl
    clear hd hf
    (go_simp; try with_reducible rfl)
  refine Mono.rgl_call (fun x _ => x = .int .i64 ((f : Nat) : Int)) rfl Mono.rr (fun _ _ _ h _ => h) (fun ρ a W hR hd hf => ?h4) ?_
  case h4 =>
    have e53 := Mono.dep_val hd hf (t := 53) (k := 3) (by kernel_rfl) rfl
    clear hd hf
    refine ⟨_, _, by go_simp; first | rfl | exact ⟨rfl, rfl⟩, ?_⟩
    exact (HF.out W).mono (fun e W' ⟨he, hb⟩ => ⟨_, he, hb, rfl⟩)
  refine Mono.rgl_val (v := ?v5) rfl Mono.rr (fun ρ a W hR hd hf => ?h5) ?_
  case h5 =>
    have e54 := Mono.dep_val hd hf (t := 54) (k := 4) (by kernel_rfl) rfl
    have hq := Q_f.out
    clear hd hf
    (go_simp; try with_reducible rfl)
  refine Mono.rgl_val (v := ?v6) rfl Mono.rr (fun ρ a W hR hd hf => ?h6) ?_
  case h6 =>
    have e1 := Mono.init_get hf (t := 1) (by kernel_rfl)
    clear hd hf
    (go_simp; try with_reducible rfl)
  refine Mono.rgl_val (v := ?v7) rfl Mono.rr (fun ρ a W hR hd hf => ?h7) ?_
  case h7 =>
    have e56 := Mono.dep_val hd hf (t := 56) (k := 6) (by kernel_rfl) rfl
    have hk := (HC4.out.below hR (by omega) : Cells W _ _) 7 _ rfl
    clear hd hf
    (go_simp; try with_reducible rfl)
  refine Mono.rgl_val (v := ?v8) rfl Mono.rr (fun ρ a W hR hd hf => ?h8) ?_
  case h8 =>
    have e57 := Mono.dep_val hd hf (t := 57) (k := 7) (by kernel_rfl) rfl
    have hq := Q_me.out
    clear hd hf
    (go_simp; try with_reducible rfl)
  refine Mono.rgl_val (v := ?v9) rfl Mono.rr (fun ρ a W hR hd hf => ?h9) ?_
  case h9 =>
    have e6 := Mono.init_get hf (t := 6) (by kernel_rfl)
    clear hd hf
    (go_simp; try with_reducible rfl)
  refine Mono.rgl_val (v := ?v10) rfl Mono.rr (fun ρ a W hR hd hf => ?h10) ?_
  case h10 =>
    have e59 := Mono.dep_val hd hf (t := 59) (k := 9) (by kernel_rfl) rfl
    have hq := Q_C.out
    clear hd hf
    (go_simp; try with_reducible rfl)
  refine Mono.rgl_val (v := ?v11) rfl Mono.rr (fun ρ a W hR hd hf => ?h11) ?_
  case h11 =>
    have e5 := Mono.init_get hf (t := 5) (by kernel_rfl)
    clear hd hf
    (go_simp; try with_reducible rfl)
  refine Mono.rgl_val (v := ?v12) rfl Mono.rr (fun ρ a W hR hd hf => ?h12) ?_
  case h12 =>
    have e61 := Mono.dep_val hd hf (t := 61) (k := 11) (by kernel_rfl) rfl
    have hq := Q_D.out
    clear hd hf
    (go_simp; try with_reducible rfl)
  refine Mono.rgl_pred (fun z W => SU .u64 W z [(45 : Int), (f : Int), (me : Int), (C : Int), (D : Int)]) rfl hstSU (fun ρ a W hR hd hf => ?h13) ?_
  case h13 =>
    have e52 := Mono.dep_val hd hf (t := 52) (k := 2) (by kernel_rfl) rfl
    have e55 := Mono.dep_val hd hf (t := 55) (k := 5) (by kernel_rfl) rfl
    have e58 := Mono.dep_val hd hf (t := 58) (k := 8) (by kernel_rfl) rfl
    have e60 := Mono.dep_val hd hf (t := 60) (k := 10) (by kernel_rfl) rfl
    have e62 := Mono.dep_val hd hf (t := 62) (k := 12) (by kernel_rfl) rfl
    clear hd hf
    exact ⟨_, _, by go_simp; rfl, (Below.refl _ _).alloc (Nat.le_refl _) _, SU.new .u64 W _ _⟩
  refine Mono.rgl_val (v := .int .i64 5) rfl Mono.rr (fun ρ a W hR hd hf => ?h14) ?_
  case h14 =>
    obtain ⟨e63, d13⟩ := Mono.dep_get hd hf (t := 63) (k := 13) (by kernel_rfl)
    replace d13 : (fun z W => SU .u64 W z [(45 : Int), (f : Int), (me : Int), (C : Int), (D : Int)]) (ρ 13) W := d13
    obtain ⟨bq, oq, cq, hzq, _, _⟩ := d13
    rw [hzq] at e63
    clear hd hf
    (go_simp; try with_reducible rfl)
  refine Mono.rgl_val (v := ?v15) rfl Mono.rr (fun ρ a W hR hd hf => ?h15) ?_
  case h15 =>
    clear hd hf
    (go_simp; try with_reducible rfl)
  refine Mono.rgl_done rfl (fun ρ W hR ht => ?_)
  obtain ⟨d15, d14, d13, d12, d11, d10, d9, d8, d7, d6, d5, d4, d3, d2, d1, d0, _⟩ := ht
  replace d13 : (fun z W => SU .u64 W z [(45 : Int), (f : Int), (me : Int), (C : Int), (D : Int)]) (ρ 13) W := d13
  simp only [List.length_cons, List.length_nil, Nat.reduceAdd] at d0 d1 d2 d3 d4 d5 d6 d7 d8 d9 d10 d11 d12 d14 d15
  simp only [Mono.putAll, Nat.reduceAdd, d0, d1, d2, d3, d4, d5, d6, d7, d8, d9, d10, d11, d12, d14, d15, Act.put, List.setIfInBounds_toArray, List.set_cons_zero, List.set_cons_succ]
  clear d0 d1 d2 d3 d4 d5 d6 d7 d8 d9 d10 d11 d12 d14 d15
  generalize ρ 13 = r13 at *
  have hz5 := hR.size
  have HO := Lib.hid (HO.out.below hR)
  have HB5 := Lib.hid (HB4.out.trans (hR.mono (by omega)))
  have HC5 := Lib.hid (HC4.out.below hR (by omega))
  obtain ⟨bs, os, cs, hrs, hbs, hcs⟩ := d13
  simp only [List.length_cons, List.length_nil, Nat.zero_add, Nat.reduceAdd] at hrs
  subst hrs
  have HS : Hid (∀ j, j < 5 → W.cell? ⟨bs, os + j, none⟩ = some (.int .u64 (([(45 : Int), (f : Int), (me : Int), (C : Int), (D : Int)] : List Int).getD j 0))) := Lib.hid hcs
  clear hR hcs HB4 HC4
  obtain ⟨w5, rfl⟩ : ∃ z, z = W := ⟨_, rfl⟩
  have hz5b : w.heap.size + 1 ≤ w5.heap.size := by omega
  clear hz5 hz4 hz3
  go_wp2_with (fail)
  go_loopw [14, 16, 65, 66, 67, 68, 69, 70, 71, 72] (fun v _ i _ _ _ _ _ _ _ wr => ∃ j : Nat, i = .int .i64 j ∧ j ≤ 5 ∧ Hid (OB (w.heap.size + 1) wr v (byt 4 67324752 ++ bys 2 (([(45 : Int), (f : Int), (me : Int), (C : Int), (D : Int)] : List Int).take j))) ∧ Hid (Below w5.heap.size w5 wr)) (fun _ _ i _ _ _ _ _ _ _ _ => 5 - (intOf i).toNat)
  case atStart => exact ⟨0, rfl, by omega, Lib.hid (by rw [List.take_zero]; show OB _ _ _ (_ ++ []); rw [List.append_nil]; exact HO.out), Lib.hid (Below.refl _ _)⟩
  case round =>
    obtain ⟨j, rfl, hj, HOj, HBj⟩ := hrel
    have hzj := HBj.out.size
    by_cases hlt : j < 5
    · have hk : wr.cell? ⟨bs, os + j, none⟩ = _ := (HBj.out.cell (p := ⟨bs, os + j, none⟩) hbs).trans (HS.out j hlt)
      have hmem : ([(45 : Int), (f : Int), (me : Int), (C : Int), (D : Int)] : List Int).getD j 0 ∈ ([(45 : Int), (f : Int), (me : Int), (C : Int), (D : Int)] : List Int) := by
        rw [List.getD_eq_getElem?_getD, List.getElem?_eq_getElem (show j < ([(45 : Int), (f : Int), (me : Int), (C : Int), (D : Int)] : List Int).length from hlt)]; exact List.getElem_mem _
      have hxx := HQ1.out _ hmem
      have HSN := Lib.hid (bys_snoc 2 ([(45 : Int), (f : Int), (me : Int), (C : Int), (D : Int)] : List Int) j hlt)
      clear hmem
      generalize ([(45 : Int), (f : Int), (me : Int), (C : Int), (D : Int)] : List Int).getD j 0 = x at *
      obtain ⟨z, rfl⟩ : ∃ z : Nat, x = z := ⟨x.toNat, by omega⟩
      go_wp2_with (fail)
      refine (appO 2 z HOj.out.byt (by simp only [List.length_append, bys_length, byt_length, List.length_cons, List.length_nil, Array.length_toList, List.length_take]; have : nm.data.size = nm.size := rfl; omega) (by decide) (by decide) (by omega)).mono ?_
      rintro e w6 ⟨u6, rfl, ho, b6⟩
      have HO6 := Lib.hid (OB.mono ho (show w.heap.size + 1 ≤ wr.heap.size by omega))
      have HB6 := Lib.hid (HBj.out.trans (b6.mono (by omega)))
      clear ho b6
      go_wp2_with (fail)
      go_roundw
      case rel => exact ⟨j + 1, by go_num, by omega, Lib.hid (by rw [HSN.out, ← List.append_assoc]; exact HO6.out), HB6⟩
      case measure => simp [intOf]; omega
    · have HO := Lib.hid (show OB (w.heap.size + 1) wr _ (byt 4 67324752 ++ bys 2 ([(45 : Int), (f : Int), (me : Int), (C : Int), (D : Int)] : List Int)) from by have h := HOj.out; rw [show j = 5 by omega] at h; exact h)
      have HB7 := Lib.hid (HB5.out.trans (HBj.out.mono (by omega)))
      have HC7 := Lib.hid (HC5.out.below HBj.out (by omega))
      have hz7 : w.heap.size + 1 ≤ wr.heap.size := by omega
      clear HOj HBj HS HB5 HC5 hbs hzj hj
      obtain ⟨w7, rfl⟩ : ∃ z : World, z = wr := ⟨_, rfl⟩
      go_wp2_with (fail)
      clear hlt
      go_loopw [14, 18, 78, 79, 80, 81, 82, 83, 84, 85] (fun v _ i _ _ _ _ _ _ _ wr => ∃ j : Nat, i = .int .i64 j ∧ j ≤ 3 ∧ w7.heap.size < wr.heap.size ∧ Hid (OB (w.heap.size + 1) wr v ((byt 4 67324752 ++ bys 2 [(45 : Int), (f : Int), (me : Int), (C : Int), (D : Int)]) ++ bys 4 (([(0 : Int), (4294967295 : Int), (4294967295 : Int)] : List Int).take j))) ∧ Hid (Below w7.heap.size w7 wr) ∧ Hid (∀ j, j < 3 → wr.cell? ⟨w7.heap.size, j, none⟩ = some (.int .u64 (([(0 : Int), (4294967295 : Int), (4294967295 : Int)] : List Int).getD j 0)))) (fun _ _ i _ _ _ _ _ _ _ _ => 3 - (intOf i).toNat)
      case atStart =>
        have hb78 := fun o => (Below.refl w7.heap.size w7).alloc (Nat.le_refl _) o
        refine ⟨0, rfl, by omega, by simp, Lib.hid ?_, Lib.hid (hb78 _), Lib.hid (fun j hj => ?_)⟩
        · rw [List.take_zero]; show OB _ _ _ (_ ++ []); rw [List.append_nil]; exact HO.out.below (hb78 _)
        · rw [World.cell?_alloc_at _ _ _ _ rfl]
          match j, hj with
          | 0, _ => rfl
          | 1, _ => rfl
          | 2, _ => rfl
      case round =>
        obtain ⟨i, rfl, hj, hwz, HOj, HBj, HSj⟩ := hrel
        by_cases hlt : i < 3
        · have hk := HSj.out i hlt
          have hmem : ([(0 : Int), (4294967295 : Int), (4294967295 : Int)] : List Int).getD i 0 ∈ ([(0 : Int), (4294967295 : Int), (4294967295 : Int)] : List Int) := by
            rw [List.getD_eq_getElem?_getD, List.getElem?_eq_getElem (show i < ([(0 : Int), (4294967295 : Int), (4294967295 : Int)] : List Int).length from hlt)]; exact List.getElem_mem _
          have hxx := HQ2.out _ hmem
          have HSN := Lib.hid (bys_snoc 4 ([(0 : Int), (4294967295 : Int), (4294967295 : Int)] : List Int) i hlt)
          clear hmem
          generalize ([(0 : Int), (4294967295 : Int), (4294967295 : Int)] : List Int).getD i 0 = x at *
          obtain ⟨z, rfl⟩ : ∃ z : Nat, x = z := ⟨x.toNat, by omega⟩
          go_wp2_with (fail)
          refine (appO 4 z HOj.out.byt (by simp only [List.length_append, bys_length, byt_length, List.length_cons, List.length_nil, Array.length_toList, List.length_take]; have : nm.data.size = nm.size := rfl; omega) (by decide) (by decide) (by omega)).mono ?_
          rintro e w9 ⟨u9, rfl, ho, b9⟩
          have hz9 := b9.size
          have HO9 := Lib.hid (OB.mono ho (show w.heap.size + 1 ≤ wr.heap.size by omega))
          have HB9 := Lib.hid (HBj.out.trans (b9.mono (by omega)))
          have HS9 : Hid (∀ i, i < 3 → w9.cell? ⟨w7.heap.size, i, none⟩ = some (.int .u64 (([(0 : Int), (4294967295 : Int), (4294967295 : Int)] : List Int).getD i 0))) := Lib.hid (fun i hj => (b9.cell (p := ⟨w7.heap.size, i, none⟩) hwz).trans (HSj.out i hj))
          clear ho b9
          go_wp2_with (fail)
          go_roundw
          case rel => exact ⟨i + 1, by go_num, by omega, by omega, Lib.hid (by rw [HSN.out, ← List.append_assoc]; exact HO9.out), HB9, HS9⟩
          case measure => simp [intOf]; omega
        · have HO := Lib.hid (show OB (w.heap.size + 1) wr _ ((byt 4 67324752 ++ bys 2 ([(45 : Int), (f : Int), (me : Int), (C : Int), (D : Int)] : List Int)) ++ bys 4 ([(0 : Int), (4294967295 : Int), (4294967295 : Int)] : List Int)) from by have h := HOj.out; rw [show i = 3 by omega] at h; exact h)
          have HBA := Lib.hid (HB7.out.trans (HBj.out.mono (by omega)))
          have HCA := Lib.hid (HC7.out.below HBj.out (by omega))
          have hzA : w.heap.size + 1 ≤ wr.heap.size := by omega
          clear HOj HBj HSj HB7 HC7 hz7 hwz hj
          obtain ⟨wA, rfl⟩ : ∃ z : World, z = wr := ⟨_, rfl⟩
          have k0 := HCA.out 0 _ rfl
          have hq := Q_nm.out
          go_wp2_with (fail)
          refine (appO 2 nm.size HO.out.byt (by simp only [List.length_append, bys_length, byt_length, List.length_cons, List.length_nil, Array.length_toList, List.length_take]; have : nm.data.size = nm.size := rfl; omega) (by decide) (by decide) (by omega)).mono ?_
          rintro e wB ⟨uB, rfl, ho, bb⟩
          have hzB := bb.size
          have HO := Lib.hid (OB.mono ho (show w.heap.size + 1 ≤ wA.heap.size by omega))
          have HBB := Lib.hid (HBA.out.trans (bb.mono (by omega)))
          have HCB := Lib.hid (HCA.out.below bb (by omega))
          have hzz : w.heap.size + 1 ≤ wB.heap.size := by omega
          clear ho bb HBA HCA hzA hzB k0 hq 
          have hzB := hzz
          clear hzz
          go_wp2_with (fail)
          refine (appO 2 20 HO.out.byt (by simp only [List.length_append, bys_length, byt_length, List.length_cons, List.length_nil, Array.length_toList, List.length_take]; have : nm.data.size = nm.size := rfl; omega) (by decide) (by decide) (by omega)).mono ?_
          rintro e wC ⟨uC, rfl, ho, bb⟩
          have hzC := bb.size
          have HO := Lib.hid (OB.mono ho (show w.heap.size + 1 ≤ wB.heap.size by omega))
          have HBC := Lib.hid (HBB.out.trans (bb.mono (by omega)))
          have HCC := Lib.hid (HCB.out.below bb (by omega))
          have hzz : w.heap.size + 1 ≤ wC.heap.size := by omega
          clear ho bb HBB HCB hzB hzC 
          have hzC := hzz
          clear hzz
          have k0 := HCC.out 0 _ rfl
          go_wp2_with (at_builtin; refine append_OS rfl _ _ rfl rfl HO.out rfl (by simp only [List.length_append, bys_length, byt_length, List.length_cons, List.length_nil, Array.length_toList, List.length_take]; have : nm.data.size = nm.size := rfl; omega) (by omega) ?_)
          intro vD wD ho bb
          have hzD : w.heap.size + 1 ≤ wD.heap.size := Nat.le_trans hzC bb.size
          have HO := Lib.hid ho
          have HBD := Lib.hid (HBC.out.trans (bb.mono (by omega)))
          have HCD := Lib.hid (HCC.out.below bb (by omega))
          clear ho bb k0 HBC HCC hzC
          have k11 := HCD.out 11 _ rfl
          go_wp2_with (fail)
          refine (appO 2 1 HO.out.byt (by simp only [List.length_append, bys_length, byt_length, List.length_cons, List.length_nil, Array.length_toList, List.length_take]; have : nm.data.size = nm.size := rfl; omega) (by decide) (by decide) (by omega)).mono ?_
          rintro e wE ⟨uE, rfl, ho, bb⟩
          have hzE := bb.size
          have HO := Lib.hid (OB.mono ho (show w.heap.size + 1 ≤ wD.heap.size by omega))
          have HBE := Lib.hid (HBD.out.trans (bb.mono (by omega)))
          have HCE := Lib.hid (HCD.out.below bb (by omega))
          have hzz : w.heap.size + 1 ≤ wE.heap.size := by omega
          clear ho bb k11 HBD HCD hzD hzE 
          have hzE := hzz
          clear hzz
          go_wp2_with (fail)
          refine (appO 2 16 HO.out.byt (by simp only [List.length_append, bys_length, byt_length, List.length_cons, List.length_nil, Array.length_toList, List.length_take]; have : nm.data.size = nm.size := rfl; omega) (by decide) (by decide) (by omega)).mono ?_
          rintro e wF ⟨uF, rfl, ho, bb⟩
          have hzF := bb.size
          have HO := Lib.hid (OB.mono ho (show w.heap.size + 1 ≤ wE.heap.size by omega))
          have HBF := Lib.hid (HBE.out.trans (bb.mono (by omega)))
          have HCF := Lib.hid (HCE.out.below bb (by omega))
          have hzz : w.heap.size + 1 ≤ wF.heap.size := by omega
          clear ho bb HBE HCE hzE hzF 
          have hzF := hzz
          clear hzz
          go_wp2_with (fail)
          refine (appO 8 0 HO.out.byt (by simp only [List.length_append, bys_length, byt_length, List.length_cons, List.length_nil, Array.length_toList, List.length_take]; have : nm.data.size = nm.size := rfl; omega) (by decide) (by decide) (by omega)).mono ?_
          rintro e wG ⟨uG, rfl, ho, bb⟩
          have hzG := bb.size
          have HO := Lib.hid (OB.mono ho (show w.heap.size + 1 ≤ wF.heap.size by omega))
          have HBG := Lib.hid (HBF.out.trans (bb.mono (by omega)))
          have HCG := Lib.hid (HCF.out.below bb (by omega))
          have hzz : w.heap.size + 1 ≤ wG.heap.size := by omega
          clear ho bb HBF HCF hzF hzG 
          have hzG := hzz
          clear hzz
          go_wp2_with (fail)
          refine (appO 8 0 HO.out.byt (by simp only [List.length_append, bys_length, byt_length, List.length_cons, List.length_nil, Array.length_toList, List.length_take]; have : nm.data.size = nm.size := rfl; omega) (by decide) (by decide) (by omega)).mono ?_
          rintro e wH ⟨uH, rfl, ho, bb⟩
          have hzH := bb.size
          have HO := Lib.hid (OB.mono ho (show w.heap.size + 1 ≤ wG.heap.size by omega))
          have HBH := Lib.hid (HBG.out.trans (bb.mono (by omega)))
          have HCH := Lib.hid (HCG.out.below bb (by omega))
          have hzz : w.heap.size + 1 ≤ wH.heap.size := by omega
          clear ho bb HBG HCG hzG hzH 
          have hzH := hzz
          clear hzz
          go_wp2_with (fail)
          go_ret2
          exact ⟨_, rfl, OB.mono HO.out (by omega), HBH.out⟩
set_option maxHeartbeats 4000000 in
theorem lenc_tf (nm : ByteArray) (y mo da ho mi se : Int) (me cr pk sz f D C : Nat) (w : World) (hA : Amb w) (hnm : nm.size ≤ 255) (hme : me ≤ 8) (hcr : cr < 4294967296) (hpk : pk ≤ 33554432) (hsz : sz ≤ 16777216) (hf : f ≤ 4000) (hD : D ≤ 65535) (hC : C ≤ 65535)
    (HK : Hid (∀ W, Amb W → Calls Tryd.prog 10 #[.agg #[.string nm, .int .i64 y, .int .i64 mo, .int .i64 da, .int .i64 ho, .int .i64 mi, .int .i64 se, .int .i64 (me : Nat), .int .u32 (cr : Nat), .int .i64 (pk : Nat), .int .i64 (sz : Nat), .bool true, .bool false]] W (CQ (.int .i64 0) W)))
    (HE : Hid (∀ W, Calls Tryd.prog 25 #[.agg #[.int .i64 y, .int .i64 mo, .int .i64 da, .int .i64 ho, .int .i64 mi, .int .i64 se]] W fun e w' => e = .returned (.tuple #[.int .u16 (D : Nat), .int .u16 (C : Nat), .int .i64 0]) ∧ Below W.heap.size W w'))
    (HV : Hid (∀ W, Calls Tryd.prog 11 #[.agg #[.string nm, .int .i64 y, .int .i64 mo, .int .i64 da, .int .i64 ho, .int .i64 mi, .int .i64 se, .int .i64 (me : Nat), .int .u32 (cr : Nat), .int .i64 (pk : Nat), .int .i64 (sz : Nat), .bool true, .bool false]] W (CQ (.int .i64 45) W)))
    (HF : Hid (∀ W, Calls Tryd.prog 13 #[.agg #[.string nm, .int .i64 y, .int .i64 mo, .int .i64 da, .int .i64 ho, .int .i64 mi, .int .i64 se, .int .i64 (me : Nat), .int .u32 (cr : Nat), .int .i64 (pk : Nat), .int .i64 (sz : Nat), .bool true, .bool false]] W (CQ (.int .i64 (f : Nat)) W))) :
    Calls Tryd.prog 9 #[.agg #[.string nm, .int .i64 y, .int .i64 mo, .int .i64 da, .int .i64 ho, .int .i64 mi, .int .i64 se, .int .i64 (me : Nat), .int .u32 (cr : Nat), .int .i64 (pk : Nat), .int .i64 (sz : Nat), .bool true, .bool false]] w fun e w' => ∃ v, e = .returned (.tuple #[v, .int .i64 0]) ∧ OB w.heap.size w' v ((((((((((byt 4 67324752 ++ bys 2 [(45 : Int), (f : Int), (me : Int), (C : Int), (D : Int)]) ++ bys 4 [(cr : Int), (4294967295 : Int), (4294967295 : Int)]) ++ byt 2 nm.size) ++ byt 2 20) ++ nm.data.toList)) ++ byt 2 1) ++ byt 2 16) ++ byt 8 sz) ++ byt 8 pk) ∧ Below w.heap.size w w' := by
  have HB := Lib.hid ((Below.refl w.heap.size w).alloc (Nat.le_refl _) (.cells #[.string nm, .int .i64 y, .int .i64 mo, .int .i64 da, .int .i64 ho, .int .i64 mi, .int .i64 se, .int .i64 (me : Nat), .int .u32 (cr : Nat), .int .i64 (pk : Nat), .int .i64 (sz : Nat), .bool true, .bool false] 26))
  have HC := Lib.hid (Cells.new_at w [.string nm, .int .i64 y, .int .i64 mo, .int .i64 da, .int .i64 ho, .int .i64 mi, .int .i64 se, .int .i64 (me : Nat), .int .u32 (cr : Nat), .int .i64 (pk : Nat), .int .i64 (sz : Nat), .bool true, .bool false] 26 w.heap.size rfl)
  have HA := Lib.hid hA
  have q_cr : IntKind.u64.wrap (cr : Int) = cr := by rw [IntKind.wrap_u64]; omega
  have q_pk : IntKind.u64.wrap (pk : Int) = pk := by rw [IntKind.wrap_u64]; omega
  have q_sz : IntKind.u64.wrap (sz : Int) = sz := by rw [IntKind.wrap_u64]; omega
  have Q_me : Hid (IntKind.u64.wrap (me : Int) = me) := Lib.hid (by rw [IntKind.wrap_u64]; omega)
  have Q_f : Hid (IntKind.u64.wrap (f : Int) = f) := Lib.hid (by rw [IntKind.wrap_u64]; omega)
  have Q_D : Hid (IntKind.u64.wrap (D : Int) = D) := Lib.hid (by rw [IntKind.wrap_u64]; omega)
  have Q_C : Hid (IntKind.u64.wrap (C : Int) = C) := Lib.hid (by rw [IntKind.wrap_u64]; omega)
  have Q_nm : Hid (IntKind.u64.wrap (nm.size : Int) = nm.size) := Lib.hid (by rw [IntKind.wrap_u64]; omega)
  have HQ1 : Hid (∀ x ∈ ([(45 : Int), (f : Int), (me : Int), (C : Int), (D : Int)] : List Int), 0 ≤ x ∧ x < 18446744073709551616) := Lib.hid (by intro x hx; simp only [List.mem_cons, List.not_mem_nil, or_false] at hx; omega)
  have HQ2 : Hid (∀ x ∈ ([(cr : Int), (4294967295 : Int), (4294967295 : Int)] : List Int), 0 ≤ x ∧ x < 18446744073709551616) := Lib.hid (by intro x hx; simp only [List.mem_cons, List.not_mem_nil, or_false] at hx; omega)
  clear hA
  go_enter Tryd.func9, Tryd.ntmps9
  go_wp2_with (fail)
  refine (HK.out _ (HA.out.below HB.out)).mono ?_
  rintro e w1 ⟨rfl, b1⟩
  have hz1 := b1.size
  simp only [World.size_alloc] at hz1
  have HB1 := Lib.hid (HB.out.trans (b1.mono (by simp)))
  have HC1 := Lib.hid (HC.out.below b1 (by simp))
  clear b1 HB HC
  have k1 := HC1.out 1 _ rfl
  have k2 := HC1.out 2 _ rfl
  have k3 := HC1.out 3 _ rfl
  have k4 := HC1.out 4 _ rfl
  have k5 := HC1.out 5 _ rfl
  have k6 := HC1.out 6 _ rfl
  go_wp2_with (fail)
  refine (HE.out _).mono ?_
  rintro e w2 ⟨rfl, b2⟩
  have hz2 := b2.size
  have HB2 := Lib.hid (HB1.out.trans (b2.mono (by omega)))
  have HC2 := Lib.hid (HC1.out.below b2 (by omega))
  clear b2 HB1 HC1 k1 k2 k3 k4 k5 k6
  have k8 := HC2.out 8 _ rfl
  have k9 := HC2.out 9 _ rfl
  have k10 := HC2.out 10 _ rfl
  go_wp2_with (fail)
  go_quiet (fail)
  have HB3 := Lib.hid (below_drewN HB2.out nq)
  have HC3 := Lib.hid (HC2.out.below (below_drewN (Below.refl w2.heap.size w2) nq) (by omega))
  have hz3 : w.heap.size + 1 ≤ (w2.drewN nq).heap.size := by show _ ≤ w2.heap.size; omega
  clear k8 k9 k10 HB2 HC2
  generalize w2.drewN nq = w3 at *
  have k11 := HC3.out 11 _ rfl
  have k12 := HC3.out 12 _ rfl
  clear hz1 hz2 q_cr q_pk q_sz
  go_wp2_with (fail)
  refine (appO 4 67324752 (nil_byt _) (by decide) (by decide) (by decide) (by decide)).mono ?_
  rintro e w4 ⟨u4, rfl, ho, b4⟩
  have hz4 := b4.size
  rw [List.nil_append] at ho
  have HO := Lib.hid (OB.mono ho (show w.heap.size + 1 ≤ w3.heap.size by omega))
  have HB4 := Lib.hid (HB3.out.trans (b4.mono (by omega)))
  have HC4 := Lib.hid (HC3.out.below b4 (by omega))
  clear ho b4 k11 k12 HB3 HC3
  go_wp2_with (fail)
  refine Mono.region_below (by kernel_rfl) (by kernel_rfl) (by kernel_rfl) ?_
  refine Mono.rgl_val (v := ?v0) rfl Mono.rr (fun ρ a W hR hd hf => ?h0) ?_
  case h0 =>
    have e1 := Mono.init_get hf (t := 1) (by kernel_rfl)
    have hk0 := (HC4.out.below hR (by omega) : Cells W _ _) 0 _ rfl
    have hk1 := (HC4.out.below hR (by omega) : Cells W _ _) 1 _ rfl
    have hk2 := (HC4.out.below hR (by omega) : Cells W _ _) 2 _ rfl
    have hk3 := (HC4.out.below hR (by omega) : Cells W _ _) 3 _ rfl
    have hk4 := (HC4.out.below hR (by omega) : Cells W _ _) 4 _ rfl
    have hk5 := (HC4.out.below hR (by omega) : Cells W _ _) 5 _ rfl
    have hk6 := (HC4.out.below hR (by omega) : Cells W _ _) 6 _ rfl
    have hk7 := (HC4.out.below hR (by omega) : Cells W _ _) 7 _ rfl
    have hk8 := (HC4.out.below hR (by omega) : Cells W _ _) 8 _ rfl
    have hk9 := (HC4.out.below hR (by omega) : Cells W _ _) 9 _ rfl
    have hk10 := (HC4.out.below hR (by omega) : Cells W _ _) 10 _ rfl
    have hk11 := (HC4.out.below hR (by omega) : Cells W _ _) 11 _ rfl
    have hk12 := (HC4.out.below hR (by omega) : Cells W _ _) 12 _ rfl
    clear hd hf
    (go_simp; try with_reducible rfl)
  refine Mono.rgl_call (fun x _ => x = .int .i64 45) rfl Mono.rr (fun _ _ _ h _ => h) (fun ρ a W hR hd hf => ?h1) ?_
  case h1 =>
    have e50 := Mono.dep_val hd hf (t := 50) (k := 0) (by kernel_rfl) rfl
    clear hd hf
    refine ⟨_, _, by go_simp; first | rfl | exact ⟨rfl, rfl⟩, ?_⟩
    exact (HV.out W).mono (fun e W' ⟨he, hb⟩ => ⟨_, he, hb, rfl⟩)
  refine Mono.rgl_val (v := ?v2) rfl Mono.rr (fun ρ a W hR hd hf => ?h2) ?_
  case h2 =>
    have e51 := Mono.dep_val hd hf (t := 51) (k := 1) (by kernel_rfl) rfl
    clear hd hf
    (go_simp; try with_reducible rfl)
  refine Mono.rgl_val (v := ?v3) rfl Mono.rr (fun ρ a W hR hd hf => ?h3) ?_
  case h3 =>
    have e1 := Mono.init_get hf (t := 1) (by kernel_rfl)
    have hk0 := (HC4.out.below hR (by omega) : Cells W _ _) 0 _ rfl
    have hk1 := (HC4.out.below hR (by omega) : Cells W _ _) 1 _ rfl
    have hk2 := (HC4.out.below hR (by omega) : Cells W _ _) 2 _ rfl
    have hk3 := (HC4.out.below hR (by omega) : Cells W _ _) 3 _ rfl
    have hk4 := (HC4.out.below hR (by omega) : Cells W _ _) 4 _ rfl
    have hk5 := (HC4.out.below hR (by omega) : Cells W _ _) 5 _ rfl
    have hk6 := (HC4.out.below hR (by omega) : Cells W _ _) 6 _ rfl
    have hk7 := (HC4.out.below hR (by omega) : Cells W _ _) 7 _ rfl
    have hk8 := (HC4.out.below hR (by omega) : Cells W _ _) 8 _ rfl
    have hk9 := (HC4.out.below hR (by omega) : Cells W _ _) 9 _ rfl
    have hk10 := (HC4.out.below hR (by omega) : Cells W _ _) 10 _ rfl
    have hk11 := (HC4.out.below hR (by omega) : Cells W _ _) 11 _ rfl
    have hk12 := (HC4.out.below hR (by omega) : Cells W _ _) 12 _ rfl
    clear hd hf
    (go_simp; try with_reducible rfl)
  refine Mono.rgl_call (fun x _ => x = .int .i64 ((f : Nat) : Int)) rfl Mono.rr (fun _ _ _ h _ => h) (fun ρ a W hR hd hf => ?h4) ?_
  case h4 =>
    have e53 := Mono.dep_val hd hf (t := 53) (k := 3) (by kernel_rfl) rfl
    clear hd hf
    refine ⟨_, _, by go_simp; first | rfl | exact ⟨rfl, rfl⟩, ?_⟩
    exact (HF.out W).mono (fun e W' ⟨he, hb⟩ => ⟨_, he, hb, rfl⟩)
  refine Mono.rgl_val (v := ?v5) rfl Mono.rr (fun ρ a W hR hd hf => ?h5) ?_
  case h5 =>
    have e54 := Mono.dep_val hd hf (t := 54) (k := 4) (by kernel_rfl) rfl
    have hq := Q_f.out
    clear hd hf
    (go_simp; try with_reducible rfl)
  refine Mono.rgl_val (v := ?v6) rfl Mono.rr (fun ρ a W hR hd hf => ?h6) ?_
  case h6 =>
    have e1 := Mono.init_get hf (t := 1) (by kernel_rfl)
    clear hd hf
    (go_simp; try with_reducible rfl)
  refine Mono.rgl_val (v := ?v7) rfl Mono.rr (fun ρ a W hR hd hf => ?h7) ?_
  case h7 =>
    have e56 := Mono.dep_val hd hf (t := 56) (k := 6) (by kernel_rfl) rfl
    have hk := (HC4.out.below hR (by omega) : Cells W _ _) 7 _ rfl
    clear hd hf
    (go_simp; try with_reducible rfl)
  refine Mono.rgl_val (v := ?v8) rfl Mono.rr (fun ρ a W hR hd hf => ?h8) ?_
  case h8 =>
    have e57 := Mono.dep_val hd hf (t := 57) (k := 7) (by kernel_rfl) rfl
    have hq := Q_me.out
    clear hd hf
    (go_simp; try with_reducible rfl)
  refine Mono.rgl_val (v := ?v9) rfl Mono.rr (fun ρ a W hR hd hf => ?h9) ?_
  case h9 =>
    have e6 := Mono.init_get hf (t := 6) (by kernel_rfl)
    clear hd hf
    (go_simp; try with_reducible rfl)
  refine Mono.rgl_val (v := ?v10) rfl Mono.rr (fun ρ a W hR hd hf => ?h10) ?_
  case h10 =>
    have e59 := Mono.dep_val hd hf (t := 59) (k := 9) (by kernel_rfl) rfl
    have hq := Q_C.out
    clear hd hf
    (go_simp; try with_reducible rfl)
  refine Mono.rgl_val (v := ?v11) rfl Mono.rr (fun ρ a W hR hd hf => ?h11) ?_
  case h11 =>
    have e5 := Mono.init_get hf (t := 5) (by kernel_rfl)
    clear hd hf
    (go_simp; try with_reducible rfl)
  refine Mono.rgl_val (v := ?v12) rfl Mono.rr (fun ρ a W hR hd hf => ?h12) ?_
  case h12 =>
    have e61 := Mono.dep_val hd hf (t := 61) (k := 11) (by kernel_rfl) rfl
    have hq := Q_D.out
    clear hd hf
    (go_simp; try with_reducible rfl)
  refine Mono.rgl_pred (fun z W => SU .u64 W z [(45 : Int), (f : Int), (me : Int), (C : Int), (D : Int)]) rfl hstSU (fun ρ a W hR hd hf => ?h13) ?_
  case h13 =>
    have e52 := Mono.dep_val hd hf (t := 52) (k := 2) (by kernel_rfl) rfl
    have e55 := Mono.dep_val hd hf (t := 55) (k := 5) (by kernel_rfl) rfl
    have e58 := Mono.dep_val hd hf (t := 58) (k := 8) (by kernel_rfl) rfl
    have e60 := Mono.dep_val hd hf (t := 60) (k := 10) (by kernel_rfl) rfl
    have e62 := Mono.dep_val hd hf (t := 62) (k := 12) (by kernel_rfl) rfl
    clear hd hf
    exact ⟨_, _, by go_simp; rfl, (Below.refl _ _).alloc (Nat.le_refl _) _, SU.new .u64 W _ _⟩
  refine Mono.rgl_val (v := .int .i64 5) rfl Mono.rr (fun ρ a W hR hd hf => ?h14) ?_
  case h14 =>
    obtain ⟨e63, d13⟩ := Mono.dep_get hd hf (t := 63) (k := 13) (by kernel_rfl)
    replace d13 : (fun z W => SU .u64 W z [(45 : Int), (f : Int), (me : Int), (C : Int), (D : Int)]) (ρ 13) W := d13
    obtain ⟨bq, oq, cq, hzq, _, _⟩ := d13
    rw [hzq] at e63
    clear hd hf
    (go_simp; try with_reducible rfl)
  refine Mono.rgl_val (v := ?v15) rfl Mono.rr (fun ρ a W hR hd hf => ?h15) ?_
  case h15 =>
    clear hd hf
    (go_simp; try with_reducible rfl)
  refine Mono.rgl_done rfl (fun ρ W hR ht => ?_)
  obtain ⟨d15, d14, d13, d12, d11, d10, d9, d8, d7, d6, d5, d4, d3, d2, d1, d0, _⟩ := ht
  replace d13 : (fun z W => SU .u64 W z [(45 : Int), (f : Int), (me : Int), (C : Int), (D : Int)]) (ρ 13) W := d13
  simp only [List.length_cons, List.length_nil, Nat.reduceAdd] at d0 d1 d2 d3 d4 d5 d6 d7 d8 d9 d10 d11 d12 d14 d15
  simp only [Mono.putAll, Nat.reduceAdd, d0, d1, d2, d3, d4, d5, d6, d7, d8, d9, d10, d11, d12, d14, d15, Act.put, List.setIfInBounds_toArray, List.set_cons_zero, List.set_cons_succ]
  clear d0 d1 d2 d3 d4 d5 d6 d7 d8 d9 d10 d11 d12 d14 d15
  generalize ρ 13 = r13 at *
  have hz5 := hR.size
  have HO := Lib.hid (HO.out.below hR)
  have HB5 := Lib.hid (HB4.out.trans (hR.mono (by omega)))
  have HC5 := Lib.hid (HC4.out.below hR (by omega))
  obtain ⟨bs, os, cs, hrs, hbs, hcs⟩ := d13
  simp only [List.length_cons, List.length_nil, Nat.zero_add, Nat.reduceAdd] at hrs
  subst hrs
  have HS : Hid (∀ j, j < 5 → W.cell? ⟨bs, os + j, none⟩ = some (.int .u64 (([(45 : Int), (f : Int), (me : Int), (C : Int), (D : Int)] : List Int).getD j 0))) := Lib.hid hcs
  clear hR hcs HB4 HC4
  obtain ⟨w5, rfl⟩ : ∃ z, z = W := ⟨_, rfl⟩
  have hz5b : w.heap.size + 1 ≤ w5.heap.size := by omega
  clear hz5 hz4 hz3
  go_wp2_with (fail)
  go_loopw [14, 16, 65, 66, 67, 68, 69, 70, 71, 72] (fun v _ i _ _ _ _ _ _ _ wr => ∃ j : Nat, i = .int .i64 j ∧ j ≤ 5 ∧ Hid (OB (w.heap.size + 1) wr v (byt 4 67324752 ++ bys 2 (([(45 : Int), (f : Int), (me : Int), (C : Int), (D : Int)] : List Int).take j))) ∧ Hid (Below w5.heap.size w5 wr)) (fun _ _ i _ _ _ _ _ _ _ _ => 5 - (intOf i).toNat)
  case atStart => exact ⟨0, rfl, by omega, Lib.hid (by rw [List.take_zero]; show OB _ _ _ (_ ++ []); rw [List.append_nil]; exact HO.out), Lib.hid (Below.refl _ _)⟩
  case round =>
    obtain ⟨j, rfl, hj, HOj, HBj⟩ := hrel
    have hzj := HBj.out.size
    by_cases hlt : j < 5
    · have hk : wr.cell? ⟨bs, os + j, none⟩ = _ := (HBj.out.cell (p := ⟨bs, os + j, none⟩) hbs).trans (HS.out j hlt)
      have hmem : ([(45 : Int), (f : Int), (me : Int), (C : Int), (D : Int)] : List Int).getD j 0 ∈ ([(45 : Int), (f : Int), (me : Int), (C : Int), (D : Int)] : List Int) := by
        rw [List.getD_eq_getElem?_getD, List.getElem?_eq_getElem (show j < ([(45 : Int), (f : Int), (me : Int), (C : Int), (D : Int)] : List Int).length from hlt)]; exact List.getElem_mem _
      have hxx := HQ1.out _ hmem
      have HSN := Lib.hid (bys_snoc 2 ([(45 : Int), (f : Int), (me : Int), (C : Int), (D : Int)] : List Int) j hlt)
      clear hmem
      generalize ([(45 : Int), (f : Int), (me : Int), (C : Int), (D : Int)] : List Int).getD j 0 = x at *
      obtain ⟨z, rfl⟩ : ∃ z : Nat, x = z := ⟨x.toNat, by omega⟩
      go_wp2_with (fail)
      refine (appO 2 z HOj.out.byt (by simp only [List.length_append, bys_length, byt_length, List.length_cons, List.length_nil, Array.length_toList, List.length_take]; have : nm.data.size = nm.size := rfl; omega) (by decide) (by decide) (by omega)).mono ?_
      rintro e w6 ⟨u6, rfl, ho, b6⟩
      have HO6 := Lib.hid (OB.mono ho (show w.heap.size + 1 ≤ wr.heap.size by omega))
      have HB6 := Lib.hid (HBj.out.trans (b6.mono (by omega)))
      clear ho b6
      go_wp2_with (fail)
      go_roundw
      case rel => exact ⟨j + 1, by go_num, by omega, Lib.hid (by rw [HSN.out, ← List.append_assoc]; exact HO6.out), HB6⟩
      case measure => simp [intOf]; omega
    · have HO := Lib.hid (show OB (w.heap.size + 1) wr _ (byt 4 67324752 ++ bys 2 ([(45 : Int), (f : Int), (me : Int), (C : Int), (D : Int)] : List Int)) from by have h := HOj.out; rw [show j = 5 by omega] at h; exact h)
      have HB7 := Lib.hid (HB5.out.trans (HBj.out.mono (by omega)))
      have HC7 := Lib.hid (HC5.out.below HBj.out (by omega))
      have hz7 : w.heap.size + 1 ≤ wr.heap.size := by omega
      clear HOj HBj HS HB5 HC5 hbs hzj hj
      obtain ⟨w7, rfl⟩ : ∃ z : World, z = wr := ⟨_, rfl⟩
      go_wp2_with (fail)
      clear hlt
      go_loopw [14, 18, 78, 79, 80, 81, 82, 83, 84, 85] (fun v _ i _ _ _ _ _ _ _ wr => ∃ j : Nat, i = .int .i64 j ∧ j ≤ 3 ∧ w7.heap.size < wr.heap.size ∧ Hid (OB (w.heap.size + 1) wr v ((byt 4 67324752 ++ bys 2 [(45 : Int), (f : Int), (me : Int), (C : Int), (D : Int)]) ++ bys 4 (([(cr : Int), (4294967295 : Int), (4294967295 : Int)] : List Int).take j))) ∧ Hid (Below w7.heap.size w7 wr) ∧ Hid (∀ j, j < 3 → wr.cell? ⟨w7.heap.size, j, none⟩ = some (.int .u64 (([(cr : Int), (4294967295 : Int), (4294967295 : Int)] : List Int).getD j 0)))) (fun _ _ i _ _ _ _ _ _ _ _ => 3 - (intOf i).toNat)
      case atStart =>
        have hb78 := fun o => (Below.refl w7.heap.size w7).alloc (Nat.le_refl _) o
        refine ⟨0, rfl, by omega, by simp, Lib.hid ?_, Lib.hid (hb78 _), Lib.hid (fun j hj => ?_)⟩
        · rw [List.take_zero]; show OB _ _ _ (_ ++ []); rw [List.append_nil]; exact HO.out.below (hb78 _)
        · rw [World.cell?_alloc_at _ _ _ _ rfl]
          match j, hj with
          | 0, _ => rfl
          | 1, _ => rfl
          | 2, _ => rfl
      case round =>
        obtain ⟨i, rfl, hj, hwz, HOj, HBj, HSj⟩ := hrel
        by_cases hlt : i < 3
        · have hk := HSj.out i hlt
          have hmem : ([(cr : Int), (4294967295 : Int), (4294967295 : Int)] : List Int).getD i 0 ∈ ([(cr : Int), (4294967295 : Int), (4294967295 : Int)] : List Int) := by
            rw [List.getD_eq_getElem?_getD, List.getElem?_eq_getElem (show i < ([(cr : Int), (4294967295 : Int), (4294967295 : Int)] : List Int).length from hlt)]; exact List.getElem_mem _
          have hxx := HQ2.out _ hmem
          have HSN := Lib.hid (bys_snoc 4 ([(cr : Int), (4294967295 : Int), (4294967295 : Int)] : List Int) i hlt)
          clear hmem
          generalize ([(cr : Int), (4294967295 : Int), (4294967295 : Int)] : List Int).getD i 0 = x at *
          obtain ⟨z, rfl⟩ : ∃ z : Nat, x = z := ⟨x.toNat, by omega⟩
          go_wp2_with (fail)
          refine (appO 4 z HOj.out.byt (by simp only [List.length_append, bys_length, byt_length, List.length_cons, List.length_nil, Array.length_toList, List.length_take]; have : nm.data.size = nm.size := rfl; omega) (by decide) (by decide) (by omega)).mono ?_
          rintro e w9 ⟨u9, rfl, ho, b9⟩
          have hz9 := b9.size
          have HO9 := Lib.hid (OB.mono ho (show w.heap.size + 1 ≤ wr.heap.size by omega))
          have HB9 := Lib.hid (HBj.out.trans (b9.mono (by omega)))
          have HS9 : Hid (∀ i, i < 3 → w9.cell? ⟨w7.heap.size, i, none⟩ = some (.int .u64 (([(cr : Int), (4294967295 : Int), (4294967295 : Int)] : List Int).getD i 0))) := Lib.hid (fun i hj => (b9.cell (p := ⟨w7.heap.size, i, none⟩) hwz).trans (HSj.out i hj))
          clear ho b9
          go_wp2_with (fail)
          go_roundw
          case rel => exact ⟨i + 1, by go_num, by omega, by omega, Lib.hid (by rw [HSN.out, ← List.append_assoc]; exact HO9.out), HB9, HS9⟩
          case measure => simp [intOf]; omega
        · have HO := Lib.hid (show OB (w.heap.size + 1) wr _ ((byt 4 67324752 ++ bys 2 ([(45 : Int), (f : Int), (me : Int), (C : Int), (D : Int)] : List Int)) ++ bys 4 ([(cr : Int), (4294967295 : Int), (4294967295 : Int)] : List Int)) from by have h := HOj.out; rw [show i = 3 by omega] at h; exact h)
          have HBA := Lib.hid (HB7.out.trans (HBj.out.mono (by omega)))
          have HCA := Lib.hid (HC7.out.below HBj.out (by omega))
          have hzA : w.heap.size + 1 ≤ wr.heap.size := by omega
          clear HOj HBj HSj HB7 HC7 hz7 hwz hj
          obtain ⟨wA, rfl⟩ : ∃ z : World, z = wr := ⟨_, rfl⟩
          have k0 := HCA.out 0 _ rfl
          have hq := Q_nm.out
          go_wp2_with (fail)
          refine (appO 2 nm.size HO.out.byt (by simp only [List.length_append, bys_length, byt_length, List.length_cons, List.length_nil, Array.length_toList, List.length_take]; have : nm.data.size = nm.size := rfl; omega) (by decide) (by decide) (by omega)).mono ?_
          rintro e wB ⟨uB, rfl, ho, bb⟩
          have hzB := bb.size
          have HO := Lib.hid (OB.mono ho (show w.heap.size + 1 ≤ wA.heap.size by omega))
          have HBB := Lib.hid (HBA.out.trans (bb.mono (by omega)))
          have HCB := Lib.hid (HCA.out.below bb (by omega))
          have hzz : w.heap.size + 1 ≤ wB.heap.size := by omega
          clear ho bb HBA HCA hzA hzB k0 hq 
          have hzB := hzz
          clear hzz
          go_wp2_with (fail)
          refine (appO 2 20 HO.out.byt (by simp only [List.length_append, bys_length, byt_length, List.length_cons, List.length_nil, Array.length_toList, List.length_take]; have : nm.data.size = nm.size := rfl; omega) (by decide) (by decide) (by omega)).mono ?_
          rintro e wC ⟨uC, rfl, ho, bb⟩
          have hzC := bb.size
          have HO := Lib.hid (OB.mono ho (show w.heap.size + 1 ≤ wB.heap.size by omega))
          have HBC := Lib.hid (HBB.out.trans (bb.mono (by omega)))
          have HCC := Lib.hid (HCB.out.below bb (by omega))
          have hzz : w.heap.size + 1 ≤ wC.heap.size := by omega
          clear ho bb HBB HCB hzB hzC 
          have hzC := hzz
          clear hzz
          have k0 := HCC.out 0 _ rfl
          go_wp2_with (at_builtin; refine append_OS rfl _ _ rfl rfl HO.out rfl (by simp only [List.length_append, bys_length, byt_length, List.length_cons, List.length_nil, Array.length_toList, List.length_take]; have : nm.data.size = nm.size := rfl; omega) (by omega) ?_)
          intro vD wD ho bb
          have hzD : w.heap.size + 1 ≤ wD.heap.size := Nat.le_trans hzC bb.size
          have HO := Lib.hid ho
          have HBD := Lib.hid (HBC.out.trans (bb.mono (by omega)))
          have HCD := Lib.hid (HCC.out.below bb (by omega))
          clear ho bb k0 HBC HCC hzC
          have k11 := HCD.out 11 _ rfl
          go_wp2_with (fail)
          refine (appO 2 1 HO.out.byt (by simp only [List.length_append, bys_length, byt_length, List.length_cons, List.length_nil, Array.length_toList, List.length_take]; have : nm.data.size = nm.size := rfl; omega) (by decide) (by decide) (by omega)).mono ?_
          rintro e wE ⟨uE, rfl, ho, bb⟩
          have hzE := bb.size
          have HO := Lib.hid (OB.mono ho (show w.heap.size + 1 ≤ wD.heap.size by omega))
          have HBE := Lib.hid (HBD.out.trans (bb.mono (by omega)))
          have HCE := Lib.hid (HCD.out.below bb (by omega))
          have hzz : w.heap.size + 1 ≤ wE.heap.size := by omega
          clear ho bb k11 HBD HCD hzD hzE 
          have hzE := hzz
          clear hzz
          go_wp2_with (fail)
          refine (appO 2 16 HO.out.byt (by simp only [List.length_append, bys_length, byt_length, List.length_cons, List.length_nil, Array.length_toList, List.length_take]; have : nm.data.size = nm.size := rfl; omega) (by decide) (by decide) (by omega)).mono ?_
          rintro e wF ⟨uF, rfl, ho, bb⟩
          have hzF := bb.size
          have HO := Lib.hid (OB.mono ho (show w.heap.size + 1 ≤ wE.heap.size by omega))
          have HBF := Lib.hid (HBE.out.trans (bb.mono (by omega)))
          have HCF := Lib.hid (HCE.out.below bb (by omega))
          have hzz : w.heap.size + 1 ≤ wF.heap.size := by omega
          clear ho bb HBE HCE hzE hzF 
          have hzF := hzz
          clear hzz
          go_wp2_with (fail)
          refine (appO 8 sz HO.out.byt (by simp only [List.length_append, bys_length, byt_length, List.length_cons, List.length_nil, Array.length_toList, List.length_take]; have : nm.data.size = nm.size := rfl; omega) (by decide) (by decide) (by omega)).mono ?_
          rintro e wG ⟨uG, rfl, ho, bb⟩
          have hzG := bb.size
          have HO := Lib.hid (OB.mono ho (show w.heap.size + 1 ≤ wF.heap.size by omega))
          have HBG := Lib.hid (HBF.out.trans (bb.mono (by omega)))
          have HCG := Lib.hid (HCF.out.below bb (by omega))
          have hzz : w.heap.size + 1 ≤ wG.heap.size := by omega
          clear ho bb HBF HCF hzF hzG 
          have hzG := hzz
          clear hzz
          go_wp2_with (fail)
          refine (appO 8 pk HO.out.byt (by simp only [List.length_append, bys_length, byt_length, List.length_cons, List.length_nil, Array.length_toList, List.length_take]; have : nm.data.size = nm.size := rfl; omega) (by decide) (by decide) (by omega)).mono ?_
          rintro e wH ⟨uH, rfl, ho, bb⟩
          have hzH := bb.size
          have HO := Lib.hid (OB.mono ho (show w.heap.size + 1 ≤ wG.heap.size by omega))
          have HBH := Lib.hid (HBG.out.trans (bb.mono (by omega)))
          have HCH := Lib.hid (HCG.out.below bb (by omega))
          have hzz : w.heap.size + 1 ≤ wH.heap.size := by omega
          clear ho bb HBG HCG hzG hzH 
          have hzH := hzz
          clear hzz
          go_wp2_with (fail)
          go_ret2
          exact ⟨_, rfl, OB.mono HO.out (by omega), HBH.out⟩
set_option maxHeartbeats 4000000 in
theorem lenc_ft (nm : ByteArray) (y mo da ho mi se : Int) (me cr pk sz f D C : Nat) (w : World) (hA : Amb w) (hnm : nm.size ≤ 255) (hme : me ≤ 8) (hcr : cr < 4294967296) (hpk : pk ≤ 33554432) (hsz : sz ≤ 16777216) (hf : f ≤ 4000) (hD : D ≤ 65535) (hC : C ≤ 65535)
    (HK : Hid (∀ W, Amb W → Calls Tryd.prog 10 #[.agg #[.string nm, .int .i64 y, .int .i64 mo, .int .i64 da, .int .i64 ho, .int .i64 mi, .int .i64 se, .int .i64 (me : Nat), .int .u32 (cr : Nat), .int .i64 (pk : Nat), .int .i64 (sz : Nat), .bool false, .bool true]] W (CQ (.int .i64 0) W)))
    (HE : Hid (∀ W, Calls Tryd.prog 25 #[.agg #[.int .i64 y, .int .i64 mo, .int .i64 da, .int .i64 ho, .int .i64 mi, .int .i64 se]] W fun e w' => e = .returned (.tuple #[.int .u16 (D : Nat), .int .u16 (C : Nat), .int .i64 0]) ∧ Below W.heap.size W w'))
    (HV : Hid (∀ W, Calls Tryd.prog 11 #[.agg #[.string nm, .int .i64 y, .int .i64 mo, .int .i64 da, .int .i64 ho, .int .i64 mi, .int .i64 se, .int .i64 (me : Nat), .int .u32 (cr : Nat), .int .i64 (pk : Nat), .int .i64 (sz : Nat), .bool false, .bool true]] W (CQ (.int .i64 20) W)))
    (HF : Hid (∀ W, Calls Tryd.prog 13 #[.agg #[.string nm, .int .i64 y, .int .i64 mo, .int .i64 da, .int .i64 ho, .int .i64 mi, .int .i64 se, .int .i64 (me : Nat), .int .u32 (cr : Nat), .int .i64 (pk : Nat), .int .i64 (sz : Nat), .bool false, .bool true]] W (CQ (.int .i64 (f : Nat)) W))) :
    Calls Tryd.prog 9 #[.agg #[.string nm, .int .i64 y, .int .i64 mo, .int .i64 da, .int .i64 ho, .int .i64 mi, .int .i64 se, .int .i64 (me : Nat), .int .u32 (cr : Nat), .int .i64 (pk : Nat), .int .i64 (sz : Nat), .bool false, .bool true]] w fun e w' => ∃ v, e = .returned (.tuple #[v, .int .i64 0]) ∧ OB w.heap.size w' v (((((byt 4 67324752 ++ bys 2 [(20 : Int), (f : Int), (me : Int), (C : Int), (D : Int)]) ++ bys 4 [(0 : Int), (0 : Int), (0 : Int)]) ++ byt 2 nm.size) ++ byt 2 0) ++ nm.data.toList) ∧ Below w.heap.size w w' := by
  have HB := Lib.hid ((Below.refl w.heap.size w).alloc (Nat.le_refl _) (.cells #[.string nm, .int .i64 y, .int .i64 mo, .int .i64 da, .int .i64 ho, .int .i64 mi, .int .i64 se, .int .i64 (me : Nat), .int .u32 (cr : Nat), .int .i64 (pk : Nat), .int .i64 (sz : Nat), .bool false, .bool true] 26))
  have HC := Lib.hid (Cells.new_at w [.string nm, .int .i64 y, .int .i64 mo, .int .i64 da, .int .i64 ho, .int .i64 mi, .int .i64 se, .int .i64 (me : Nat), .int .u32 (cr : Nat), .int .i64 (pk : Nat), .int .i64 (sz : Nat), .bool false, .bool true] 26 w.heap.size rfl)
  have HA := Lib.hid hA
  have q_cr : IntKind.u64.wrap (cr : Int) = cr := by rw [IntKind.wrap_u64]; omega
  have q_pk : IntKind.u64.wrap (pk : Int) = pk := by rw [IntKind.wrap_u64]; omega
  have q_sz : IntKind.u64.wrap (sz : Int) = sz := by rw [IntKind.wrap_u64]; omega
  have Q_me : Hid (IntKind.u64.wrap (me : Int) = me) := Lib.hid (by rw [IntKind.wrap_u64]; omega)
  have Q_f : Hid (IntKind.u64.wrap (f : Int) = f) := Lib.hid (by rw [IntKind.wrap_u64]; omega)
  have Q_D : Hid (IntKind.u64.wrap (D : Int) = D) := Lib.hid (by rw [IntKind.wrap_u64]; omega)
  have Q_C : Hid (IntKind.u64.wrap (C : Int) = C) := Lib.hid (by rw [IntKind.wrap_u64]; omega)
  have Q_nm : Hid (IntKind.u64.wrap (nm.size : Int) = nm.size) := Lib.hid (by rw [IntKind.wrap_u64]; omega)
  have HQ1 : Hid (∀ x ∈ ([(20 : Int), (f : Int), (me : Int), (C : Int), (D : Int)] : List Int), 0 ≤ x ∧ x < 18446744073709551616) := Lib.hid (by intro x hx; simp only [List.mem_cons, List.not_mem_nil, or_false] at hx; omega)
  have HQ2 : Hid (∀ x ∈ ([(0 : Int), (0 : Int), (0 : Int)] : List Int), 0 ≤ x ∧ x < 18446744073709551616) := Lib.hid (by intro x hx; simp only [List.mem_cons, List.not_mem_nil, or_false] at hx; omega)
  clear hA
  go_enter Tryd.func9, Tryd.ntmps9
  go_wp2_with (fail)
  refine (HK.out _ (HA.out.below HB.out)).mono ?_
  rintro e w1 ⟨rfl, b1⟩
  have hz1 := b1.size
  simp only [World.size_alloc] at hz1
  have HB1 := Lib.hid (HB.out.trans (b1.mono (by simp)))
  have HC1 := Lib.hid (HC.out.below b1 (by simp))
  clear b1 HB HC
  have k1 := HC1.out 1 _ rfl
  have k2 := HC1.out 2 _ rfl
  have k3 := HC1.out 3 _ rfl
  have k4 := HC1.out 4 _ rfl
  have k5 := HC1.out 5 _ rfl
  have k6 := HC1.out 6 _ rfl
  go_wp2_with (fail)
  refine (HE.out _).mono ?_
  rintro e w2 ⟨rfl, b2⟩
  have hz2 := b2.size
  have HB2 := Lib.hid (HB1.out.trans (b2.mono (by omega)))
  have HC2 := Lib.hid (HC1.out.below b2 (by omega))
  clear b2 HB1 HC1 k1 k2 k3 k4 k5 k6
  have k8 := HC2.out 8 _ rfl
  have k9 := HC2.out 9 _ rfl
  have k10 := HC2.out 10 _ rfl
  go_wp2_with (fail)
  go_quiet (fail)
  have HB3 := Lib.hid (below_drewN HB2.out nq)
  have HC3 := Lib.hid (HC2.out.below (below_drewN (Below.refl w2.heap.size w2) nq) (by omega))
  have hz3 : w.heap.size + 1 ≤ (w2.drewN nq).heap.size := by show _ ≤ w2.heap.size; omega
  clear k8 k9 k10 HB2 HC2
  generalize w2.drewN nq = w3 at *
  have k11 := HC3.out 11 _ rfl
  have k12 := HC3.out 12 _ rfl
  clear hz1 hz2 q_cr q_pk q_sz
  go_wp2_with (fail)
  refine (appO 4 67324752 (nil_byt _) (by decide) (by decide) (by decide) (by decide)).mono ?_
  rintro e w4 ⟨u4, rfl, ho, b4⟩
  have hz4 := b4.size
  rw [List.nil_append] at ho
  have HO := Lib.hid (OB.mono ho (show w.heap.size + 1 ≤ w3.heap.size by omega))
  have HB4 := Lib.hid (HB3.out.trans (b4.mono (by omega)))
  have HC4 := Lib.hid (HC3.out.below b4 (by omega))
  clear ho b4 k11 k12 HB3 HC3
  go_wp2_with (fail)
  refine Mono.region_below (by kernel_rfl) (by kernel_rfl) (by kernel_rfl) ?_
  refine Mono.rgl_val (v := ?v0) rfl Mono.rr (fun ρ a W hR hd hf => ?h0) ?_
  case h0 =>
    have e1 := Mono.init_get hf (t := 1) (by kernel_rfl)
    have hk0 := (HC4.out.below hR (by omega) : Cells W _ _) 0 _ rfl
    have hk1 := (HC4.out.below hR (by omega) : Cells W _ _) 1 _ rfl
    have hk2 := (HC4.out.below hR (by omega) : Cells W _ _) 2 _ rfl
    have hk3 := (HC4.out.below hR (by omega) : Cells W _ _) 3 _ rfl
    have hk4 := (HC4.out.below hR (by omega) : Cells W _ _) 4 _ rfl
    have hk5 := (HC4.out.below hR (by omega) : Cells W _ _) 5 _ rfl
    have hk6 := (HC4.out.below hR (by omega) : Cells W _ _) 6 _ rfl
    have hk7 := (HC4.out.below hR (by omega) : Cells W _ _) 7 _ rfl
    have hk8 := (HC4.out.below hR (by omega) : Cells W _ _) 8 _ rfl
    have hk9 := (HC4.out.below hR (by omega) : Cells W _ _) 9 _ rfl
    have hk10 := (HC4.out.below hR (by omega) : Cells W _ _) 10 _ rfl
    have hk11 := (HC4.out.below hR (by omega) : Cells W _ _) 11 _ rfl
    have hk12 := (HC4.out.below hR (by omega) : Cells W _ _) 12 _ rfl
    clear hd hf
    (go_simp; try with_reducible rfl)
  refine Mono.rgl_call (fun x _ => x = .int .i64 20) rfl Mono.rr (fun _ _ _ h _ => h) (fun ρ a W hR hd hf => ?h1) ?_
  case h1 =>
    have e50 := Mono.dep_val hd hf (t := 50) (k := 0) (by kernel_rfl) rfl
    clear hd hf
    refine ⟨_, _, by go_simp; first | rfl | exact ⟨rfl, rfl⟩, ?_⟩
    exact (HV.out W).mono (fun e W' ⟨he, hb⟩ => ⟨_, he, hb, rfl⟩)
  refine Mono.rgl_val (v := ?v2) rfl Mono.rr (fun ρ a W hR hd hf => ?h2) ?_
  case h2 =>
    have e51 := Mono.dep_val hd hf (t := 51) (k := 1) (by kernel_rfl) rfl
    clear hd hf
    (go_simp; try with_reducible rfl)
  refine Mono.rgl_val (v := ?v3) rfl Mono.rr (fun ρ a W hR hd hf => ?h3) ?_
  case h3 =>
    have e1 := Mono.init_get hf (t := 1) (by kernel_rfl)
    have hk0 := (HC4.out.below hR (by omega) : Cells W _ _) 0 _ rfl
    have hk1 := (HC4.out.below hR (by omega) : Cells W _ _) 1 _ rfl
    have hk2 := (HC4.out.below hR (by omega) : Cells W _ _) 2 _ rfl
    have hk3 := (HC4.out.below hR (by omega) : Cells W _ _) 3 _ rfl
    have hk4 := (HC4.out.below hR (by omega) : Cells W _ _) 4 _ rfl
    have hk5 := (HC4.out.below hR (by omega) : Cells W _ _) 5 _ rfl
    have hk6 := (HC4.out.below hR (by omega) : Cells W _ _) 6 _ rfl
    have hk7 := (HC4.out.below hR (by omega) : Cells W _ _) 7 _ rfl
    have hk8 := (HC4.out.below hR (by omega) : Cells W _ _) 8 _ rfl
    have hk9 := (HC4.out.below hR (by omega) : Cells W _ _) 9 _ rfl
    have hk10 := (HC4.out.below hR (by omega) : Cells W _ _) 10 _ rfl
    have hk11 := (HC4.out.below hR (by omega) : Cells W _ _) 11 _ rfl
    have hk12 := (HC4.out.below hR (by omega) : Cells W _ _) 12 _ rfl
    clear hd hf
    (go_simp; try with_reducible rfl)
  refine Mono.rgl_call (fun x _ => x = .int .i64 ((f : Nat) : Int)) rfl Mono.rr (fun _ _ _ h _ => h) (fun ρ a W hR hd hf => ?h4) ?_
  case h4 =>
    have e53 := Mono.dep_val hd hf (t := 53) (k := 3) (by kernel_rfl) rfl
    clear hd hf
    refine ⟨_, _, by go_simp; first | rfl | exact ⟨rfl, rfl⟩, ?_⟩
    exact (HF.out W).mono (fun e W' ⟨he, hb⟩ => ⟨_, he, hb, rfl⟩)
  refine Mono.rgl_val (v := ?v5) rfl Mono.rr (fun ρ a W hR hd hf => ?h5) ?_
  case h5 =>
    have e54 := Mono.dep_val hd hf (t := 54) (k := 4) (by kernel_rfl) rfl
    have hq := Q_f.out
    clear hd hf
    (go_simp; try with_reducible rfl)
  refine Mono.rgl_val (v := ?v6) rfl Mono.rr (fun ρ a W hR hd hf => ?h6) ?_
  case h6 =>
    have e1 := Mono.init_get hf (t := 1) (by kernel_rfl)
    clear hd hf
    (go_simp; try with_reducible rfl)
  refine Mono.rgl_val (v := ?v7) rfl Mono.rr (fun ρ a W hR hd hf => ?h7) ?_
  case h7 =>
    have e56 := Mono.dep_val hd hf (t := 56) (k := 6) (by kernel_rfl) rfl
    have hk := (HC4.out.below hR (by omega) : Cells W _ _) 7 _ rfl
    clear hd hf
    (go_simp; try with_reducible rfl)
  refine Mono.rgl_val (v := ?v8) rfl Mono.rr (fun ρ a W hR hd hf => ?h8) ?_
  case h8 =>
    have e57 := Mono.dep_val hd hf (t := 57) (k := 7) (by kernel_rfl) rfl
    have hq := Q_me.out
    clear hd hf
    (go_simp; try with_reducible rfl)
  refine Mono.rgl_val (v := ?v9) rfl Mono.rr (fun ρ a W hR hd hf => ?h9) ?_
  case h9 =>
    have e6 := Mono.init_get hf (t := 6) (by kernel_rfl)
    clear hd hf
    (go_simp; try with_reducible rfl)
  refine Mono.rgl_val (v := ?v10) rfl Mono.rr (fun ρ a W hR hd hf => ?h10) ?_
  case h10 =>
    have e59 := Mono.dep_val hd hf (t := 59) (k := 9) (by kernel_rfl) rfl
    have hq := Q_C.out
    clear hd hf
    (go_simp; try with_reducible rfl)
  refine Mono.rgl_val (v := ?v11) rfl Mono.rr (fun ρ a W hR hd hf => ?h11) ?_
  case h11 =>
    have e5 := Mono.init_get hf (t := 5) (by kernel_rfl)
    clear hd hf
    (go_simp; try with_reducible rfl)
  refine Mono.rgl_val (v := ?v12) rfl Mono.rr (fun ρ a W hR hd hf => ?h12) ?_
  case h12 =>
    have e61 := Mono.dep_val hd hf (t := 61) (k := 11) (by kernel_rfl) rfl
    have hq := Q_D.out
    clear hd hf
    (go_simp; try with_reducible rfl)
  refine Mono.rgl_pred (fun z W => SU .u64 W z [(20 : Int), (f : Int), (me : Int), (C : Int), (D : Int)]) rfl hstSU (fun ρ a W hR hd hf => ?h13) ?_
  case h13 =>
    have e52 := Mono.dep_val hd hf (t := 52) (k := 2) (by kernel_rfl) rfl
    have e55 := Mono.dep_val hd hf (t := 55) (k := 5) (by kernel_rfl) rfl
    have e58 := Mono.dep_val hd hf (t := 58) (k := 8) (by kernel_rfl) rfl
    have e60 := Mono.dep_val hd hf (t := 60) (k := 10) (by kernel_rfl) rfl
    have e62 := Mono.dep_val hd hf (t := 62) (k := 12) (by kernel_rfl) rfl
    clear hd hf
    exact ⟨_, _, by go_simp; rfl, (Below.refl _ _).alloc (Nat.le_refl _) _, SU.new .u64 W _ _⟩
  refine Mono.rgl_val (v := .int .i64 5) rfl Mono.rr (fun ρ a W hR hd hf => ?h14) ?_
  case h14 =>
    obtain ⟨e63, d13⟩ := Mono.dep_get hd hf (t := 63) (k := 13) (by kernel_rfl)
    replace d13 : (fun z W => SU .u64 W z [(20 : Int), (f : Int), (me : Int), (C : Int), (D : Int)]) (ρ 13) W := d13
    obtain ⟨bq, oq, cq, hzq, _, _⟩ := d13
    rw [hzq] at e63
    clear hd hf
    (go_simp; try with_reducible rfl)
  refine Mono.rgl_val (v := ?v15) rfl Mono.rr (fun ρ a W hR hd hf => ?h15) ?_
  case h15 =>
    clear hd hf
    (go_simp; try with_reducible rfl)
  refine Mono.rgl_done rfl (fun ρ W hR ht => ?_)
  obtain ⟨d15, d14, d13, d12, d11, d10, d9, d8, d7, d6, d5, d4, d3, d2, d1, d0, _⟩ := ht
  replace d13 : (fun z W => SU .u64 W z [(20 : Int), (f : Int), (me : Int), (C : Int), (D : Int)]) (ρ 13) W := d13
  simp only [List.length_cons, List.length_nil, Nat.reduceAdd] at d0 d1 d2 d3 d4 d5 d6 d7 d8 d9 d10 d11 d12 d14 d15
  simp only [Mono.putAll, Nat.reduceAdd, d0, d1, d2, d3, d4, d5, d6, d7, d8, d9, d10, d11, d12, d14, d15, Act.put, List.setIfInBounds_toArray, List.set_cons_zero, List.set_cons_succ]
  clear d0 d1 d2 d3 d4 d5 d6 d7 d8 d9 d10 d11 d12 d14 d15
  generalize ρ 13 = r13 at *
  have hz5 := hR.size
  have HO := Lib.hid (HO.out.below hR)
  have HB5 := Lib.hid (HB4.out.trans (hR.mono (by omega)))
  have HC5 := Lib.hid (HC4.out.below hR (by omega))
  obtain ⟨bs, os, cs, hrs, hbs, hcs⟩ := d13
  simp only [List.length_cons, List.length_nil, Nat.zero_add, Nat.reduceAdd] at hrs
  subst hrs
  have HS : Hid (∀ j, j < 5 → W.cell? ⟨bs, os + j, none⟩ = some (.int .u64 (([(20 : Int), (f : Int), (me : Int), (C : Int), (D : Int)] : List Int).getD j 0))) := Lib.hid hcs
  clear hR hcs HB4 HC4
  obtain ⟨w5, rfl⟩ : ∃ z, z = W := ⟨_, rfl⟩
  have hz5b : w.heap.size + 1 ≤ w5.heap.size := by omega
  clear hz5 hz4 hz3
  go_wp2_with (fail)
  go_loopw [14, 16, 65, 66, 67, 68, 69, 70, 71, 72] (fun v _ i _ _ _ _ _ _ _ wr => ∃ j : Nat, i = .int .i64 j ∧ j ≤ 5 ∧ Hid (OB (w.heap.size + 1) wr v (byt 4 67324752 ++ bys 2 (([(20 : Int), (f : Int), (me : Int), (C : Int), (D : Int)] : List Int).take j))) ∧ Hid (Below w5.heap.size w5 wr)) (fun _ _ i _ _ _ _ _ _ _ _ => 5 - (intOf i).toNat)
  case atStart => exact ⟨0, rfl, by omega, Lib.hid (by rw [List.take_zero]; show OB _ _ _ (_ ++ []); rw [List.append_nil]; exact HO.out), Lib.hid (Below.refl _ _)⟩
  case round =>
    obtain ⟨j, rfl, hj, HOj, HBj⟩ := hrel
    have hzj := HBj.out.size
    by_cases hlt : j < 5
    · have hk : wr.cell? ⟨bs, os + j, none⟩ = _ := (HBj.out.cell (p := ⟨bs, os + j, none⟩) hbs).trans (HS.out j hlt)
      have hmem : ([(20 : Int), (f : Int), (me : Int), (C : Int), (D : Int)] : List Int).getD j 0 ∈ ([(20 : Int), (f : Int), (me : Int), (C : Int), (D : Int)] : List Int) := by
        rw [List.getD_eq_getElem?_getD, List.getElem?_eq_getElem (show j < ([(20 : Int), (f : Int), (me : Int), (C : Int), (D : Int)] : List Int).length from hlt)]; exact List.getElem_mem _
      have hxx := HQ1.out _ hmem
      have HSN := Lib.hid (bys_snoc 2 ([(20 : Int), (f : Int), (me : Int), (C : Int), (D : Int)] : List Int) j hlt)
      clear hmem
      generalize ([(20 : Int), (f : Int), (me : Int), (C : Int), (D : Int)] : List Int).getD j 0 = x at *
      obtain ⟨z, rfl⟩ : ∃ z : Nat, x = z := ⟨x.toNat, by omega⟩
      go_wp2_with (fail)
      refine (appO 2 z HOj.out.byt (by simp only [List.length_append, bys_length, byt_length, List.length_cons, List.length_nil, Array.length_toList, List.length_take]; have : nm.data.size = nm.size := rfl; omega) (by decide) (by decide) (by omega)).mono ?_
      rintro e w6 ⟨u6, rfl, ho, b6⟩
      have HO6 := Lib.hid (OB.mono ho (show w.heap.size + 1 ≤ wr.heap.size by omega))
      have HB6 := Lib.hid (HBj.out.trans (b6.mono (by omega)))
      clear ho b6
      go_wp2_with (fail)
      go_roundw
      case rel => exact ⟨j + 1, by go_num, by omega, Lib.hid (by rw [HSN.out, ← List.append_assoc]; exact HO6.out), HB6⟩
      case measure => simp [intOf]; omega
    · have HO := Lib.hid (show OB (w.heap.size + 1) wr _ (byt 4 67324752 ++ bys 2 ([(20 : Int), (f : Int), (me : Int), (C : Int), (D : Int)] : List Int)) from by have h := HOj.out; rw [show j = 5 by omega] at h; exact h)
      have HB7 := Lib.hid (HB5.out.trans (HBj.out.mono (by omega)))
      have HC7 := Lib.hid (HC5.out.below HBj.out (by omega))
      have hz7 : w.heap.size + 1 ≤ wr.heap.size := by omega
      clear HOj HBj HS HB5 HC5 hbs hzj hj
      obtain ⟨w7, rfl⟩ : ∃ z : World, z = wr := ⟨_, rfl⟩
      go_wp2_with (fail)
      clear hlt
      go_loopw [14, 18, 78, 79, 80, 81, 82, 83, 84, 85] (fun v _ i _ _ _ _ _ _ _ wr => ∃ j : Nat, i = .int .i64 j ∧ j ≤ 3 ∧ w7.heap.size < wr.heap.size ∧ Hid (OB (w.heap.size + 1) wr v ((byt 4 67324752 ++ bys 2 [(20 : Int), (f : Int), (me : Int), (C : Int), (D : Int)]) ++ bys 4 (([(0 : Int), (0 : Int), (0 : Int)] : List Int).take j))) ∧ Hid (Below w7.heap.size w7 wr) ∧ Hid (∀ j, j < 3 → wr.cell? ⟨w7.heap.size, j, none⟩ = some (.int .u64 (([(0 : Int), (0 : Int), (0 : Int)] : List Int).getD j 0)))) (fun _ _ i _ _ _ _ _ _ _ _ => 3 - (intOf i).toNat)
      case atStart =>
        have hb78 := fun o => (Below.refl w7.heap.size w7).alloc (Nat.le_refl _) o
        refine ⟨0, rfl, by omega, by simp, Lib.hid ?_, Lib.hid (hb78 _), Lib.hid (fun j hj => ?_)⟩
        · rw [List.take_zero]; show OB _ _ _ (_ ++ []); rw [List.append_nil]; exact HO.out.below (hb78 _)
        · rw [World.cell?_alloc_at _ _ _ _ rfl]
          match j, hj with
          | 0, _ => rfl
          | 1, _ => rfl
          | 2, _ => rfl
      case round =>
        obtain ⟨i, rfl, hj, hwz, HOj, HBj, HSj⟩ := hrel
        by_cases hlt : i < 3
        · have hk := HSj.out i hlt
          have hmem : ([(0 : Int), (0 : Int), (0 : Int)] : List Int).getD i 0 ∈ ([(0 : Int), (0 : Int), (0 : Int)] : List Int) := by
            rw [List.getD_eq_getElem?_getD, List.getElem?_eq_getElem (show i < ([(0 : Int), (0 : Int), (0 : Int)] : List Int).length from hlt)]; exact List.getElem_mem _
          have hxx := HQ2.out _ hmem
          have HSN := Lib.hid (bys_snoc 4 ([(0 : Int), (0 : Int), (0 : Int)] : List Int) i hlt)
          clear hmem
          generalize ([(0 : Int), (0 : Int), (0 : Int)] : List Int).getD i 0 = x at *
          obtain ⟨z, rfl⟩ : ∃ z : Nat, x = z := ⟨x.toNat, by omega⟩
          go_wp2_with (fail)
          refine (appO 4 z HOj.out.byt (by simp only [List.length_append, bys_length, byt_length, List.length_cons, List.length_nil, Array.length_toList, List.length_take]; have : nm.data.size = nm.size := rfl; omega) (by decide) (by decide) (by omega)).mono ?_
          rintro e w9 ⟨u9, rfl, ho, b9⟩
          have hz9 := b9.size
          have HO9 := Lib.hid (OB.mono ho (show w.heap.size + 1 ≤ wr.heap.size by omega))
          have HB9 := Lib.hid (HBj.out.trans (b9.mono (by omega)))
          have HS9 : Hid (∀ i, i < 3 → w9.cell? ⟨w7.heap.size, i, none⟩ = some (.int .u64 (([(0 : Int), (0 : Int), (0 : Int)] : List Int).getD i 0))) := Lib.hid (fun i hj => (b9.cell (p := ⟨w7.heap.size, i, none⟩) hwz).trans (HSj.out i hj))
          clear ho b9
          go_wp2_with (fail)
          go_roundw
          case rel => exact ⟨i + 1, by go_num, by omega, by omega, Lib.hid (by rw [HSN.out, ← List.append_assoc]; exact HO9.out), HB9, HS9⟩
          case measure => simp [intOf]; omega
        · have HO := Lib.hid (show OB (w.heap.size + 1) wr _ ((byt 4 67324752 ++ bys 2 ([(20 : Int), (f : Int), (me : Int), (C : Int), (D : Int)] : List Int)) ++ bys 4 ([(0 : Int), (0 : Int), (0 : Int)] : List Int)) from by have h := HOj.out; rw [show i = 3 by omega] at h; exact h)
          have HBA := Lib.hid (HB7.out.trans (HBj.out.mono (by omega)))
          have HCA := Lib.hid (HC7.out.below HBj.out (by omega))
          have hzA : w.heap.size + 1 ≤ wr.heap.size := by omega
          clear HOj HBj HSj HB7 HC7 hz7 hwz hj
          obtain ⟨wA, rfl⟩ : ∃ z : World, z = wr := ⟨_, rfl⟩
          have k0 := HCA.out 0 _ rfl
          have hq := Q_nm.out
          go_wp2_with (fail)
          refine (appO 2 nm.size HO.out.byt (by simp only [List.length_append, bys_length, byt_length, List.length_cons, List.length_nil, Array.length_toList, List.length_take]; have : nm.data.size = nm.size := rfl; omega) (by decide) (by decide) (by omega)).mono ?_
          rintro e wB ⟨uB, rfl, ho, bb⟩
          have hzB := bb.size
          have HO := Lib.hid (OB.mono ho (show w.heap.size + 1 ≤ wA.heap.size by omega))
          have HBB := Lib.hid (HBA.out.trans (bb.mono (by omega)))
          have HCB := Lib.hid (HCA.out.below bb (by omega))
          have hzz : w.heap.size + 1 ≤ wB.heap.size := by omega
          clear ho bb HBA HCA hzA hzB k0 hq 
          have hzB := hzz
          clear hzz
          go_wp2_with (fail)
          refine (appO 2 0 HO.out.byt (by simp only [List.length_append, bys_length, byt_length, List.length_cons, List.length_nil, Array.length_toList, List.length_take]; have : nm.data.size = nm.size := rfl; omega) (by decide) (by decide) (by omega)).mono ?_
          rintro e wC ⟨uC, rfl, ho, bb⟩
          have hzC := bb.size
          have HO := Lib.hid (OB.mono ho (show w.heap.size + 1 ≤ wB.heap.size by omega))
          have HBC := Lib.hid (HBB.out.trans (bb.mono (by omega)))
          have HCC := Lib.hid (HCB.out.below bb (by omega))
          have hzz : w.heap.size + 1 ≤ wC.heap.size := by omega
          clear ho bb HBB HCB hzB hzC 
          have hzC := hzz
          clear hzz
          have k0 := HCC.out 0 _ rfl
          go_wp2_with (at_builtin; refine append_OS rfl _ _ rfl rfl HO.out rfl (by simp only [List.length_append, bys_length, byt_length, List.length_cons, List.length_nil, Array.length_toList, List.length_take]; have : nm.data.size = nm.size := rfl; omega) (by omega) ?_)
          intro vD wD ho bb
          have hzD : w.heap.size + 1 ≤ wD.heap.size := Nat.le_trans hzC bb.size
          have HO := Lib.hid ho
          have HBD := Lib.hid (HBC.out.trans (bb.mono (by omega)))
          have HCD := Lib.hid (HCC.out.below bb (by omega))
          clear ho bb k0 HBC HCC hzC
          have k11 := HCD.out 11 _ rfl
          go_wp2_with (fail)
          go_ret2
          exact ⟨_, rfl, OB.mono HO.out (by omega), HBD.out⟩
set_option maxHeartbeats 4000000 in
theorem lenc_ff (nm : ByteArray) (y mo da ho mi se : Int) (me cr pk sz f D C : Nat) (w : World) (hA : Amb w) (hnm : nm.size ≤ 255) (hme : me ≤ 8) (hcr : cr < 4294967296) (hpk : pk ≤ 33554432) (hsz : sz ≤ 16777216) (hf : f ≤ 4000) (hD : D ≤ 65535) (hC : C ≤ 65535)
    (HK : Hid (∀ W, Amb W → Calls Tryd.prog 10 #[.agg #[.string nm, .int .i64 y, .int .i64 mo, .int .i64 da, .int .i64 ho, .int .i64 mi, .int .i64 se, .int .i64 (me : Nat), .int .u32 (cr : Nat), .int .i64 (pk : Nat), .int .i64 (sz : Nat), .bool false, .bool false]] W (CQ (.int .i64 0) W)))
    (HE : Hid (∀ W, Calls Tryd.prog 25 #[.agg #[.int .i64 y, .int .i64 mo, .int .i64 da, .int .i64 ho, .int .i64 mi, .int .i64 se]] W fun e w' => e = .returned (.tuple #[.int .u16 (D : Nat), .int .u16 (C : Nat), .int .i64 0]) ∧ Below W.heap.size W w'))
    (HV : Hid (∀ W, Calls Tryd.prog 11 #[.agg #[.string nm, .int .i64 y, .int .i64 mo, .int .i64 da, .int .i64 ho, .int .i64 mi, .int .i64 se, .int .i64 (me : Nat), .int .u32 (cr : Nat), .int .i64 (pk : Nat), .int .i64 (sz : Nat), .bool false, .bool false]] W (CQ (.int .i64 20) W)))
    (HF : Hid (∀ W, Calls Tryd.prog 13 #[.agg #[.string nm, .int .i64 y, .int .i64 mo, .int .i64 da, .int .i64 ho, .int .i64 mi, .int .i64 se, .int .i64 (me : Nat), .int .u32 (cr : Nat), .int .i64 (pk : Nat), .int .i64 (sz : Nat), .bool false, .bool false]] W (CQ (.int .i64 (f : Nat)) W))) :
    Calls Tryd.prog 9 #[.agg #[.string nm, .int .i64 y, .int .i64 mo, .int .i64 da, .int .i64 ho, .int .i64 mi, .int .i64 se, .int .i64 (me : Nat), .int .u32 (cr : Nat), .int .i64 (pk : Nat), .int .i64 (sz : Nat), .bool false, .bool false]] w fun e w' => ∃ v, e = .returned (.tuple #[v, .int .i64 0]) ∧ OB w.heap.size w' v (((((byt 4 67324752 ++ bys 2 [(20 : Int), (f : Int), (me : Int), (C : Int), (D : Int)]) ++ bys 4 [(cr : Int), (pk : Int), (sz : Int)]) ++ byt 2 nm.size) ++ byt 2 0) ++ nm.data.toList) ∧ Below w.heap.size w w' := by
  have HB := Lib.hid ((Below.refl w.heap.size w).alloc (Nat.le_refl _) (.cells #[.string nm, .int .i64 y, .int .i64 mo, .int .i64 da, .int .i64 ho, .int .i64 mi, .int .i64 se, .int .i64 (me : Nat), .int .u32 (cr : Nat), .int .i64 (pk : Nat), .int .i64 (sz : Nat), .bool false, .bool false] 26))
  have HC := Lib.hid (Cells.new_at w [.string nm, .int .i64 y, .int .i64 mo, .int .i64 da, .int .i64 ho, .int .i64 mi, .int .i64 se, .int .i64 (me : Nat), .int .u32 (cr : Nat), .int .i64 (pk : Nat), .int .i64 (sz : Nat), .bool false, .bool false] 26 w.heap.size rfl)
  have HA := Lib.hid hA
  have q_cr : IntKind.u64.wrap (cr : Int) = cr := by rw [IntKind.wrap_u64]; omega
  have q_pk : IntKind.u64.wrap (pk : Int) = pk := by rw [IntKind.wrap_u64]; omega
  have q_sz : IntKind.u64.wrap (sz : Int) = sz := by rw [IntKind.wrap_u64]; omega
  have Q_me : Hid (IntKind.u64.wrap (me : Int) = me) := Lib.hid (by rw [IntKind.wrap_u64]; omega)
  have Q_f : Hid (IntKind.u64.wrap (f : Int) = f) := Lib.hid (by rw [IntKind.wrap_u64]; omega)
  have Q_D : Hid (IntKind.u64.wrap (D : Int) = D) := Lib.hid (by rw [IntKind.wrap_u64]; omega)
  have Q_C : Hid (IntKind.u64.wrap (C : Int) = C) := Lib.hid (by rw [IntKind.wrap_u64]; omega)
  have Q_nm : Hid (IntKind.u64.wrap (nm.size : Int) = nm.size) := Lib.hid (by rw [IntKind.wrap_u64]; omega)
  have HQ1 : Hid (∀ x ∈ ([(20 : Int), (f : Int), (me : Int), (C : Int), (D : Int)] : List Int), 0 ≤ x ∧ x < 18446744073709551616) := Lib.hid (by intro x hx; simp only [List.mem_cons, List.not_mem_nil, or_false] at hx; omega)
  have HQ2 : Hid (∀ x ∈ ([(cr : Int), (pk : Int), (sz : Int)] : List Int), 0 ≤ x ∧ x < 18446744073709551616) := Lib.hid (by intro x hx; simp only [List.mem_cons, List.not_mem_nil, or_false] at hx; omega)
  clear hA
  go_enter Tryd.func9, Tryd.ntmps9
  go_wp2_with (fail)
  refine (HK.out _ (HA.out.below HB.out)).mono ?_
  rintro e w1 ⟨rfl, b1⟩
  have hz1 := b1.size
  simp only [World.size_alloc] at hz1
  have HB1 := Lib.hid (HB.out.trans (b1.mono (by simp)))
  have HC1 := Lib.hid (HC.out.below b1 (by simp))
  clear b1 HB HC
  have k1 := HC1.out 1 _ rfl
  have k2 := HC1.out 2 _ rfl
  have k3 := HC1.out 3 _ rfl
  have k4 := HC1.out 4 _ rfl
  have k5 := HC1.out 5 _ rfl
  have k6 := HC1.out 6 _ rfl
  go_wp2_with (fail)
  refine (HE.out _).mono ?_
  rintro e w2 ⟨rfl, b2⟩
  have hz2 := b2.size
  have HB2 := Lib.hid (HB1.out.trans (b2.mono (by omega)))
  have HC2 := Lib.hid (HC1.out.below b2 (by omega))
  clear b2 HB1 HC1 k1 k2 k3 k4 k5 k6
  have k8 := HC2.out 8 _ rfl
  have k9 := HC2.out 9 _ rfl
  have k10 := HC2.out 10 _ rfl
  go_wp2_with (fail)
  go_quiet (fail)
  have HB3 := Lib.hid (below_drewN HB2.out nq)
  have HC3 := Lib.hid (HC2.out.below (below_drewN (Below.refl w2.heap.size w2) nq) (by omega))
  have hz3 : w.heap.size + 1 ≤ (w2.drewN nq).heap.size := by show _ ≤ w2.heap.size; omega
  clear k8 k9 k10 HB2 HC2
  generalize w2.drewN nq = w3 at *
  have k11 := HC3.out 11 _ rfl
  have k12 := HC3.out 12 _ rfl
  clear hz1 hz2 q_cr q_pk q_sz
  go_wp2_with (fail)
  refine (appO 4 67324752 (nil_byt _) (by decide) (by decide) (by decide) (by decide)).mono ?_
  rintro e w4 ⟨u4, rfl, ho, b4⟩
  have hz4 := b4.size
  rw [List.nil_append] at ho
  have HO := Lib.hid (OB.mono ho (show w.heap.size + 1 ≤ w3.heap.size by omega))
  have HB4 := Lib.hid (HB3.out.trans (b4.mono (by omega)))
  have HC4 := Lib.hid (HC3.out.below b4 (by omega))
  clear ho b4 k11 k12 HB3 HC3
  go_wp2_with (fail)
  refine Mono.region_below (by kernel_rfl) (by kernel_rfl) (by kernel_rfl) ?_
  refine Mono.rgl_val (v := ?v0) rfl Mono.rr (fun ρ a W hR hd hf => ?h0) ?_
  case h0 =>
    have e1 := Mono.init_get hf (t := 1) (by kernel_rfl)
    have hk0 := (HC4.out.below hR (by omega) : Cells W _ _) 0 _ rfl
    have hk1 := (HC4.out.below hR (by omega) : Cells W _ _) 1 _ rfl
    have hk2 := (HC4.out.below hR (by omega) : Cells W _ _) 2 _ rfl
    have hk3 := (HC4.out.below hR (by omega) : Cells W _ _) 3 _ rfl
    have hk4 := (HC4.out.below hR (by omega) : Cells W _ _) 4 _ rfl
    have hk5 := (HC4.out.below hR (by omega) : Cells W _ _) 5 _ rfl
    have hk6 := (HC4.out.below hR (by omega) : Cells W _ _) 6 _ rfl
    have hk7 := (HC4.out.below hR (by omega) : Cells W _ _) 7 _ rfl
    have hk8 := (HC4.out.below hR (by omega) : Cells W _ _) 8 _ rfl
    have hk9 := (HC4.out.below hR (by omega) : Cells W _ _) 9 _ rfl
    have hk10 := (HC4.out.below hR (by omega) : Cells W _ _) 10 _ rfl
    have hk11 := (HC4.out.below hR (by omega) : Cells W _ _) 11 _ rfl
    have hk12 := (HC4.out.below hR (by omega) : Cells W _ _) 12 _ rfl
    clear hd hf
    (go_simp; try with_reducible rfl)
  refine Mono.rgl_call (fun x _ => x = .int .i64 20) rfl Mono.rr (fun _ _ _ h _ => h) (fun ρ a W hR hd hf => ?h1) ?_
  case h1 =>
    have e50 := Mono.dep_val hd hf (t := 50) (k := 0) (by kernel_rfl) rfl
    clear hd hf
    refine ⟨_, _, by go_simp; first | rfl | exact ⟨rfl, rfl⟩, ?_⟩
    exact (HV.out W).mono (fun e W' ⟨he, hb⟩ => ⟨_, he, hb, rfl⟩)
  refine Mono.rgl_val (v := ?v2) rfl Mono.rr (fun ρ a W hR hd hf => ?h2) ?_
  case h2 =>
    have e51 := Mono.dep_val hd hf (t := 51) (k := 1) (by kernel_rfl) rfl
    clear hd hf
    (go_simp; try with_reducible rfl)
  refine Mono.rgl_val (v := ?v3) rfl Mono.rr (fun ρ a W hR hd hf => ?h3) ?_
  case h3 =>
    have e1 := Mono.init_get hf (t := 1) (by kernel_rfl)
    have hk0 := (HC4.out.below hR (by omega) : Cells W _ _) 0 _ rfl
    have hk1 := (HC4.out.below hR (by omega) : Cells W _ _) 1 _ rfl
    have hk2 := (HC4.out.below hR (by omega) : Cells W _ _) 2 _ rfl
    have hk3 := (HC4.out.below hR (by omega) : Cells W _ _) 3 _ rfl
    have hk4 := (HC4.out.below hR (by omega) : Cells W _ _) 4 _ rfl
    have hk5 := (HC4.out.below hR (by omega) : Cells W _ _) 5 _ rfl
    have hk6 := (HC4.out.below hR (by omega) : Cells W _ _) 6 _ rfl
    have hk7 := (HC4.out.below hR (by omega) : Cells W _ _) 7 _ rfl
    have hk8 := (HC4.out.below hR (by omega) : Cells W _ _) 8 _ rfl
    have hk9 := (HC4.out.below hR (by omega) : Cells W _ _) 9 _ rfl
    have hk10 := (HC4.out.below hR (by omega) : Cells W _ _) 10 _ rfl
    have hk11 := (HC4.out.below hR (by omega) : Cells W _ _) 11 _ rfl
    have hk12 := (HC4.out.below hR (by omega) : Cells W _ _) 12 _ rfl
    clear hd hf
    (go_simp; try with_reducible rfl)
  refine Mono.rgl_call (fun x _ => x = .int .i64 ((f : Nat) : Int)) rfl Mono.rr (fun _ _ _ h _ => h) (fun ρ a W hR hd hf => ?h4) ?_
  case h4 =>
    have e53 := Mono.dep_val hd hf (t := 53) (k := 3) (by kernel_rfl) rfl
    clear hd hf
    refine ⟨_, _, by go_simp; first | rfl | exact ⟨rfl, rfl⟩, ?_⟩
    exact (HF.out W).mono (fun e W' ⟨he, hb⟩ => ⟨_, he, hb, rfl⟩)
  refine Mono.rgl_val (v := ?v5) rfl Mono.rr (fun ρ a W hR hd hf => ?h5) ?_
  case h5 =>
    have e54 := Mono.dep_val hd hf (t := 54) (k := 4) (by kernel_rfl) rfl
    have hq := Q_f.out
    clear hd hf
    (go_simp; try with_reducible rfl)
  refine Mono.rgl_val (v := ?v6) rfl Mono.rr (fun ρ a W hR hd hf => ?h6) ?_
  case h6 =>
    have e1 := Mono.init_get hf (t := 1) (by kernel_rfl)
    clear hd hf
    (go_simp; try with_reducible rfl)
  refine Mono.rgl_val (v := ?v7) rfl Mono.rr (fun ρ a W hR hd hf => ?h7) ?_
  case h7 =>
    have e56 := Mono.dep_val hd hf (t := 56) (k := 6) (by kernel_rfl) rfl
    have hk := (HC4.out.below hR (by omega) : Cells W _ _) 7 _ rfl
    clear hd hf
    (go_simp; try with_reducible rfl)
  refine Mono.rgl_val (v := ?v8) rfl Mono.rr (fun ρ a W hR hd hf => ?h8) ?_
  case h8 =>
    have e57 := Mono.dep_val hd hf (t := 57) (k := 7) (by kernel_rfl) rfl
    have hq := Q_me.out
    clear hd hf
    (go_simp; try with_reducible rfl)
  refine Mono.rgl_val (v := ?v9) rfl Mono.rr (fun ρ a W hR hd hf => ?h9) ?_
  case h9 =>
    have e6 := Mono.init_get hf (t := 6) (by kernel_rfl)
    clear hd hf
    (go_simp; try with_reducible rfl)
  refine Mono.rgl_val (v := ?v10) rfl Mono.rr (fun ρ a W hR hd hf => ?h10) ?_
  case h10 =>
    have e59 := Mono.dep_val hd hf (t := 59) (k := 9) (by kernel_rfl) rfl
    have hq := Q_C.out
    clear hd hf
    (go_simp; try with_reducible rfl)
  refine Mono.rgl_val (v := ?v11) rfl Mono.rr (fun ρ a W hR hd hf => ?h11) ?_
  case h11 =>
    have e5 := Mono.init_get hf (t := 5) (by kernel_rfl)
    clear hd hf
    (go_simp; try with_reducible rfl)
  refine Mono.rgl_val (v := ?v12) rfl Mono.rr (fun ρ a W hR hd hf => ?h12) ?_
  case h12 =>
    have e61 := Mono.dep_val hd hf (t := 61) (k := 11) (by kernel_rfl) rfl
    have hq := Q_D.out
    clear hd hf
    (go_simp; try with_reducible rfl)
  refine Mono.rgl_pred (fun z W => SU .u64 W z [(20 : Int), (f : Int), (me : Int), (C : Int), (D : Int)]) rfl hstSU (fun ρ a W hR hd hf => ?h13) ?_
  case h13 =>
    have e52 := Mono.dep_val hd hf (t := 52) (k := 2) (by kernel_rfl) rfl
    have e55 := Mono.dep_val hd hf (t := 55) (k := 5) (by kernel_rfl) rfl
    have e58 := Mono.dep_val hd hf (t := 58) (k := 8) (by kernel_rfl) rfl
    have e60 := Mono.dep_val hd hf (t := 60) (k := 10) (by kernel_rfl) rfl
    have e62 := Mono.dep_val hd hf (t := 62) (k := 12) (by kernel_rfl) rfl
    clear hd hf
    exact ⟨_, _, by go_simp; rfl, (Below.refl _ _).alloc (Nat.le_refl _) _, SU.new .u64 W _ _⟩
  refine Mono.rgl_val (v := .int .i64 5) rfl Mono.rr (fun ρ a W hR hd hf => ?h14) ?_
  case h14 =>
    obtain ⟨e63, d13⟩ := Mono.dep_get hd hf (t := 63) (k := 13) (by kernel_rfl)
    replace d13 : (fun z W => SU .u64 W z [(20 : Int), (f : Int), (me : Int), (C : Int), (D : Int)]) (ρ 13) W := d13
    obtain ⟨bq, oq, cq, hzq, _, _⟩ := d13
    rw [hzq] at e63
    clear hd hf
    (go_simp; try with_reducible rfl)
  refine Mono.rgl_val (v := ?v15) rfl Mono.rr (fun ρ a W hR hd hf => ?h15) ?_
  case h15 =>
    clear hd hf
    (go_simp; try with_reducible rfl)
  refine Mono.rgl_done rfl (fun ρ W hR ht => ?_)
  obtain ⟨d15, d14, d13, d12, d11, d10, d9, d8, d7, d6, d5, d4, d3, d2, d1, d0, _⟩ := ht
  replace d13 : (fun z W => SU .u64 W z [(20 : Int), (f : Int), (me : Int), (C : Int), (D : Int)]) (ρ 13) W := d13
  simp only [List.length_cons, List.length_nil, Nat.reduceAdd] at d0 d1 d2 d3 d4 d5 d6 d7 d8 d9 d10 d11 d12 d14 d15
  simp only [Mono.putAll, Nat.reduceAdd, d0, d1, d2, d3, d4, d5, d6, d7, d8, d9, d10, d11, d12, d14, d15, Act.put, List.setIfInBounds_toArray, List.set_cons_zero, List.set_cons_succ]
  clear d0 d1 d2 d3 d4 d5 d6 d7 d8 d9 d10 d11 d12 d14 d15
  generalize ρ 13 = r13 at *
  have hz5 := hR.size
  have HO := Lib.hid (HO.out.below hR)
  have HB5 := Lib.hid (HB4.out.trans (hR.mono (by omega)))
  have HC5 := Lib.hid (HC4.out.below hR (by omega))
  obtain ⟨bs, os, cs, hrs, hbs, hcs⟩ := d13
  simp only [List.length_cons, List.length_nil, Nat.zero_add, Nat.reduceAdd] at hrs
  subst hrs
  have HS : Hid (∀ j, j < 5 → W.cell? ⟨bs, os + j, none⟩ = some (.int .u64 (([(20 : Int), (f : Int), (me : Int), (C : Int), (D : Int)] : List Int).getD j 0))) := Lib.hid hcs
  clear hR hcs HB4 HC4
  obtain ⟨w5, rfl⟩ : ∃ z, z = W := ⟨_, rfl⟩
  have hz5b : w.heap.size + 1 ≤ w5.heap.size := by omega
  clear hz5 hz4 hz3
  go_wp2_with (fail)
  go_loopw [14, 16, 65, 66, 67, 68, 69, 70, 71, 72] (fun v _ i _ _ _ _ _ _ _ wr => ∃ j : Nat, i = .int .i64 j ∧ j ≤ 5 ∧ Hid (OB (w.heap.size + 1) wr v (byt 4 67324752 ++ bys 2 (([(20 : Int), (f : Int), (me : Int), (C : Int), (D : Int)] : List Int).take j))) ∧ Hid (Below w5.heap.size w5 wr)) (fun _ _ i _ _ _ _ _ _ _ _ => 5 - (intOf i).toNat)
  case atStart => exact ⟨0, rfl, by omega, Lib.hid (by rw [List.take_zero]; show OB _ _ _ (_ ++ []); rw [List.append_nil]; exact HO.out), Lib.hid (Below.refl _ _)⟩
  case round =>
    obtain ⟨j, rfl, hj, HOj, HBj⟩ := hrel
    have hzj := HBj.out.size
    by_cases hlt : j < 5
    · have hk : wr.cell? ⟨bs, os + j, none⟩ = _ := (HBj.out.cell (p := ⟨bs, os + j, none⟩) hbs).trans (HS.out j hlt)
      have hmem : ([(20 : Int), (f : Int), (me : Int), (C : Int), (D : Int)] : List Int).getD j 0 ∈ ([(20 : Int), (f : Int), (me : Int), (C : Int), (D : Int)] : List Int) := by
        rw [List.getD_eq_getElem?_getD, List.getElem?_eq_getElem (show j < ([(20 : Int), (f : Int), (me : Int), (C : Int), (D : Int)] : List Int).length from hlt)]; exact List.getElem_mem _
      have hxx := HQ1.out _ hmem
      have HSN := Lib.hid (bys_snoc 2 ([(20 : Int), (f : Int), (me : Int), (C : Int), (D : Int)] : List Int) j hlt)
      clear hmem
      generalize ([(20 : Int), (f : Int), (me : Int), (C : Int), (D : Int)] : List Int).getD j 0 = x at *
      obtain ⟨z, rfl⟩ : ∃ z : Nat, x = z := ⟨x.toNat, by omega⟩
      go_wp2_with (fail)
      refine (appO 2 z HOj.out.byt (by simp only [List.length_append, bys_length, byt_length, List.length_cons, List.length_nil, Array.length_toList, List.length_take]; have : nm.data.size = nm.size := rfl; omega) (by decide) (by decide) (by omega)).mono ?_
      rintro e w6 ⟨u6, rfl, ho, b6⟩
      have HO6 := Lib.hid (OB.mono ho (show w.heap.size + 1 ≤ wr.heap.size by omega))
      have HB6 := Lib.hid (HBj.out.trans (b6.mono (by omega)))
      clear ho b6
      go_wp2_with (fail)
      go_roundw
      case rel => exact ⟨j + 1, by go_num, by omega, Lib.hid (by rw [HSN.out, ← List.append_assoc]; exact HO6.out), HB6⟩
      case measure => simp [intOf]; omega
    · have HO := Lib.hid (show OB (w.heap.size + 1) wr _ (byt 4 67324752 ++ bys 2 ([(20 : Int), (f : Int), (me : Int), (C : Int), (D : Int)] : List Int)) from by have h := HOj.out; rw [show j = 5 by omega] at h; exact h)
      have HB7 := Lib.hid (HB5.out.trans (HBj.out.mono (by omega)))
      have HC7 := Lib.hid (HC5.out.below HBj.out (by omega))
      have hz7 : w.heap.size + 1 ≤ wr.heap.size := by omega
      clear HOj HBj HS HB5 HC5 hbs hzj hj
      obtain ⟨w7, rfl⟩ : ∃ z : World, z = wr := ⟨_, rfl⟩
      go_wp2_with (fail)
      clear hlt
      go_loopw [14, 18, 78, 79, 80, 81, 82, 83, 84, 85] (fun v _ i _ _ _ _ _ _ _ wr => ∃ j : Nat, i = .int .i64 j ∧ j ≤ 3 ∧ w7.heap.size < wr.heap.size ∧ Hid (OB (w.heap.size + 1) wr v ((byt 4 67324752 ++ bys 2 [(20 : Int), (f : Int), (me : Int), (C : Int), (D : Int)]) ++ bys 4 (([(cr : Int), (pk : Int), (sz : Int)] : List Int).take j))) ∧ Hid (Below w7.heap.size w7 wr) ∧ Hid (∀ j, j < 3 → wr.cell? ⟨w7.heap.size, j, none⟩ = some (.int .u64 (([(cr : Int), (pk : Int), (sz : Int)] : List Int).getD j 0)))) (fun _ _ i _ _ _ _ _ _ _ _ => 3 - (intOf i).toNat)
      case atStart =>
        have hb78 := fun o => (Below.refl w7.heap.size w7).alloc (Nat.le_refl _) o
        refine ⟨0, rfl, by omega, by simp, Lib.hid ?_, Lib.hid (hb78 _), Lib.hid (fun j hj => ?_)⟩
        · rw [List.take_zero]; show OB _ _ _ (_ ++ []); rw [List.append_nil]; exact HO.out.below (hb78 _)
        · rw [World.cell?_alloc_at _ _ _ _ rfl]
          match j, hj with
          | 0, _ => rfl
          | 1, _ => rfl
          | 2, _ => rfl
      case round =>
        obtain ⟨i, rfl, hj, hwz, HOj, HBj, HSj⟩ := hrel
        by_cases hlt : i < 3
        · have hk := HSj.out i hlt
          have hmem : ([(cr : Int), (pk : Int), (sz : Int)] : List Int).getD i 0 ∈ ([(cr : Int), (pk : Int), (sz : Int)] : List Int) := by
            rw [List.getD_eq_getElem?_getD, List.getElem?_eq_getElem (show i < ([(cr : Int), (pk : Int), (sz : Int)] : List Int).length from hlt)]; exact List.getElem_mem _
          have hxx := HQ2.out _ hmem
          have HSN := Lib.hid (bys_snoc 4 ([(cr : Int), (pk : Int), (sz : Int)] : List Int) i hlt)
          clear hmem
          generalize ([(cr : Int), (pk : Int), (sz : Int)] : List Int).getD i 0 = x at *
          obtain ⟨z, rfl⟩ : ∃ z : Nat, x = z := ⟨x.toNat, by omega⟩
          go_wp2_with (fail)
          refine (appO 4 z HOj.out.byt (by simp only [List.length_append, bys_length, byt_length, List.length_cons, List.length_nil, Array.length_toList, List.length_take]; have : nm.data.size = nm.size := rfl; omega) (by decide) (by decide) (by omega)).mono ?_
          rintro e w9 ⟨u9, rfl, ho, b9⟩
          have hz9 := b9.size
          have HO9 := Lib.hid (OB.mono ho (show w.heap.size + 1 ≤ wr.heap.size by omega))
          have HB9 := Lib.hid (HBj.out.trans (b9.mono (by omega)))
          have HS9 : Hid (∀ i, i < 3 → w9.cell? ⟨w7.heap.size, i, none⟩ = some (.int .u64 (([(cr : Int), (pk : Int), (sz : Int)] : List Int).getD i 0))) := Lib.hid (fun i hj => (b9.cell (p := ⟨w7.heap.size, i, none⟩) hwz).trans (HSj.out i hj))
          clear ho b9
          go_wp2_with (fail)
          go_roundw
          case rel => exact ⟨i + 1, by go_num, by omega, by omega, Lib.hid (by rw [HSN.out, ← List.append_assoc]; exact HO9.out), HB9, HS9⟩
          case measure => simp [intOf]; omega
        · have HO := Lib.hid (show OB (w.heap.size + 1) wr _ ((byt 4 67324752 ++ bys 2 ([(20 : Int), (f : Int), (me : Int), (C : Int), (D : Int)] : List Int)) ++ bys 4 ([(cr : Int), (pk : Int), (sz : Int)] : List Int)) from by have h := HOj.out; rw [show i = 3 by omega] at h; exact h)
          have HBA := Lib.hid (HB7.out.trans (HBj.out.mono (by omega)))
          have HCA := Lib.hid (HC7.out.below HBj.out (by omega))
          have hzA : w.heap.size + 1 ≤ wr.heap.size := by omega
          clear HOj HBj HSj HB7 HC7 hz7 hwz hj
          obtain ⟨wA, rfl⟩ : ∃ z : World, z = wr := ⟨_, rfl⟩
          have k0 := HCA.out 0 _ rfl
          have hq := Q_nm.out
          go_wp2_with (fail)
          refine (appO 2 nm.size HO.out.byt (by simp only [List.length_append, bys_length, byt_length, List.length_cons, List.length_nil, Array.length_toList, List.length_take]; have : nm.data.size = nm.size := rfl; omega) (by decide) (by decide) (by omega)).mono ?_
          rintro e wB ⟨uB, rfl, ho, bb⟩
          have hzB := bb.size
          have HO := Lib.hid (OB.mono ho (show w.heap.size + 1 ≤ wA.heap.size by omega))
          have HBB := Lib.hid (HBA.out.trans (bb.mono (by omega)))
          have HCB := Lib.hid (HCA.out.below bb (by omega))
          have hzz : w.heap.size + 1 ≤ wB.heap.size := by omega
          clear ho bb HBA HCA hzA hzB k0 hq 
          have hzB := hzz
          clear hzz
          go_wp2_with (fail)
          refine (appO 2 0 HO.out.byt (by simp only [List.length_append, bys_length, byt_length, List.length_cons, List.length_nil, Array.length_toList, List.length_take]; have : nm.data.size = nm.size := rfl; omega) (by decide) (by decide) (by omega)).mono ?_
          rintro e wC ⟨uC, rfl, ho, bb⟩
          have hzC := bb.size
          have HO := Lib.hid (OB.mono ho (show w.heap.size + 1 ≤ wB.heap.size by omega))
          have HBC := Lib.hid (HBB.out.trans (bb.mono (by omega)))
          have HCC := Lib.hid (HCB.out.below bb (by omega))
          have hzz : w.heap.size + 1 ≤ wC.heap.size := by omega
          clear ho bb HBB HCB hzB hzC 
          have hzC := hzz
          clear hzz
          have k0 := HCC.out 0 _ rfl
          go_wp2_with (at_builtin; refine append_OS rfl _ _ rfl rfl HO.out rfl (by simp only [List.length_append, bys_length, byt_length, List.length_cons, List.length_nil, Array.length_toList, List.length_take]; have : nm.data.size = nm.size := rfl; omega) (by omega) ?_)
          intro vD wD ho bb
          have hzD : w.heap.size + 1 ≤ wD.heap.size := Nat.le_trans hzC bb.size
          have HO := Lib.hid ho
          have HBD := Lib.hid (HBC.out.trans (bb.mono (by omega)))
          have HCD := Lib.hid (HCC.out.below bb (by omega))
          clear ho bb k0 HBC HCC hzC
          have k11 := HCD.out 11 _ rfl
          go_wp2_with (fail)
          go_ret2
          exact ⟨_, rfl, OB.mono HO.out (by omega), HBD.out⟩
end Go.Proofs.YtcpojpgdjjmfbaaDoor
