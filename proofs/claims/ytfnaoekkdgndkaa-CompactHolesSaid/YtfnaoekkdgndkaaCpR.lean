/- The document's holes. -/
import Derived.Test.YtfnaoekkdgndkaaCpO
namespace Go.Proofs.Ytfnaoekkdgndkaa
set_option maxRecDepth 100000
set_option linter.unusedVariables false
set_option linter.unusedSimpArgs false
open Go.RowKit
set_option maxHeartbeats 8000000 in
theorem refHoles_any (n : Nat) (ls : Nat → List Sp) (us : Nat → Value) (v : Value) (B : Nat) (w : World) (h : Sl w B 1 v n (pcells n us)) (hB : B ≤ w.heap.size) (hl : ∀ o, o < n → Sl w w.heap.size 2 (us o) (ls o).length (lc spC (ls o))) (hwf : WF ls n) (hn : n ≤ 1000) (hsum : sumL ls n ≤ 1000) (hbd : ∀ o, o < n → BdS (ls o)) :
    Calls Try.prog 18 #[v] w (Holes_p n ls w) := by
  have HPLC := Lib.hid (pieces_any n ls us v B w h hB hl hn hsum)
  have HHB := Lib.hid (fun k hk => ho_bd hwf hbd k hk)
  have HPB := Lib.hid (fun k (hk : k < sumL ls n) => piece_bd hbd hk)
  clear h hl hwf hbd
  go_enter Try.func18, Try.ntmps18
  go_wp2_with (fail)
  refine HPLC.out.mono ?_
  rintro e w1 ⟨pv, rfl, hps, hb1⟩
  have HP := Lib.hid hps
  have HB1 := Lib.hid hb1
  obtain ⟨pa, pc, rfl, _⟩ := hps.form
  obtain ⟨N, hN⟩ : ∃ z, sumL ls n = z := ⟨_, rfl⟩
  have HN := Lib.hid hN
  rw [hN] at HP hsum HHB HPB ⊢
  have HPL : Hid (N = (pcs ls n).length) := Lib.hid (by rw [pcs_len, hN])
  clear hps hb1 HPLC hN
  go_wp2_with (fail)
  go_loopw [5, 6, 7, 8] (fun t x y i wr => ∃ k : Nat, i = .int .i64 k ∧ k ≤ N ∧ t = .int .i64 ((HoN (atP (pcs ls n)) k).2.2 : Nat) ∧ x = .int .i64 ((HoN (atP (pcs ls n)) k).1 : Nat) ∧ y = .int .i64 ((HoN (atP (pcs ls n)) k).2.1 : Nat) ∧ Hid (Below w1.heap.size w1 wr)) (fun _ _ _ i _ => N - (intOf i).toNat)
  case atStart => exact ⟨0, rfl, Nat.zero_le _, rfl, rfl, rfl, Lib.hid (Below.refl _ _)⟩
  case round =>
    obtain ⟨k, rfl, hk, rfl, rfl, rfl, HB⟩ := hrel
    obtain ⟨wo, rfl⟩ : ∃ z : World, z = wr := ⟨_, rfl⟩
    by_cases hkn : k < N
    rotate_left
    · have d3 : decide (k < N) = false := decide_eq_false hkn
      have d4 : decide ((k : Int) < (N : Int)) = false := decide_eq_false (by omega)
      obtain rfl : k = N := by omega
      go_wp2_with (fail)
      go_ret2
      exact ⟨by rw [HN.out]; rfl, HB1.out.trans (HB.out.mono HB1.out.size)⟩
    have d3 : decide (k < N) = true := decide_eq_true hkn
    have d4 : decide ((k : Int) < (N : Int)) = true := decide_eq_true (by omega)
    have q2 : IntKind.i64.wrap ((k : Int) + 1) = (k : Int) + 1 := IntWalk.i64_in _ (by omega)
    have hbk : (k : Int) < (N : Int) := by omega
    have hsl := HP.out.below HB.out
    rcases row_form hsl with ⟨_, h0, _⟩ | ⟨g, gc, hgv, _⟩
    · omega
    injection hgv with hv1 _ hv3
    subst hv1 hv3
    have KP := Lib.hid (fun (W : World) (hW : Below wo.heap.size wo W) => pc_row (hsl.below hW) HPL.out (atP_get (l := pcs ls n) (j := k) (by have := HPL.out; omega)))
    obtain ⟨h1, h2, h3, h4⟩ := HHB.out k hk
    have h5 := h4 hkn
    have h6 := HPB.out k hkn
    have hs1 : (HoN (atP (pcs ls n)) (k + 1)).1 = if (HoN (atP (pcs ls n)) k).2.2 < (atP (pcs ls n) k).a then (HoN (atP (pcs ls n)) k).1 + 1 else (HoN (atP (pcs ls n)) k).1 := rfl
    have hs2 : (HoN (atP (pcs ls n)) (k + 1)).2.1 = if (HoN (atP (pcs ls n)) k).2.2 < (atP (pcs ls n) k).a then (HoN (atP (pcs ls n)) k).2.1 + ((atP (pcs ls n) k).a - (HoN (atP (pcs ls n)) k).2.2) else (HoN (atP (pcs ls n)) k).2.1 := rfl
    have hs3 : (HoN (atP (pcs ls n)) (k + 1)).2.2 = (atP (pcs ls n) k).a + (atP (pcs ls n) k).l := rfl
    generalize (HoN (atP (pcs ls n)) k).1 = X at *
    generalize (HoN (atP (pcs ls n)) k).2.1 = Y at *
    generalize (HoN (atP (pcs ls n)) k).2.2 = E at *
    generalize hA : (atP (pcs ls n) k).a = A at *
    generalize hL : (atP (pcs ls n) k).l = L at *
    generalize hO : (atP (pcs ls n) k).o = O at *
    generalize hI : (atP (pcs ls n) k).i = I at *
    have H1 := Lib.hid hs1
    have H2 := Lib.hid hs2
    have H3 := Lib.hid hs3
    obtain ⟨c0, c1, c2, c3⟩ := KP.out wo (Below.refl _ _)
    have q7 : IntKind.i64.wrap ((A : Int) + (L : Int)) = ((A + L : Nat) : Int) := by rw [IntWalk.i64_in _ (by omega)]; omega
    clear hA hL hO hI hsl hs1 hs2 hs3 h4
    go_upto_region 6 with (fail)
    by_cases hlt : E < A
    · have e1 : decide (E < A) = true := decide_eq_true hlt
      have e2 : decide ((E : Int) < (A : Int)) = true := decide_eq_true (by omega)
      have q3 : IntKind.i64.wrap ((X : Int) + 1) = ((X + 1 : Nat) : Int) := by rw [IntWalk.i64_in _ (by omega)]; omega
      have q4 : IntKind.i64.wrap ((Y : Int) + (A : Int)) = (Y : Int) + (A : Int) := by rw [IntWalk.i64_in _ (by omega)]
      have q6 : IntKind.i64.wrap ((Y : Int) + (A : Int) - (E : Int)) = ((Y + (A - E) : Nat) : Int) := by rw [IntWalk.i64_in _ (by omega)]; omega
      have R1 : Hid ((HoN (atP (pcs ls n)) (k + 1)).1 = X + 1) := Lib.hid (by rw [H1.out, if_pos hlt])
      have R2 : Hid ((HoN (atP (pcs ls n)) (k + 1)).2.1 = Y + (A - E)) := Lib.hid (by rw [H2.out, if_pos hlt])
      clear hlt
      go_upto_region 9 with (fail)
      refine Mono.region_below (by kernel_rfl) (by kernel_rfl) (by kernel_rfl) ?_
      refine Mono.rgl_val (v := ?va0) rfl Mono.rr (fun ρ a W hR hd hf => ?ha0) ?_
      case ha0 =>
        have e4 := Mono.init_get hf (t := 4) (by kernel_rfl)
        clear hd hf
        (go_simp; try with_reducible rfl)
      refine Mono.rgl_val (v := ?va1) rfl Mono.rr (fun ρ a W hR hd hf => ?ha1) ?_
      case ha1 =>
        have e8 := Mono.init_get hf (t := 8) (by kernel_rfl)
        clear hd hf
        (go_simp; try with_reducible rfl)
      refine Mono.rgl_val (v := ?va2) rfl Mono.rr (fun ρ a W hR hd hf => ?ha2) ?_
      case ha2 =>
        have e37 := Mono.dep_val hd hf (t := 37) (k := 0) (by kernel_rfl) rfl
        have e38 := Mono.dep_val hd hf (t := 38) (k := 1) (by kernel_rfl) rfl
        clear hd hf
        (go_simp; try with_reducible rfl)
      refine Mono.rgl_val (v := ?va3) rfl Mono.rr (fun ρ a W hR hd hf => ?ha3) ?_
      case ha3 =>
        have e39 := Mono.dep_val hd hf (t := 39) (k := 2) (by kernel_rfl) rfl
        clear hd hf
        (go_simp; try with_reducible rfl)
      refine Mono.rgl_val (v := ?va4) rfl Mono.rr (fun ρ a W hR hd hf => ?ha4) ?_
      case ha4 =>
        have e40 := Mono.dep_val hd hf (t := 40) (k := 3) (by kernel_rfl) rfl
        clear hd hf
        (go_simp; try with_reducible rfl)
      refine Mono.rgl_val (v := ?va5) rfl Mono.rr (fun ρ a W hR hd hf => ?ha5) ?_
      case ha5 =>
        have e41 := Mono.dep_val hd hf (t := 41) (k := 4) (by kernel_rfl) rfl
        have hk := (KP.out W hR).1
        clear hd hf
        (go_simp; try with_reducible rfl)
      refine Mono.rgl_val (v := ?va6) rfl Mono.rr (fun ρ a W hR hd hf => ?ha6) ?_
      case ha6 =>
        have e4 := Mono.init_get hf (t := 4) (by kernel_rfl)
        clear hd hf
        (go_simp; try with_reducible rfl)
      refine Mono.rgl_val (v := ?va7) rfl Mono.rr (fun ρ a W hR hd hf => ?ha7) ?_
      case ha7 =>
        have e8 := Mono.init_get hf (t := 8) (by kernel_rfl)
        clear hd hf
        (go_simp; try with_reducible rfl)
      refine Mono.rgl_val (v := ?va8) rfl Mono.rr (fun ρ a W hR hd hf => ?ha8) ?_
      case ha8 =>
        have e43 := Mono.dep_val hd hf (t := 43) (k := 6) (by kernel_rfl) rfl
        have e44 := Mono.dep_val hd hf (t := 44) (k := 7) (by kernel_rfl) rfl
        clear hd hf
        (go_simp; try with_reducible rfl)
      refine Mono.rgl_val (v := ?va9) rfl Mono.rr (fun ρ a W hR hd hf => ?ha9) ?_
      case ha9 =>
        have e45 := Mono.dep_val hd hf (t := 45) (k := 8) (by kernel_rfl) rfl
        clear hd hf
        (go_simp; try with_reducible rfl)
      refine Mono.rgl_val (v := ?va10) rfl Mono.rr (fun ρ a W hR hd hf => ?ha10) ?_
      case ha10 =>
        have e46 := Mono.dep_val hd hf (t := 46) (k := 9) (by kernel_rfl) rfl
        clear hd hf
        (go_simp; try with_reducible rfl)
      refine Mono.rgl_val (v := ?va11) rfl Mono.rr (fun ρ a W hR hd hf => ?ha11) ?_
      case ha11 =>
        have e47 := Mono.dep_val hd hf (t := 47) (k := 10) (by kernel_rfl) rfl
        have hk := (KP.out W hR).2.1
        clear hd hf
        (go_simp; try with_reducible rfl)
      refine Mono.rgl_val (v := ?va12) rfl Mono.rr (fun ρ a W hR hd hf => ?ha12) ?_
      case ha12 =>
        have e42 := Mono.dep_val hd hf (t := 42) (k := 5) (by kernel_rfl) rfl
        have e48 := Mono.dep_val hd hf (t := 48) (k := 11) (by kernel_rfl) rfl
        clear hd hf
        (go_simp; try with_reducible rfl)
      refine Mono.rgl_val (v := ?va13) rfl Mono.rr (fun ρ a W hR hd hf => ?ha13) ?_
      case ha13 =>
        have e49 := Mono.dep_val hd hf (t := 49) (k := 12) (by kernel_rfl) rfl
        clear hd hf
        (go_simp; try with_reducible rfl)
      refine Mono.rgl_done rfl (fun ρ W hR ht => ?_)
      obtain ⟨da13, da12, da11, da10, da9, da8, da7, da6, da5, da4, da3, da2, da1, da0, _⟩ := ht
      simp only [List.length_cons, List.length_nil, Nat.reduceAdd] at da0 da1 da2 da3 da4 da5 da6 da7 da8 da9 da10 da11 da12 da13
      simp only [Mono.putAll, Nat.reduceAdd, da0, da1, da2, da3, da4, da5, da6, da7, da8, da9, da10, da11, da12, da13, Act.put, List.setIfInBounds_toArray, List.set_cons_zero, List.set_cons_succ]
      clear da0 da1 da2 da3 da4 da5 da6 da7 da8 da9 da10 da11 da12 da13
      have HB2 := Lib.hid (HB.out.trans (hR.mono HB.out.size))
      clear hR c0 c1 c2 c3
      go_wp2_with (fail)
      go_roundw
      case rel => exact ⟨k + 1, rfl, hkn, (by rw [H3.out] <;> first | rfl | exact congrArg (Value.int .i64) (by omega)), (by rw [R1.out] <;> first | rfl | exact congrArg (Value.int .i64) (by omega)), (by rw [R2.out] <;> first | rfl | exact congrArg (Value.int .i64) (by omega)), HB2⟩
      case measure => simp [intOf] <;> omega
    · have e1 : decide (E < A) = false := decide_eq_false hlt
      have e2 : decide ((E : Int) < (A : Int)) = false := decide_eq_false (by omega)
      have R1 : Hid ((HoN (atP (pcs ls n)) (k + 1)).1 = X) := Lib.hid (by rw [H1.out, if_neg hlt])
      have R2 : Hid ((HoN (atP (pcs ls n)) (k + 1)).2.1 = Y) := Lib.hid (by rw [H2.out, if_neg hlt])
      clear hlt
      go_upto_region 9 with (fail)
      refine Mono.region_below (by kernel_rfl) (by kernel_rfl) (by kernel_rfl) ?_
      refine Mono.rgl_val (v := ?vb0) rfl Mono.rr (fun ρ a W hR hd hf => ?hb0) ?_
      case hb0 =>
        have e4 := Mono.init_get hf (t := 4) (by kernel_rfl)
        clear hd hf
        (go_simp; try with_reducible rfl)
      refine Mono.rgl_val (v := ?vb1) rfl Mono.rr (fun ρ a W hR hd hf => ?hb1) ?_
      case hb1 =>
        have e8 := Mono.init_get hf (t := 8) (by kernel_rfl)
        clear hd hf
        (go_simp; try with_reducible rfl)
      refine Mono.rgl_val (v := ?vb2) rfl Mono.rr (fun ρ a W hR hd hf => ?hb2) ?_
      case hb2 =>
        have e37 := Mono.dep_val hd hf (t := 37) (k := 0) (by kernel_rfl) rfl
        have e38 := Mono.dep_val hd hf (t := 38) (k := 1) (by kernel_rfl) rfl
        clear hd hf
        (go_simp; try with_reducible rfl)
      refine Mono.rgl_val (v := ?vb3) rfl Mono.rr (fun ρ a W hR hd hf => ?hb3) ?_
      case hb3 =>
        have e39 := Mono.dep_val hd hf (t := 39) (k := 2) (by kernel_rfl) rfl
        clear hd hf
        (go_simp; try with_reducible rfl)
      refine Mono.rgl_val (v := ?vb4) rfl Mono.rr (fun ρ a W hR hd hf => ?hb4) ?_
      case hb4 =>
        have e40 := Mono.dep_val hd hf (t := 40) (k := 3) (by kernel_rfl) rfl
        clear hd hf
        (go_simp; try with_reducible rfl)
      refine Mono.rgl_val (v := ?vb5) rfl Mono.rr (fun ρ a W hR hd hf => ?hb5) ?_
      case hb5 =>
        have e41 := Mono.dep_val hd hf (t := 41) (k := 4) (by kernel_rfl) rfl
        have hk := (KP.out W hR).1
        clear hd hf
        (go_simp; try with_reducible rfl)
      refine Mono.rgl_val (v := ?vb6) rfl Mono.rr (fun ρ a W hR hd hf => ?hb6) ?_
      case hb6 =>
        have e4 := Mono.init_get hf (t := 4) (by kernel_rfl)
        clear hd hf
        (go_simp; try with_reducible rfl)
      refine Mono.rgl_val (v := ?vb7) rfl Mono.rr (fun ρ a W hR hd hf => ?hb7) ?_
      case hb7 =>
        have e8 := Mono.init_get hf (t := 8) (by kernel_rfl)
        clear hd hf
        (go_simp; try with_reducible rfl)
      refine Mono.rgl_val (v := ?vb8) rfl Mono.rr (fun ρ a W hR hd hf => ?hb8) ?_
      case hb8 =>
        have e43 := Mono.dep_val hd hf (t := 43) (k := 6) (by kernel_rfl) rfl
        have e44 := Mono.dep_val hd hf (t := 44) (k := 7) (by kernel_rfl) rfl
        clear hd hf
        (go_simp; try with_reducible rfl)
      refine Mono.rgl_val (v := ?vb9) rfl Mono.rr (fun ρ a W hR hd hf => ?hb9) ?_
      case hb9 =>
        have e45 := Mono.dep_val hd hf (t := 45) (k := 8) (by kernel_rfl) rfl
        clear hd hf
        (go_simp; try with_reducible rfl)
      refine Mono.rgl_val (v := ?vb10) rfl Mono.rr (fun ρ a W hR hd hf => ?hb10) ?_
      case hb10 =>
        have e46 := Mono.dep_val hd hf (t := 46) (k := 9) (by kernel_rfl) rfl
        clear hd hf
        (go_simp; try with_reducible rfl)
      refine Mono.rgl_val (v := ?vb11) rfl Mono.rr (fun ρ a W hR hd hf => ?hb11) ?_
      case hb11 =>
        have e47 := Mono.dep_val hd hf (t := 47) (k := 10) (by kernel_rfl) rfl
        have hk := (KP.out W hR).2.1
        clear hd hf
        (go_simp; try with_reducible rfl)
      refine Mono.rgl_val (v := ?vb12) rfl Mono.rr (fun ρ a W hR hd hf => ?hb12) ?_
      case hb12 =>
        have e42 := Mono.dep_val hd hf (t := 42) (k := 5) (by kernel_rfl) rfl
        have e48 := Mono.dep_val hd hf (t := 48) (k := 11) (by kernel_rfl) rfl
        clear hd hf
        (go_simp; try with_reducible rfl)
      refine Mono.rgl_val (v := ?vb13) rfl Mono.rr (fun ρ a W hR hd hf => ?hb13) ?_
      case hb13 =>
        have e49 := Mono.dep_val hd hf (t := 49) (k := 12) (by kernel_rfl) rfl
        clear hd hf
        (go_simp; try with_reducible rfl)
      refine Mono.rgl_done rfl (fun ρ W hR ht => ?_)
      obtain ⟨db13, db12, db11, db10, db9, db8, db7, db6, db5, db4, db3, db2, db1, db0, _⟩ := ht
      simp only [List.length_cons, List.length_nil, Nat.reduceAdd] at db0 db1 db2 db3 db4 db5 db6 db7 db8 db9 db10 db11 db12 db13
      simp only [Mono.putAll, Nat.reduceAdd, db0, db1, db2, db3, db4, db5, db6, db7, db8, db9, db10, db11, db12, db13, Act.put, List.setIfInBounds_toArray, List.set_cons_zero, List.set_cons_succ]
      clear db0 db1 db2 db3 db4 db5 db6 db7 db8 db9 db10 db11 db12 db13
      have HB2 := Lib.hid (HB.out.trans (hR.mono HB.out.size))
      clear hR c0 c1 c2 c3
      go_wp2_with (fail)
      go_roundw
      case rel => exact ⟨k + 1, rfl, hkn, (by rw [H3.out] <;> first | rfl | exact congrArg (Value.int .i64) (by omega)), (by rw [R1.out] <;> first | rfl | exact congrArg (Value.int .i64) (by omega)), (by rw [R2.out] <;> first | rfl | exact congrArg (Value.int .i64) (by omega)), HB2⟩
      case measure => simp [intOf] <;> omega
end Go.Proofs.Ytfnaoekkdgndkaa
