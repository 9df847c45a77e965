/- The walk of LinearEnds. -/
import Derived.Test.YtmcbgjkogggneaaDoorLiI
namespace Go.Proofs.YtmcbgjkogggneaaDoor
set_option maxRecDepth 100000
set_option linter.unusedVariables false
set_option linter.unusedSimpArgs false
open Go.RowKit
set_option maxHeartbeats 8000000 in
theorem ends_walk (n : Nat) (cv : Nat → CallV) (v : Value) (w : World) (h : Sl w w.heap.size 6 v n (ccells n cv)) (hn : n ≤ maxLen) :
    Calls Tryd.prog 6 #[v] w fun e w' => e = .returned (.bool true) ∧ Below w.heap.size w w' := by
  obtain ⟨a, cap, rfl, hcap⟩ := h.form
  have HS := Lib.hid (fun (W : World) (hW : Below w.heap.size w W) => h.below hW)
  clear h
  go_enter Tryd.func6, Tryd.ntmps6
  go_wp2_with (fail)
  refine (awake_any w).mono ?_
  rintro e w1 ⟨rfl, hb1⟩
  have HB1 := Lib.hid hb1
  have HFW := Lib.hid (few_any n cv (.slice a n cap) w.heap.size w1 (HS.out w1 hb1) hb1.size hn)
  clear hb1
  go_wp2_with (fail)
  refine HFW.out.mono ?_
  rintro e w2 ⟨few, rfl, hfew, hb2⟩
  have HB2 := Lib.hid (HB1.out.trans (hb2.mono HB1.out.size))
  have HFEW := Lib.hid hfew
  clear hb2 HB1 HFW hfew
  cases few with
  | false =>
    go_wp2_with (fail)
    go_ret
    exact ⟨by rfl, HB2.out⟩
  | true =>
  have hn20 : n ≤ 20 := (HFEW.out rfl).1
  have HBE := Lib.hid (byEnd_any n cv (.slice a n cap) w.heap.size w2 (HS.out w2 HB2.out) HB2.out.size hn20)
  clear HFEW hn
  go_wp2_with (fail)
  refine HBE.out.mono ?_
  rintro e w3 ⟨v3, g, rfl, hsl, hok, hup, hb3⟩
  obtain ⟨ga, gcap, rfl, hgcap⟩ := hsl.form
  have HB3 := Lib.hid (HB2.out.trans (hb3.mono HB2.out.size))
  have HML : Hid (∀ j, (musL cv j).length ≤ j) := Lib.hid (musL_len cv)
  have HMS : Hid (∀ j, (musL cv (j + 1)).length = (musL cv j).length + if 0 ≤ (cv j).fin then 1 else 0) := Lib.hid (fun j => by
    rw [musL_succ, List.length_append]
    split <;> rfl)
  obtain ⟨m, hm0⟩ : ∃ m, (musL cv n).length = m := ⟨_, rfl⟩
  rw [hm0] at hsl hok hup hgcap
  rw [hm0]
  have HM := Lib.hid hm0
  have hmn : m ≤ n := by rw [← hm0]; exact musL_len cv n
  have HG := Lib.hid (fun (W : World) (hW : Below w3.heap.size w3 W) => hsl.below hW)
  have HOK := Lib.hid hok
  have HUP := Lib.hid hup
  have hz3 := HB3.out.size
  clear hm0 hsl hok hup hb3 HB2 HBE
  go_wp2_with (fail)
  go_loopw [4, 5] (fun c i wr => ∃ j k : Nat, i = .int .i64 j ∧ c = .int .i64 k ∧ j ≤ n ∧ k ≤ j ∧ Hid (k = (musL cv j).length) ∧ wr = w3) (fun _ i _ => n - (intOf i).toNat)
  case atStart => exact ⟨0, 0, rfl, rfl, Nat.zero_le _, Nat.le_refl _, Lib.hid rfl, rfl⟩
  case round =>
    obtain ⟨j, c, rfl, rfl, hj, hcj, HCN, rfl⟩ := hrel
    by_cases hlt : j < n
    · have d1 : decide (j < n) = true := decide_eq_true hlt
      have d2 : decide ((j : Int) < (n : Int)) = true := decide_eq_true (by omega)
      have q1 : IntKind.i64.wrap ((j : Int) + 1) = (j : Int) + 1 := IntWalk.i64_in _ (by omega)
      have q2 : IntKind.i64.wrap ((c : Int) + 1) = (c : Int) + 1 := IntWalk.i64_in _ (by omega)
      have hbi : (j : Int) < (n : Int) := by omega
      obtain ⟨b, off, rfl, hk0⟩ := sl_cells (HS.out _ HB3.out) (by omega)
      have k1 := hk0 (j * 6 + 5) _ (ccells_get cv hlt 5 (by omega))
      rw [← Nat.add_assoc] at k1
      have hms := HMS.out j
      by_cases hf : 0 ≤ (cv j).fin
      · have d3 : decide (0 ≤ (cv j).fin) = true := decide_eq_true hf
        rw [if_pos hf] at hms
        have HC2 : Hid (c + 1 = (musL cv (j + 1)).length) := Lib.hid (by have := HCN.out; omega)
        clear hms hf hk0
        have k1' : wr.cell? ⟨b, off + j * 6 + 5, none⟩ = some (.int .i64 (cv j).fin) := k1
        clear k1
        generalize (cv j).fin = ff at *
        go_wp2_with (fail)
        go_roundw
        case rel => exact ⟨j + 1, c + 1, rfl, rfl, by omega, by omega, HC2, trivial⟩
        case measure => simp [intOf] <;> omega
      · have d3 : decide (0 ≤ (cv j).fin) = false := decide_eq_false hf
        rw [if_neg hf, Nat.add_zero] at hms
        have HC2 : Hid (c = (musL cv (j + 1)).length) := Lib.hid (by have := HCN.out; omega)
        clear hms hf hk0
        have k1' : wr.cell? ⟨b, off + j * 6 + 5, none⟩ = some (.int .i64 (cv j).fin) := k1
        clear k1
        generalize (cv j).fin = ff at *
        go_wp2_with (fail)
        go_roundw
        case rel => exact ⟨j + 1, c, rfl, rfl, by omega, by omega, HC2, trivial⟩
        case measure => simp [intOf] <;> omega
    · have d1 : decide (j < n) = false := decide_eq_false hlt
      have d2 : decide ((j : Int) < (n : Int)) = false := decide_eq_false (by omega)
      obtain rfl : j = n := by omega
      obtain rfl : c = m := by rw [← HM.out]; exact HCN.out
      clear HCN hlt hcj
      obtain ⟨w3, rfl⟩ : ∃ z : World, z = wr := ⟨_, rfl⟩
      go_wp2_with (fail)
      go_loopw [6] (fun i wr => ∃ k : Nat, i = .int .i64 k ∧ k ≤ c ∧ Hid (Below w3.heap.size w3 wr)) (fun i _ => c - (intOf i).toNat)
      case atStart => exact ⟨0, rfl, Nat.zero_le _, Lib.hid (Below.refl _ _)⟩
      case round =>
        obtain ⟨k, rfl, hk, HB4⟩ := hrel
        obtain ⟨w4, rfl⟩ : ∃ z : World, z = wr := ⟨_, rfl⟩
        have hz4 := HB4.out.size
        by_cases hlt : k < c
        rotate_left
        · have d1 : decide (k < c) = false := decide_eq_false hlt
          have d2 : decide ((k : Int) < (c : Int)) = false := decide_eq_false (by omega)
          have HB5 := Lib.hid (HB3.out.trans (HB4.out.mono hz3))
          go_wp2_with (fail)
          go_ret
          exact ⟨by rfl, HB5.out⟩
        have d1 : decide (k < c) = true := decide_eq_true hlt
        have d2 : decide ((k : Int) < (c : Int)) = true := decide_eq_true (by omega)
        have q1 : IntKind.i64.wrap ((k : Int) + 1) = (k : Int) + 1 := IntWalk.i64_in _ (by omega)
        have hki : (k : Int) < (c : Int) := by omega
        obtain ⟨hy1, hy2⟩ := HOK.out k hlt
        have HSW := Lib.hid (fun (W : World) (hW : Below w4.heap.size w4 W) => HS.out W (HB3.out.trans ((HB4.out.trans (hW.mono hz4)).mono hz3)))
        have HGW := Lib.hid (fun (W : World) (hW : Below w4.heap.size w4 W) => HG.out W (HB4.out.trans (hW.mono hz4)))
        obtain ⟨b, off, rfl, hk0⟩ := sl_cells (HSW.out w4 (Below.refl _ _)) (by omega)
        obtain ⟨bg, og, rfl, hk1⟩ := sl_cells (HGW.out w4 (Below.refl _ _)) (by omega)
        clear hk0 hk1
        have kb : Hid (∀ W, Below w4.heap.size w4 W → W.cell? ⟨bg, og + k, none⟩ = some (.int .i64 (g k : Nat))) := Lib.hid (fun W hW => sl_same (HGW.out W hW) (by omega) _ _ (icells_get g hlt))
        have fb : Hid (∀ W, Below w4.heap.size w4 W → W.cell? ⟨b, off + g k * 6 + 5, none⟩ = some (.int .i64 (cv (g k)).fin)) := Lib.hid (fun W hW => by
          have := sl_same (HSW.out W hW) (by omega) _ _ (ccells_get cv hy1 5 (by omega))
          rw [← Nat.add_assoc] at this
          exact this)
        have kb0 := kb.out w4 (Below.refl _ _)
        have fb0 := fb.out w4 (Below.refl _ _)
        have d3 : decide ((g k : Int) < 0) = false := decide_eq_false (by omega)
        have d4 : decide ((j : Int) ≤ (g k : Int)) = false := decide_eq_false (by omega)
        have d5 : decide ((cv (g k)).fin < 0) = false := decide_eq_false (by omega)
        have hyi : (g k : Int) < (j : Int) := by omega
        by_cases hpos : 0 < k
        · obtain ⟨p, rfl⟩ : ∃ p, k = p + 1 := ⟨k - 1, by omega⟩
          have d6 : decide ((0 : Int) < (p : Int) + 1) = true := decide_eq_true (by omega)
          have hpc : p < c := by omega
          have hpi : (p : Int) < (c : Int) := by omega
          have hpi2 : (p : Int) + 1 < (c : Int) := by omega
          have q2 : IntKind.i64.wrap ((p : Int) + 1 - 1) = (p : Int) := by rw [IntWalk.i64_in _ (by omega)]; omega
          have q3 : IntKind.i64.wrap (p : Int) = (p : Int) := IntWalk.i64_in _ (by omega)
          have e0 : ((p : Int) + 1).toNat = p + 1 := by omega
          have p0 : (0 : Int) ≤ (p : Int) + 1 := by omega
          obtain ⟨hx1, hx2⟩ := HOK.out p hpc
          have hxi : (g p : Int) < (j : Int) := by omega
          have ka : Hid (∀ W, Below w4.heap.size w4 W → W.cell? ⟨bg, og + p, none⟩ = some (.int .i64 (g p : Nat))) := Lib.hid (fun W hW => sl_same (HGW.out W hW) (by omega) _ _ (icells_get g hpc))
          have fa : Hid (∀ W, Below w4.heap.size w4 W → W.cell? ⟨b, off + g p * 6 + 5, none⟩ = some (.int .i64 (cv (g p)).fin)) := Lib.hid (fun W hW => by
            have := sl_same (HSW.out W hW) (by omega) _ _ (ccells_get cv hx1 5 (by omega))
            rw [← Nat.add_assoc] at this
            exact this)
          have hle := HUP.out p hlt
          clear hx2 hy2
          generalize (cv (g p)).fin = ea at *
          generalize (cv (g (p + 1))).fin = eb at *
          generalize g p = x at *
          generalize g (p + 1) = y at *
          rcases hle with hle | ⟨hle, hxy⟩
          · have d7 : decide (eb < ea) = false := decide_eq_false (by omega)
            have d8 : (ea == eb) = false := by simp; omega
            clear hle
            go_upto_region 18 with (fail)
            refine Mono.region_below (by kernel_rfl) (by kernel_rfl) (by kernel_rfl) ?_
            refine Mono.rgl_val (v := ?va0) rfl Mono.rr (fun ρ a W hR hd hf => ?ha0) ?_
            case ha0 =>
              have e6 := Mono.init_get hf (t := 6) (by kernel_rfl)
              clear hd hf
              (go_simp; try with_reducible rfl)
            refine Mono.rgl_val (v := ?va1) rfl Mono.rr (fun ρ a W hR hd hf => ?ha1) ?_
            case ha1 =>
              have e63 := Mono.dep_val hd hf (t := 63) (k := 0) (by kernel_rfl) rfl
              clear hd hf
              (go_simp; try with_reducible rfl)
            refine Mono.rgl_val (v := ?va2) rfl Mono.rr (fun ρ a W hR hd hf => ?ha2) ?_
            case ha2 =>
              have e64 := Mono.dep_val hd hf (t := 64) (k := 1) (by kernel_rfl) rfl
              clear hd hf
              (go_simp; try with_reducible rfl)
            refine Mono.rgl_valg (v := ?va3) rfl Mono.rr (fun ρ W hd => Mono.guard_val hd (t := 65) (k := 2) (by kernel_rfl) rfl) (fun ρ a W hR hd hf => ?ha3) ?_
            case ha3 =>
              have e0 := Mono.init_get hf (t := 0) (by kernel_rfl)
              clear hd hf
              (go_simp; try with_reducible rfl)
            refine Mono.rgl_valg (v := ?va4) rfl Mono.rr (fun ρ W hd => Mono.guard_val hd (t := 65) (k := 2) (by kernel_rfl) rfl) (fun ρ a W hR hd hf => ?ha4) ?_
            case ha4 =>
              have e3 := Mono.init_get hf (t := 3) (by kernel_rfl)
              clear hd hf
              (go_simp; try with_reducible rfl)
            refine Mono.rgl_valg (v := ?va5) rfl Mono.rr (fun ρ W hd => Mono.guard_val hd (t := 65) (k := 2) (by kernel_rfl) rfl) (fun ρ a W hR hd hf => ?ha5) ?_
            case ha5 =>
              have e6 := Mono.init_get hf (t := 6) (by kernel_rfl)
              clear hd hf
              (go_simp; try with_reducible rfl)
            refine Mono.rgl_valg (v := ?va6) rfl Mono.rr (fun ρ W hd => Mono.guard_val hd (t := 65) (k := 2) (by kernel_rfl) rfl) (fun ρ a W hR hd hf => ?ha6) ?_
            case ha6 =>
              have e68 := Mono.dep_val hd hf (t := 68) (k := 5) (by kernel_rfl) rfl
              clear hd hf
              (go_simp; try with_reducible rfl)
            refine Mono.rgl_valg (v := ?va7) rfl Mono.rr (fun ρ W hd => Mono.guard_val hd (t := 65) (k := 2) (by kernel_rfl) rfl) (fun ρ a W hR hd hf => ?ha7) ?_
            case ha7 =>
              have e67 := Mono.dep_val hd hf (t := 67) (k := 4) (by kernel_rfl) rfl
              have e69 := Mono.dep_val hd hf (t := 69) (k := 6) (by kernel_rfl) rfl
              clear hd hf
              (go_simp; try with_reducible rfl)
            refine Mono.rgl_valg (v := ?va8) rfl Mono.rr (fun ρ W hd => Mono.guard_val hd (t := 65) (k := 2) (by kernel_rfl) rfl) (fun ρ a W hR hd hf => ?ha8) ?_
            case ha8 =>
              have e70 := Mono.dep_val hd hf (t := 70) (k := 7) (by kernel_rfl) rfl
              have hk := ka.out W hR
              clear hd hf
              (go_simp; try with_reducible rfl)
            refine Mono.rgl_valg (v := ?va9) rfl Mono.rr (fun ρ W hd => Mono.guard_val hd (t := 65) (k := 2) (by kernel_rfl) rfl) (fun ρ a W hR hd hf => ?ha9) ?_
            case ha9 =>
              have e66 := Mono.dep_val hd hf (t := 66) (k := 3) (by kernel_rfl) rfl
              have e71 := Mono.dep_val hd hf (t := 71) (k := 8) (by kernel_rfl) rfl
              clear hd hf
              (go_simp; try with_reducible rfl)
            refine Mono.rgl_valg (v := ?va10) rfl Mono.rr (fun ρ W hd => Mono.guard_val hd (t := 65) (k := 2) (by kernel_rfl) rfl) (fun ρ a W hR hd hf => ?ha10) ?_
            case ha10 =>
              have e72 := Mono.dep_val hd hf (t := 72) (k := 9) (by kernel_rfl) rfl
              clear hd hf
              (go_simp; try with_reducible rfl)
            refine Mono.rgl_valg (v := ?va11) rfl Mono.rr (fun ρ W hd => Mono.guard_val hd (t := 65) (k := 2) (by kernel_rfl) rfl) (fun ρ a W hR hd hf => ?ha11) ?_
            case ha11 =>
              have e73 := Mono.dep_val hd hf (t := 73) (k := 10) (by kernel_rfl) rfl
              have hk := fa.out W hR
              clear hd hf
              (go_simp; try with_reducible rfl)
            refine Mono.rgl_valg (v := ?va12) rfl Mono.rr (fun ρ W hd => Mono.guard_val hd (t := 65) (k := 2) (by kernel_rfl) rfl) (fun ρ a W hR hd hf => ?ha12) ?_
            case ha12 =>
              have e0 := Mono.init_get hf (t := 0) (by kernel_rfl)
              clear hd hf
              (go_simp; try with_reducible rfl)
            refine Mono.rgl_valg (v := ?va13) rfl Mono.rr (fun ρ W hd => Mono.guard_val hd (t := 65) (k := 2) (by kernel_rfl) rfl) (fun ρ a W hR hd hf => ?ha13) ?_
            case ha13 =>
              have e3 := Mono.init_get hf (t := 3) (by kernel_rfl)
              clear hd hf
              (go_simp; try with_reducible rfl)
            refine Mono.rgl_valg (v := ?va14) rfl Mono.rr (fun ρ W hd => Mono.guard_val hd (t := 65) (k := 2) (by kernel_rfl) rfl) (fun ρ a W hR hd hf => ?ha14) ?_
            case ha14 =>
              have e6 := Mono.init_get hf (t := 6) (by kernel_rfl)
              clear hd hf
              (go_simp; try with_reducible rfl)
            refine Mono.rgl_valg (v := ?va15) rfl Mono.rr (fun ρ W hd => Mono.guard_val hd (t := 65) (k := 2) (by kernel_rfl) rfl) (fun ρ a W hR hd hf => ?ha15) ?_
            case ha15 =>
              have e76 := Mono.dep_val hd hf (t := 76) (k := 13) (by kernel_rfl) rfl
              have e77 := Mono.dep_val hd hf (t := 77) (k := 14) (by kernel_rfl) rfl
              clear hd hf
              (go_simp; try with_reducible rfl)
            refine Mono.rgl_valg (v := ?va16) rfl Mono.rr (fun ρ W hd => Mono.guard_val hd (t := 65) (k := 2) (by kernel_rfl) rfl) (fun ρ a W hR hd hf => ?ha16) ?_
            case ha16 =>
              have e78 := Mono.dep_val hd hf (t := 78) (k := 15) (by kernel_rfl) rfl
              have hk := kb.out W hR
              clear hd hf
              (go_simp; try with_reducible rfl)
            refine Mono.rgl_valg (v := ?va17) rfl Mono.rr (fun ρ W hd => Mono.guard_val hd (t := 65) (k := 2) (by kernel_rfl) rfl) (fun ρ a W hR hd hf => ?ha17) ?_
            case ha17 =>
              have e75 := Mono.dep_val hd hf (t := 75) (k := 12) (by kernel_rfl) rfl
              have e79 := Mono.dep_val hd hf (t := 79) (k := 16) (by kernel_rfl) rfl
              clear hd hf
              (go_simp; try with_reducible rfl)
            refine Mono.rgl_valg (v := ?va18) rfl Mono.rr (fun ρ W hd => Mono.guard_val hd (t := 65) (k := 2) (by kernel_rfl) rfl) (fun ρ a W hR hd hf => ?ha18) ?_
            case ha18 =>
              have e80 := Mono.dep_val hd hf (t := 80) (k := 17) (by kernel_rfl) rfl
              clear hd hf
              (go_simp; try with_reducible rfl)
            refine Mono.rgl_valg (v := ?va19) rfl Mono.rr (fun ρ W hd => Mono.guard_val hd (t := 65) (k := 2) (by kernel_rfl) rfl) (fun ρ a W hR hd hf => ?ha19) ?_
            case ha19 =>
              have e81 := Mono.dep_val hd hf (t := 81) (k := 18) (by kernel_rfl) rfl
              have hk := fb.out W hR
              clear hd hf
              (go_simp; try with_reducible rfl)
            refine Mono.rgl_valg (v := ?va20) rfl Mono.rr (fun ρ W hd => Mono.guard_val hd (t := 65) (k := 2) (by kernel_rfl) rfl) (fun ρ a W hR hd hf => ?ha20) ?_
            case ha20 =>
              have e74 := Mono.dep_val hd hf (t := 74) (k := 11) (by kernel_rfl) rfl
              have e82 := Mono.dep_val hd hf (t := 82) (k := 19) (by kernel_rfl) rfl
              clear hd hf
              (go_simp; try with_reducible rfl)
            refine Mono.rgl_valg (v := ?va21) rfl Mono.rr (fun ρ W hd => Mono.guard_val hd (t := 65) (k := 2) (by kernel_rfl) rfl) (fun ρ a W hR hd hf => ?ha21) ?_
            case ha21 =>
              have e83 := Mono.dep_val hd hf (t := 83) (k := 20) (by kernel_rfl) rfl
              clear hd hf
              (go_simp; try with_reducible rfl)
            refine Mono.rgl_valg (v := ?va22) rfl Mono.rr (fun ρ W hd => Mono.guard_val hd (t := 84) (k := 21) (by kernel_rfl) rfl) (fun ρ a W hR hd hf => ?ha22) ?_
            case ha22 =>
              have e0 := Mono.init_get hf (t := 0) (by kernel_rfl)
              clear hd hf
              (go_simp; try with_reducible rfl)
            refine Mono.rgl_valg (v := ?va23) rfl Mono.rr (fun ρ W hd => Mono.guard_val hd (t := 84) (k := 21) (by kernel_rfl) rfl) (fun ρ a W hR hd hf => ?ha23) ?_
            case ha23 =>
              have e3 := Mono.init_get hf (t := 3) (by kernel_rfl)
              clear hd hf
              (go_simp; try with_reducible rfl)
            refine Mono.rgl_valg (v := ?va24) rfl Mono.rr (fun ρ W hd => Mono.guard_val hd (t := 84) (k := 21) (by kernel_rfl) rfl) (fun ρ a W hR hd hf => ?ha24) ?_
            case ha24 =>
              have e6 := Mono.init_get hf (t := 6) (by kernel_rfl)
              clear hd hf
              (go_simp; try with_reducible rfl)
            refine Mono.rgl_valg (v := ?va25) rfl Mono.rr (fun ρ W hd => Mono.guard_val hd (t := 84) (k := 21) (by kernel_rfl) rfl) (fun ρ a W hR hd hf => ?ha25) ?_
            case ha25 =>
              have e87 := Mono.dep_val hd hf (t := 87) (k := 24) (by kernel_rfl) rfl
              clear hd hf
              (go_simp; try with_reducible rfl)
            refine Mono.rgl_valg (v := ?va26) rfl Mono.rr (fun ρ W hd => Mono.guard_val hd (t := 84) (k := 21) (by kernel_rfl) rfl) (fun ρ a W hR hd hf => ?ha26) ?_
            case ha26 =>
              have e86 := Mono.dep_val hd hf (t := 86) (k := 23) (by kernel_rfl) rfl
              have e88 := Mono.dep_val hd hf (t := 88) (k := 25) (by kernel_rfl) rfl
              clear hd hf
              (go_simp; try with_reducible rfl)
            refine Mono.rgl_valg (v := ?va27) rfl Mono.rr (fun ρ W hd => Mono.guard_val hd (t := 84) (k := 21) (by kernel_rfl) rfl) (fun ρ a W hR hd hf => ?ha27) ?_
            case ha27 =>
              have e89 := Mono.dep_val hd hf (t := 89) (k := 26) (by kernel_rfl) rfl
              have hk := ka.out W hR
              clear hd hf
              (go_simp; try with_reducible rfl)
            refine Mono.rgl_valg (v := ?va28) rfl Mono.rr (fun ρ W hd => Mono.guard_val hd (t := 84) (k := 21) (by kernel_rfl) rfl) (fun ρ a W hR hd hf => ?ha28) ?_
            case ha28 =>
              have e85 := Mono.dep_val hd hf (t := 85) (k := 22) (by kernel_rfl) rfl
              have e90 := Mono.dep_val hd hf (t := 90) (k := 27) (by kernel_rfl) rfl
              clear hd hf
              (go_simp; try with_reducible rfl)
            refine Mono.rgl_valg (v := ?va29) rfl Mono.rr (fun ρ W hd => Mono.guard_val hd (t := 84) (k := 21) (by kernel_rfl) rfl) (fun ρ a W hR hd hf => ?ha29) ?_
            case ha29 =>
              have e91 := Mono.dep_val hd hf (t := 91) (k := 28) (by kernel_rfl) rfl
              clear hd hf
              (go_simp; try with_reducible rfl)
            refine Mono.rgl_valg (v := ?va30) rfl Mono.rr (fun ρ W hd => Mono.guard_val hd (t := 84) (k := 21) (by kernel_rfl) rfl) (fun ρ a W hR hd hf => ?ha30) ?_
            case ha30 =>
              have e92 := Mono.dep_val hd hf (t := 92) (k := 29) (by kernel_rfl) rfl
              have hk := fa.out W hR
              clear hd hf
              (go_simp; try with_reducible rfl)
            refine Mono.rgl_valg (v := ?va31) rfl Mono.rr (fun ρ W hd => Mono.guard_val hd (t := 84) (k := 21) (by kernel_rfl) rfl) (fun ρ a W hR hd hf => ?ha31) ?_
            case ha31 =>
              have e0 := Mono.init_get hf (t := 0) (by kernel_rfl)
              clear hd hf
              (go_simp; try with_reducible rfl)
            refine Mono.rgl_valg (v := ?va32) rfl Mono.rr (fun ρ W hd => Mono.guard_val hd (t := 84) (k := 21) (by kernel_rfl) rfl) (fun ρ a W hR hd hf => ?ha32) ?_
            case ha32 =>
              have e3 := Mono.init_get hf (t := 3) (by kernel_rfl)
              clear hd hf
              (go_simp; try with_reducible rfl)
            refine Mono.rgl_valg (v := ?va33) rfl Mono.rr (fun ρ W hd => Mono.guard_val hd (t := 84) (k := 21) (by kernel_rfl) rfl) (fun ρ a W hR hd hf => ?ha33) ?_
            case ha33 =>
              have e6 := Mono.init_get hf (t := 6) (by kernel_rfl)
              clear hd hf
              (go_simp; try with_reducible rfl)
            refine Mono.rgl_valg (v := ?va34) rfl Mono.rr (fun ρ W hd => Mono.guard_val hd (t := 84) (k := 21) (by kernel_rfl) rfl) (fun ρ a W hR hd hf => ?ha34) ?_
            case ha34 =>
              have e95 := Mono.dep_val hd hf (t := 95) (k := 32) (by kernel_rfl) rfl
              have e96 := Mono.dep_val hd hf (t := 96) (k := 33) (by kernel_rfl) rfl
              clear hd hf
              (go_simp; try with_reducible rfl)
            refine Mono.rgl_valg (v := ?va35) rfl Mono.rr (fun ρ W hd => Mono.guard_val hd (t := 84) (k := 21) (by kernel_rfl) rfl) (fun ρ a W hR hd hf => ?ha35) ?_
            case ha35 =>
              have e97 := Mono.dep_val hd hf (t := 97) (k := 34) (by kernel_rfl) rfl
              have hk := kb.out W hR
              clear hd hf
              (go_simp; try with_reducible rfl)
            refine Mono.rgl_valg (v := ?va36) rfl Mono.rr (fun ρ W hd => Mono.guard_val hd (t := 84) (k := 21) (by kernel_rfl) rfl) (fun ρ a W hR hd hf => ?ha36) ?_
            case ha36 =>
              have e94 := Mono.dep_val hd hf (t := 94) (k := 31) (by kernel_rfl) rfl
              have e98 := Mono.dep_val hd hf (t := 98) (k := 35) (by kernel_rfl) rfl
              clear hd hf
              (go_simp; try with_reducible rfl)
            refine Mono.rgl_valg (v := ?va37) rfl Mono.rr (fun ρ W hd => Mono.guard_val hd (t := 84) (k := 21) (by kernel_rfl) rfl) (fun ρ a W hR hd hf => ?ha37) ?_
            case ha37 =>
              have e99 := Mono.dep_val hd hf (t := 99) (k := 36) (by kernel_rfl) rfl
              clear hd hf
              (go_simp; try with_reducible rfl)
            refine Mono.rgl_valg (v := ?va38) rfl Mono.rr (fun ρ W hd => Mono.guard_val hd (t := 84) (k := 21) (by kernel_rfl) rfl) (fun ρ a W hR hd hf => ?ha38) ?_
            case ha38 =>
              have e100 := Mono.dep_val hd hf (t := 100) (k := 37) (by kernel_rfl) rfl
              have hk := fb.out W hR
              clear hd hf
              (go_simp; try with_reducible rfl)
            refine Mono.rgl_valg (v := ?va39) rfl Mono.rr (fun ρ W hd => Mono.guard_val hd (t := 84) (k := 21) (by kernel_rfl) rfl) (fun ρ a W hR hd hf => ?ha39) ?_
            case ha39 =>
              have e93 := Mono.dep_val hd hf (t := 93) (k := 30) (by kernel_rfl) rfl
              have e101 := Mono.dep_val hd hf (t := 101) (k := 38) (by kernel_rfl) rfl
              clear hd hf
              (go_simp; try with_reducible rfl)
            refine Mono.rgl_valg (v := ?va40) rfl Mono.rr (fun ρ W hd => Mono.guard_val hd (t := 84) (k := 21) (by kernel_rfl) rfl) (fun ρ a W hR hd hf => ?ha40) ?_
            case ha40 =>
              have e102 := Mono.dep_val hd hf (t := 102) (k := 39) (by kernel_rfl) rfl
              clear hd hf
              (go_simp; try with_reducible rfl)
            refine Mono.rgl_skip rfl (by decide) (fun ρ W hd => Mono.guard_val hd (t := 103) (k := 40) (by kernel_rfl) rfl) ?_
            refine Mono.rgl_skip rfl (by decide) (fun ρ W hd => Mono.guard_val hd (t := 103) (k := 40) (by kernel_rfl) rfl) ?_
            refine Mono.rgl_skip rfl (by decide) (fun ρ W hd => Mono.guard_val hd (t := 103) (k := 40) (by kernel_rfl) rfl) ?_
            refine Mono.rgl_skip rfl (by decide) (fun ρ W hd => Mono.guard_val hd (t := 103) (k := 40) (by kernel_rfl) rfl) ?_
            refine Mono.rgl_skip rfl (by decide) (fun ρ W hd => Mono.guard_val hd (t := 103) (k := 40) (by kernel_rfl) rfl) ?_
            refine Mono.rgl_skip rfl (by decide) (fun ρ W hd => Mono.guard_val hd (t := 103) (k := 40) (by kernel_rfl) rfl) ?_
            refine Mono.rgl_skip rfl (by decide) (fun ρ W hd => Mono.guard_val hd (t := 103) (k := 40) (by kernel_rfl) rfl) ?_
            refine Mono.rgl_skip rfl (by decide) (fun ρ W hd => Mono.guard_val hd (t := 103) (k := 40) (by kernel_rfl) rfl) ?_
            refine Mono.rgl_skip rfl (by decide) (fun ρ W hd => Mono.guard_val hd (t := 103) (k := 40) (by kernel_rfl) rfl) ?_
            refine Mono.rgl_skip rfl (by decide) (fun ρ W hd => Mono.guard_val hd (t := 103) (k := 40) (by kernel_rfl) rfl) ?_
            refine Mono.rgl_valg (v := ?va51) rfl Mono.rr (fun ρ W hd => Mono.guard_val hd (t := 84) (k := 21) (by kernel_rfl) rfl) (fun ρ a W hR hd hf => ?ha51) ?_
            case ha51 =>
              have e103 := Mono.dep_val hd hf (t := 103) (k := 40) (by kernel_rfl) rfl
              have e113 := Mono.dep_val hd hf (t := 113) (k := 50) (by kernel_rfl) rfl
              clear hd hf
              (go_simp; try with_reducible rfl)
            refine Mono.rgl_valg (v := ?va52) rfl Mono.rr (fun ρ W hd => Mono.guard_val hd (t := 65) (k := 2) (by kernel_rfl) rfl) (fun ρ a W hR hd hf => ?ha52) ?_
            case ha52 =>
              have e84 := Mono.dep_val hd hf (t := 84) (k := 21) (by kernel_rfl) rfl
              have e114 := Mono.dep_val hd hf (t := 114) (k := 51) (by kernel_rfl) rfl
              clear hd hf
              (go_simp; try with_reducible rfl)
            refine Mono.rgl_val (v := ?va53) rfl Mono.rr (fun ρ a W hR hd hf => ?ha53) ?_
            case ha53 =>
              have e65 := Mono.dep_val hd hf (t := 65) (k := 2) (by kernel_rfl) rfl
              have e115 := Mono.dep_val hd hf (t := 115) (k := 52) (by kernel_rfl) rfl
              clear hd hf
              (go_simp; try with_reducible rfl)
            refine Mono.rgl_done rfl (fun ρ W hR ht => ?_)
            obtain ⟨da53, da52, da51, da50, da49, da48, da47, da46, da45, da44, da43, da42, da41, da40, da39, da38, da37, da36, da35, da34, da33, da32, da31, da30, da29, da28, da27, da26, da25, da24, da23, da22, da21, da20, da19, da18, da17, da16, da15, da14, da13, da12, da11, da10, da9, da8, da7, da6, da5, da4, da3, da2, da1, da0, _⟩ := ht
            simp only [List.length_cons, List.length_nil, Nat.reduceAdd] at da0 da1 da2 da3 da4 da5 da6 da7 da8 da9 da10 da11 da12 da13 da14 da15 da16 da17 da18 da19 da20 da21 da22 da23 da24 da25 da26 da27 da28 da29 da30 da31 da32 da33 da34 da35 da36 da37 da38 da39 da40 da41 da42 da43 da44 da45 da46 da47 da48 da49 da50 da51 da52 da53
            simp only [Mono.putAll, Nat.reduceAdd, da0, da1, da2, da3, da4, da5, da6, da7, da8, da9, da10, da11, da12, da13, da14, da15, da16, da17, da18, da19, da20, da21, da22, da23, da24, da25, da26, da27, da28, da29, da30, da31, da32, da33, da34, da35, da36, da37, da38, da39, da40, da41, da42, da43, da44, da45, da46, da47, da48, da49, da50, da51, da52, da53, Act.put, List.setIfInBounds_toArray, List.set_cons_zero, List.set_cons_succ]
            clear da0 da1 da2 da3 da4 da5 da6 da7 da8 da9 da10 da11 da12 da13 da14 da15 da16 da17 da18 da19 da20 da21 da22 da23 da24 da25 da26 da27 da28 da29 da30 da31 da32 da33 da34 da35 da36 da37 da38 da39 da40 da41 da42 da43 da44 da45 da46 da47 da48 da49 da50 da51 da52 da53
            have HB5 := Lib.hid (HB4.out.trans (hR.mono hz4))
            clear hR
            go_wp2_with (fail)
            go_roundw
            case rel => exact ⟨p + 1 + 1, rfl, by omega, HB5⟩
            case measure => simp [intOf] <;> omega
          · have d7 : decide (eb < ea) = false := decide_eq_false (by omega)
            have d8 : (ea == eb) = true := by simp; omega
            have d9 : decide ((y : Int) ≤ (x : Int)) = false := decide_eq_false (by omega)
            clear hle
            go_upto_region 18 with (fail)
            refine Mono.region_below (by kernel_rfl) (by kernel_rfl) (by kernel_rfl) ?_
            refine Mono.rgl_val (v := ?vb0) rfl Mono.rr (fun ρ a W hR hd hf => ?hb0) ?_
            case hb0 =>
              have e6 := Mono.init_get hf (t := 6) (by kernel_rfl)
              clear hd hf
              (go_simp; try with_reducible rfl)
            refine Mono.rgl_val (v := ?vb1) rfl Mono.rr (fun ρ a W hR hd hf => ?hb1) ?_
            case hb1 =>
              have e63 := Mono.dep_val hd hf (t := 63) (k := 0) (by kernel_rfl) rfl
              clear hd hf
              (go_simp; try with_reducible rfl)
            refine Mono.rgl_val (v := ?vb2) rfl Mono.rr (fun ρ a W hR hd hf => ?hb2) ?_
            case hb2 =>
              have e64 := Mono.dep_val hd hf (t := 64) (k := 1) (by kernel_rfl) rfl
              clear hd hf
              (go_simp; try with_reducible rfl)
            refine Mono.rgl_valg (v := ?vb3) rfl Mono.rr (fun ρ W hd => Mono.guard_val hd (t := 65) (k := 2) (by kernel_rfl) rfl) (fun ρ a W hR hd hf => ?hb3) ?_
            case hb3 =>
              have e0 := Mono.init_get hf (t := 0) (by kernel_rfl)
              clear hd hf
              (go_simp; try with_reducible rfl)
            refine Mono.rgl_valg (v := ?vb4) rfl Mono.rr (fun ρ W hd => Mono.guard_val hd (t := 65) (k := 2) (by kernel_rfl) rfl) (fun ρ a W hR hd hf => ?hb4) ?_
            case hb4 =>
              have e3 := Mono.init_get hf (t := 3) (by kernel_rfl)
              clear hd hf
              (go_simp; try with_reducible rfl)
            refine Mono.rgl_valg (v := ?vb5) rfl Mono.rr (fun ρ W hd => Mono.guard_val hd (t := 65) (k := 2) (by kernel_rfl) rfl) (fun ρ a W hR hd hf => ?hb5) ?_
            case hb5 =>
              have e6 := Mono.init_get hf (t := 6) (by kernel_rfl)
              clear hd hf
              (go_simp; try with_reducible rfl)
            refine Mono.rgl_valg (v := ?vb6) rfl Mono.rr (fun ρ W hd => Mono.guard_val hd (t := 65) (k := 2) (by kernel_rfl) rfl) (fun ρ a W hR hd hf => ?hb6) ?_
            case hb6 =>
              have e68 := Mono.dep_val hd hf (t := 68) (k := 5) (by kernel_rfl) rfl
              clear hd hf
              (go_simp; try with_reducible rfl)
            refine Mono.rgl_valg (v := ?vb7) rfl Mono.rr (fun ρ W hd => Mono.guard_val hd (t := 65) (k := 2) (by kernel_rfl) rfl) (fun ρ a W hR hd hf => ?hb7) ?_
            case hb7 =>
              have e67 := Mono.dep_val hd hf (t := 67) (k := 4) (by kernel_rfl) rfl
              have e69 := Mono.dep_val hd hf (t := 69) (k := 6) (by kernel_rfl) rfl
              clear hd hf
              (go_simp; try with_reducible rfl)
            refine Mono.rgl_valg (v := ?vb8) rfl Mono.rr (fun ρ W hd => Mono.guard_val hd (t := 65) (k := 2) (by kernel_rfl) rfl) (fun ρ a W hR hd hf => ?hb8) ?_
            case hb8 =>
              have e70 := Mono.dep_val hd hf (t := 70) (k := 7) (by kernel_rfl) rfl
              have hk := ka.out W hR
              clear hd hf
              (go_simp; try with_reducible rfl)
            refine Mono.rgl_valg (v := ?vb9) rfl Mono.rr (fun ρ W hd => Mono.guard_val hd (t := 65) (k := 2) (by kernel_rfl) rfl) (fun ρ a W hR hd hf => ?hb9) ?_
            case hb9 =>
              have e66 := Mono.dep_val hd hf (t := 66) (k := 3) (by kernel_rfl) rfl
              have e71 := Mono.dep_val hd hf (t := 71) (k := 8) (by kernel_rfl) rfl
              clear hd hf
              (go_simp; try with_reducible rfl)
            refine Mono.rgl_valg (v := ?vb10) rfl Mono.rr (fun ρ W hd => Mono.guard_val hd (t := 65) (k := 2) (by kernel_rfl) rfl) (fun ρ a W hR hd hf => ?hb10) ?_
            case hb10 =>
              have e72 := Mono.dep_val hd hf (t := 72) (k := 9) (by kernel_rfl) rfl
              clear hd hf
              (go_simp; try with_reducible rfl)
            refine Mono.rgl_valg (v := ?vb11) rfl Mono.rr (fun ρ W hd => Mono.guard_val hd (t := 65) (k := 2) (by kernel_rfl) rfl) (fun ρ a W hR hd hf => ?hb11) ?_
            case hb11 =>
              have e73 := Mono.dep_val hd hf (t := 73) (k := 10) (by kernel_rfl) rfl
              have hk := fa.out W hR
              clear hd hf
              (go_simp; try with_reducible rfl)
            refine Mono.rgl_valg (v := ?vb12) rfl Mono.rr (fun ρ W hd => Mono.guard_val hd (t := 65) (k := 2) (by kernel_rfl) rfl) (fun ρ a W hR hd hf => ?hb12) ?_
            case hb12 =>
              have e0 := Mono.init_get hf (t := 0) (by kernel_rfl)
              clear hd hf
              (go_simp; try with_reducible rfl)
            refine Mono.rgl_valg (v := ?vb13) rfl Mono.rr (fun ρ W hd => Mono.guard_val hd (t := 65) (k := 2) (by kernel_rfl) rfl) (fun ρ a W hR hd hf => ?hb13) ?_
            case hb13 =>
              have e3 := Mono.init_get hf (t := 3) (by kernel_rfl)
              clear hd hf
              (go_simp; try with_reducible rfl)
            refine Mono.rgl_valg (v := ?vb14) rfl Mono.rr (fun ρ W hd => Mono.guard_val hd (t := 65) (k := 2) (by kernel_rfl) rfl) (fun ρ a W hR hd hf => ?hb14) ?_
            case hb14 =>
              have e6 := Mono.init_get hf (t := 6) (by kernel_rfl)
              clear hd hf
              (go_simp; try with_reducible rfl)
            refine Mono.rgl_valg (v := ?vb15) rfl Mono.rr (fun ρ W hd => Mono.guard_val hd (t := 65) (k := 2) (by kernel_rfl) rfl) (fun ρ a W hR hd hf => ?hb15) ?_
            case hb15 =>
              have e76 := Mono.dep_val hd hf (t := 76) (k := 13) (by kernel_rfl) rfl
              have e77 := Mono.dep_val hd hf (t := 77) (k := 14) (by kernel_rfl) rfl
              clear hd hf
              (go_simp; try with_reducible rfl)
            refine Mono.rgl_valg (v := ?vb16) rfl Mono.rr (fun ρ W hd => Mono.guard_val hd (t := 65) (k := 2) (by kernel_rfl) rfl) (fun ρ a W hR hd hf => ?hb16) ?_
            case hb16 =>
              have e78 := Mono.dep_val hd hf (t := 78) (k := 15) (by kernel_rfl) rfl
              have hk := kb.out W hR
              clear hd hf
              (go_simp; try with_reducible rfl)
            refine Mono.rgl_valg (v := ?vb17) rfl Mono.rr (fun ρ W hd => Mono.guard_val hd (t := 65) (k := 2) (by kernel_rfl) rfl) (fun ρ a W hR hd hf => ?hb17) ?_
            case hb17 =>
              have e75 := Mono.dep_val hd hf (t := 75) (k := 12) (by kernel_rfl) rfl
              have e79 := Mono.dep_val hd hf (t := 79) (k := 16) (by kernel_rfl) rfl
              clear hd hf
              (go_simp; try with_reducible rfl)
            refine Mono.rgl_valg (v := ?vb18) rfl Mono.rr (fun ρ W hd => Mono.guard_val hd (t := 65) (k := 2) (by kernel_rfl) rfl) (fun ρ a W hR hd hf => ?hb18) ?_
            case hb18 =>
              have e80 := Mono.dep_val hd hf (t := 80) (k := 17) (by kernel_rfl) rfl
              clear hd hf
              (go_simp; try with_reducible rfl)
            refine Mono.rgl_valg (v := ?vb19) rfl Mono.rr (fun ρ W hd => Mono.guard_val hd (t := 65) (k := 2) (by kernel_rfl) rfl) (fun ρ a W hR hd hf => ?hb19) ?_
            case hb19 =>
              have e81 := Mono.dep_val hd hf (t := 81) (k := 18) (by kernel_rfl) rfl
              have hk := fb.out W hR
              clear hd hf
              (go_simp; try with_reducible rfl)
            refine Mono.rgl_valg (v := ?vb20) rfl Mono.rr (fun ρ W hd => Mono.guard_val hd (t := 65) (k := 2) (by kernel_rfl) rfl) (fun ρ a W hR hd hf => ?hb20) ?_
            case hb20 =>
              have e74 := Mono.dep_val hd hf (t := 74) (k := 11) (by kernel_rfl) rfl
              have e82 := Mono.dep_val hd hf (t := 82) (k := 19) (by kernel_rfl) rfl
              clear hd hf
              (go_simp; try with_reducible rfl)
            refine Mono.rgl_valg (v := ?vb21) rfl Mono.rr (fun ρ W hd => Mono.guard_val hd (t := 65) (k := 2) (by kernel_rfl) rfl) (fun ρ a W hR hd hf => ?hb21) ?_
            case hb21 =>
              have e83 := Mono.dep_val hd hf (t := 83) (k := 20) (by kernel_rfl) rfl
              clear hd hf
              (go_simp; try with_reducible rfl)
            refine Mono.rgl_valg (v := ?vb22) rfl Mono.rr (fun ρ W hd => Mono.guard_val hd (t := 84) (k := 21) (by kernel_rfl) rfl) (fun ρ a W hR hd hf => ?hb22) ?_
            case hb22 =>
              have e0 := Mono.init_get hf (t := 0) (by kernel_rfl)
              clear hd hf
              (go_simp; try with_reducible rfl)
            refine Mono.rgl_valg (v := ?vb23) rfl Mono.rr (fun ρ W hd => Mono.guard_val hd (t := 84) (k := 21) (by kernel_rfl) rfl) (fun ρ a W hR hd hf => ?hb23) ?_
            case hb23 =>
              have e3 := Mono.init_get hf (t := 3) (by kernel_rfl)
              clear hd hf
              (go_simp; try with_reducible rfl)
            refine Mono.rgl_valg (v := ?vb24) rfl Mono.rr (fun ρ W hd => Mono.guard_val hd (t := 84) (k := 21) (by kernel_rfl) rfl) (fun ρ a W hR hd hf => ?hb24) ?_
            case hb24 =>
              have e6 := Mono.init_get hf (t := 6) (by kernel_rfl)
              clear hd hf
              (go_simp; try with_reducible rfl)
            refine Mono.rgl_valg (v := ?vb25) rfl Mono.rr (fun ρ W hd => Mono.guard_val hd (t := 84) (k := 21) (by kernel_rfl) rfl) (fun ρ a W hR hd hf => ?hb25) ?_
            case hb25 =>
              have e87 := Mono.dep_val hd hf (t := 87) (k := 24) (by kernel_rfl) rfl
              clear hd hf
              (go_simp; try with_reducible rfl)
            refine Mono.rgl_valg (v := ?vb26) rfl Mono.rr (fun ρ W hd => Mono.guard_val hd (t := 84) (k := 21) (by kernel_rfl) rfl) (fun ρ a W hR hd hf => ?hb26) ?_
            case hb26 =>
              have e86 := Mono.dep_val hd hf (t := 86) (k := 23) (by kernel_rfl) rfl
              have e88 := Mono.dep_val hd hf (t := 88) (k := 25) (by kernel_rfl) rfl
              clear hd hf
              (go_simp; try with_reducible rfl)
            refine Mono.rgl_valg (v := ?vb27) rfl Mono.rr (fun ρ W hd => Mono.guard_val hd (t := 84) (k := 21) (by kernel_rfl) rfl) (fun ρ a W hR hd hf => ?hb27) ?_
            case hb27 =>
              have e89 := Mono.dep_val hd hf (t := 89) (k := 26) (by kernel_rfl) rfl
              have hk := ka.out W hR
              clear hd hf
              (go_simp; try with_reducible rfl)
            refine Mono.rgl_valg (v := ?vb28) rfl Mono.rr (fun ρ W hd => Mono.guard_val hd (t := 84) (k := 21) (by kernel_rfl) rfl) (fun ρ a W hR hd hf => ?hb28) ?_
            case hb28 =>
              have e85 := Mono.dep_val hd hf (t := 85) (k := 22) (by kernel_rfl) rfl
              have e90 := Mono.dep_val hd hf (t := 90) (k := 27) (by kernel_rfl) rfl
              clear hd hf
              (go_simp; try with_reducible rfl)
            refine Mono.rgl_valg (v := ?vb29) rfl Mono.rr (fun ρ W hd => Mono.guard_val hd (t := 84) (k := 21) (by kernel_rfl) rfl) (fun ρ a W hR hd hf => ?hb29) ?_
            case hb29 =>
              have e91 := Mono.dep_val hd hf (t := 91) (k := 28) (by kernel_rfl) rfl
              clear hd hf
              (go_simp; try with_reducible rfl)
            refine Mono.rgl_valg (v := ?vb30) rfl Mono.rr (fun ρ W hd => Mono.guard_val hd (t := 84) (k := 21) (by kernel_rfl) rfl) (fun ρ a W hR hd hf => ?hb30) ?_
            case hb30 =>
              have e92 := Mono.dep_val hd hf (t := 92) (k := 29) (by kernel_rfl) rfl
              have hk := fa.out W hR
              clear hd hf
              (go_simp; try with_reducible rfl)
            refine Mono.rgl_valg (v := ?vb31) rfl Mono.rr (fun ρ W hd => Mono.guard_val hd (t := 84) (k := 21) (by kernel_rfl) rfl) (fun ρ a W hR hd hf => ?hb31) ?_
            case hb31 =>
              have e0 := Mono.init_get hf (t := 0) (by kernel_rfl)
              clear hd hf
              (go_simp; try with_reducible rfl)
            refine Mono.rgl_valg (v := ?vb32) rfl Mono.rr (fun ρ W hd => Mono.guard_val hd (t := 84) (k := 21) (by kernel_rfl) rfl) (fun ρ a W hR hd hf => ?hb32) ?_
            case hb32 =>
              have e3 := Mono.init_get hf (t := 3) (by kernel_rfl)
              clear hd hf
              (go_simp; try with_reducible rfl)
            refine Mono.rgl_valg (v := ?vb33) rfl Mono.rr (fun ρ W hd => Mono.guard_val hd (t := 84) (k := 21) (by kernel_rfl) rfl) (fun ρ a W hR hd hf => ?hb33) ?_
            case hb33 =>
              have e6 := Mono.init_get hf (t := 6) (by kernel_rfl)
              clear hd hf
              (go_simp; try with_reducible rfl)
            refine Mono.rgl_valg (v := ?vb34) rfl Mono.rr (fun ρ W hd => Mono.guard_val hd (t := 84) (k := 21) (by kernel_rfl) rfl) (fun ρ a W hR hd hf => ?hb34) ?_
            case hb34 =>
              have e95 := Mono.dep_val hd hf (t := 95) (k := 32) (by kernel_rfl) rfl
              have e96 := Mono.dep_val hd hf (t := 96) (k := 33) (by kernel_rfl) rfl
              clear hd hf
              (go_simp; try with_reducible rfl)
            refine Mono.rgl_valg (v := ?vb35) rfl Mono.rr (fun ρ W hd => Mono.guard_val hd (t := 84) (k := 21) (by kernel_rfl) rfl) (fun ρ a W hR hd hf => ?hb35) ?_
            case hb35 =>
              have e97 := Mono.dep_val hd hf (t := 97) (k := 34) (by kernel_rfl) rfl
              have hk := kb.out W hR
              clear hd hf
              (go_simp; try with_reducible rfl)
            refine Mono.rgl_valg (v := ?vb36) rfl Mono.rr (fun ρ W hd => Mono.guard_val hd (t := 84) (k := 21) (by kernel_rfl) rfl) (fun ρ a W hR hd hf => ?hb36) ?_
            case hb36 =>
              have e94 := Mono.dep_val hd hf (t := 94) (k := 31) (by kernel_rfl) rfl
              have e98 := Mono.dep_val hd hf (t := 98) (k := 35) (by kernel_rfl) rfl
              clear hd hf
              (go_simp; try with_reducible rfl)
            refine Mono.rgl_valg (v := ?vb37) rfl Mono.rr (fun ρ W hd => Mono.guard_val hd (t := 84) (k := 21) (by kernel_rfl) rfl) (fun ρ a W hR hd hf => ?hb37) ?_
            case hb37 =>
              have e99 := Mono.dep_val hd hf (t := 99) (k := 36) (by kernel_rfl) rfl
              clear hd hf
              (go_simp; try with_reducible rfl)
            refine Mono.rgl_valg (v := ?vb38) rfl Mono.rr (fun ρ W hd => Mono.guard_val hd (t := 84) (k := 21) (by kernel_rfl) rfl) (fun ρ a W hR hd hf => ?hb38) ?_
            case hb38 =>
              have e100 := Mono.dep_val hd hf (t := 100) (k := 37) (by kernel_rfl) rfl
              have hk := fb.out W hR
              clear hd hf
              (go_simp; try with_reducible rfl)
            refine Mono.rgl_valg (v := ?vb39) rfl Mono.rr (fun ρ W hd => Mono.guard_val hd (t := 84) (k := 21) (by kernel_rfl) rfl) (fun ρ a W hR hd hf => ?hb39) ?_
            case hb39 =>
              have e93 := Mono.dep_val hd hf (t := 93) (k := 30) (by kernel_rfl) rfl
              have e101 := Mono.dep_val hd hf (t := 101) (k := 38) (by kernel_rfl) rfl
              clear hd hf
              (go_simp; try with_reducible rfl)
            refine Mono.rgl_valg (v := ?vb40) rfl Mono.rr (fun ρ W hd => Mono.guard_val hd (t := 84) (k := 21) (by kernel_rfl) rfl) (fun ρ a W hR hd hf => ?hb40) ?_
            case hb40 =>
              have e102 := Mono.dep_val hd hf (t := 102) (k := 39) (by kernel_rfl) rfl
              clear hd hf
              (go_simp; try with_reducible rfl)
            refine Mono.rgl_valg (v := ?vb41) rfl Mono.rr (fun ρ W hd => Mono.guard_val hd (t := 103) (k := 40) (by kernel_rfl) rfl) (fun ρ a W hR hd hf => ?hb41) ?_
            case hb41 =>
              have e3 := Mono.init_get hf (t := 3) (by kernel_rfl)
              clear hd hf
              (go_simp; try with_reducible rfl)
            refine Mono.rgl_valg (v := ?vb42) rfl Mono.rr (fun ρ W hd => Mono.guard_val hd (t := 103) (k := 40) (by kernel_rfl) rfl) (fun ρ a W hR hd hf => ?hb42) ?_
            case hb42 =>
              have e6 := Mono.init_get hf (t := 6) (by kernel_rfl)
              clear hd hf
              (go_simp; try with_reducible rfl)
            refine Mono.rgl_valg (v := ?vb43) rfl Mono.rr (fun ρ W hd => Mono.guard_val hd (t := 103) (k := 40) (by kernel_rfl) rfl) (fun ρ a W hR hd hf => ?hb43) ?_
            case hb43 =>
              have e105 := Mono.dep_val hd hf (t := 105) (k := 42) (by kernel_rfl) rfl
              clear hd hf
              (go_simp; try with_reducible rfl)
            refine Mono.rgl_valg (v := ?vb44) rfl Mono.rr (fun ρ W hd => Mono.guard_val hd (t := 103) (k := 40) (by kernel_rfl) rfl) (fun ρ a W hR hd hf => ?hb44) ?_
            case hb44 =>
              have e104 := Mono.dep_val hd hf (t := 104) (k := 41) (by kernel_rfl) rfl
              have e106 := Mono.dep_val hd hf (t := 106) (k := 43) (by kernel_rfl) rfl
              clear hd hf
              (go_simp; try with_reducible rfl)
            refine Mono.rgl_valg (v := ?vb45) rfl Mono.rr (fun ρ W hd => Mono.guard_val hd (t := 103) (k := 40) (by kernel_rfl) rfl) (fun ρ a W hR hd hf => ?hb45) ?_
            case hb45 =>
              have e107 := Mono.dep_val hd hf (t := 107) (k := 44) (by kernel_rfl) rfl
              have hk := ka.out W hR
              clear hd hf
              (go_simp; try with_reducible rfl)
            refine Mono.rgl_valg (v := ?vb46) rfl Mono.rr (fun ρ W hd => Mono.guard_val hd (t := 103) (k := 40) (by kernel_rfl) rfl) (fun ρ a W hR hd hf => ?hb46) ?_
            case hb46 =>
              have e3 := Mono.init_get hf (t := 3) (by kernel_rfl)
              clear hd hf
              (go_simp; try with_reducible rfl)
            refine Mono.rgl_valg (v := ?vb47) rfl Mono.rr (fun ρ W hd => Mono.guard_val hd (t := 103) (k := 40) (by kernel_rfl) rfl) (fun ρ a W hR hd hf => ?hb47) ?_
            case hb47 =>
              have e6 := Mono.init_get hf (t := 6) (by kernel_rfl)
              clear hd hf
              (go_simp; try with_reducible rfl)
            refine Mono.rgl_valg (v := ?vb48) rfl Mono.rr (fun ρ W hd => Mono.guard_val hd (t := 103) (k := 40) (by kernel_rfl) rfl) (fun ρ a W hR hd hf => ?hb48) ?_
            case hb48 =>
              have e109 := Mono.dep_val hd hf (t := 109) (k := 46) (by kernel_rfl) rfl
              have e110 := Mono.dep_val hd hf (t := 110) (k := 47) (by kernel_rfl) rfl
              clear hd hf
              (go_simp; try with_reducible rfl)
            refine Mono.rgl_valg (v := ?vb49) rfl Mono.rr (fun ρ W hd => Mono.guard_val hd (t := 103) (k := 40) (by kernel_rfl) rfl) (fun ρ a W hR hd hf => ?hb49) ?_
            case hb49 =>
              have e111 := Mono.dep_val hd hf (t := 111) (k := 48) (by kernel_rfl) rfl
              have hk := kb.out W hR
              clear hd hf
              (go_simp; try with_reducible rfl)
            refine Mono.rgl_valg (v := ?vb50) rfl Mono.rr (fun ρ W hd => Mono.guard_val hd (t := 103) (k := 40) (by kernel_rfl) rfl) (fun ρ a W hR hd hf => ?hb50) ?_
            case hb50 =>
              have e108 := Mono.dep_val hd hf (t := 108) (k := 45) (by kernel_rfl) rfl
              have e112 := Mono.dep_val hd hf (t := 112) (k := 49) (by kernel_rfl) rfl
              clear hd hf
              (go_simp; try with_reducible rfl)
            refine Mono.rgl_valg (v := ?vb51) rfl Mono.rr (fun ρ W hd => Mono.guard_val hd (t := 84) (k := 21) (by kernel_rfl) rfl) (fun ρ a W hR hd hf => ?hb51) ?_
            case hb51 =>
              have e103 := Mono.dep_val hd hf (t := 103) (k := 40) (by kernel_rfl) rfl
              have e113 := Mono.dep_val hd hf (t := 113) (k := 50) (by kernel_rfl) rfl
              clear hd hf
              (go_simp; try with_reducible rfl)
            refine Mono.rgl_valg (v := ?vb52) rfl Mono.rr (fun ρ W hd => Mono.guard_val hd (t := 65) (k := 2) (by kernel_rfl) rfl) (fun ρ a W hR hd hf => ?hb52) ?_
            case hb52 =>
              have e84 := Mono.dep_val hd hf (t := 84) (k := 21) (by kernel_rfl) rfl
              have e114 := Mono.dep_val hd hf (t := 114) (k := 51) (by kernel_rfl) rfl
              clear hd hf
              (go_simp; try with_reducible rfl)
            refine Mono.rgl_val (v := ?vb53) rfl Mono.rr (fun ρ a W hR hd hf => ?hb53) ?_
            case hb53 =>
              have e65 := Mono.dep_val hd hf (t := 65) (k := 2) (by kernel_rfl) rfl
              have e115 := Mono.dep_val hd hf (t := 115) (k := 52) (by kernel_rfl) rfl
              clear hd hf
              (go_simp; try with_reducible rfl)
            refine Mono.rgl_done rfl (fun ρ W hR ht => ?_)
            obtain ⟨db53, db52, db51, db50, db49, db48, db47, db46, db45, db44, db43, db42, db41, db40, db39, db38, db37, db36, db35, db34, db33, db32, db31, db30, db29, db28, db27, db26, db25, db24, db23, db22, db21, db20, db19, db18, db17, db16, db15, db14, db13, db12, db11, db10, db9, db8, db7, db6, db5, db4, db3, db2, db1, db0, _⟩ := ht
            simp only [List.length_cons, List.length_nil, Nat.reduceAdd] at db0 db1 db2 db3 db4 db5 db6 db7 db8 db9 db10 db11 db12 db13 db14 db15 db16 db17 db18 db19 db20 db21 db22 db23 db24 db25 db26 db27 db28 db29 db30 db31 db32 db33 db34 db35 db36 db37 db38 db39 db40 db41 db42 db43 db44 db45 db46 db47 db48 db49 db50 db51 db52 db53
            simp only [Mono.putAll, Nat.reduceAdd, db0, db1, db2, db3, db4, db5, db6, db7, db8, db9, db10, db11, db12, db13, db14, db15, db16, db17, db18, db19, db20, db21, db22, db23, db24, db25, db26, db27, db28, db29, db30, db31, db32, db33, db34, db35, db36, db37, db38, db39, db40, db41, db42, db43, db44, db45, db46, db47, db48, db49, db50, db51, db52, db53, Act.put, List.setIfInBounds_toArray, List.set_cons_zero, List.set_cons_succ]
            clear db0 db1 db2 db3 db4 db5 db6 db7 db8 db9 db10 db11 db12 db13 db14 db15 db16 db17 db18 db19 db20 db21 db22 db23 db24 db25 db26 db27 db28 db29 db30 db31 db32 db33 db34 db35 db36 db37 db38 db39 db40 db41 db42 db43 db44 db45 db46 db47 db48 db49 db50 db51 db52 db53
            have HB5 := Lib.hid (HB4.out.trans (hR.mono hz4))
            clear hR
            go_wp2_with (fail)
            go_roundw
            case rel => exact ⟨p + 1 + 1, rfl, by omega, HB5⟩
            case measure => simp [intOf] <;> omega
        · obtain rfl : k = 0 := by omega
          have d6 : decide ((0 : Int) < ((0 : Nat) : Int)) = false := by simp
          have kb0 : w4.cell? ⟨bg, og, none⟩ = some (.int .i64 (g 0 : Nat)) := kb0
          generalize (cv (g 0)).fin = eb at *
          generalize g 0 = y at *
          go_upto_region 18 with (fail)
          refine Mono.region_below (by kernel_rfl) (by kernel_rfl) (by kernel_rfl) ?_
          refine Mono.rgl_val (v := ?vc0) rfl Mono.rr (fun ρ a W hR hd hf => ?hc0) ?_
          case hc0 =>
            have e6 := Mono.init_get hf (t := 6) (by kernel_rfl)
            clear hd hf
            (go_simp; try with_reducible rfl)
          refine Mono.rgl_val (v := ?vc1) rfl Mono.rr (fun ρ a W hR hd hf => ?hc1) ?_
          case hc1 =>
            have e63 := Mono.dep_val hd hf (t := 63) (k := 0) (by kernel_rfl) rfl
            clear hd hf
            (go_simp; try with_reducible rfl)
          refine Mono.rgl_val (v := ?vc2) rfl Mono.rr (fun ρ a W hR hd hf => ?hc2) ?_
          case hc2 =>
            have e64 := Mono.dep_val hd hf (t := 64) (k := 1) (by kernel_rfl) rfl
            clear hd hf
            (go_simp; try with_reducible rfl)
          refine Mono.rgl_skip rfl (by decide) (fun ρ W hd => Mono.guard_val hd (t := 65) (k := 2) (by kernel_rfl) rfl) ?_
          refine Mono.rgl_skip rfl (by decide) (fun ρ W hd => Mono.guard_val hd (t := 65) (k := 2) (by kernel_rfl) rfl) ?_
          refine Mono.rgl_skip rfl (by decide) (fun ρ W hd => Mono.guard_val hd (t := 65) (k := 2) (by kernel_rfl) rfl) ?_
          refine Mono.rgl_skip rfl (by decide) (fun ρ W hd => Mono.guard_val hd (t := 65) (k := 2) (by kernel_rfl) rfl) ?_
          refine Mono.rgl_skip rfl (by decide) (fun ρ W hd => Mono.guard_val hd (t := 65) (k := 2) (by kernel_rfl) rfl) ?_
          refine Mono.rgl_skip rfl (by decide) (fun ρ W hd => Mono.guard_val hd (t := 65) (k := 2) (by kernel_rfl) rfl) ?_
          refine Mono.rgl_skip rfl (by decide) (fun ρ W hd => Mono.guard_val hd (t := 65) (k := 2) (by kernel_rfl) rfl) ?_
          refine Mono.rgl_skip rfl (by decide) (fun ρ W hd => Mono.guard_val hd (t := 65) (k := 2) (by kernel_rfl) rfl) ?_
          refine Mono.rgl_skip rfl (by decide) (fun ρ W hd => Mono.guard_val hd (t := 65) (k := 2) (by kernel_rfl) rfl) ?_
          refine Mono.rgl_skip rfl (by decide) (fun ρ W hd => Mono.guard_val hd (t := 65) (k := 2) (by kernel_rfl) rfl) ?_
          refine Mono.rgl_skip rfl (by decide) (fun ρ W hd => Mono.guard_val hd (t := 65) (k := 2) (by kernel_rfl) rfl) ?_
          refine Mono.rgl_skip rfl (by decide) (fun ρ W hd => Mono.guard_val hd (t := 65) (k := 2) (by kernel_rfl) rfl) ?_
          refine Mono.rgl_skip rfl (by decide) (fun ρ W hd => Mono.guard_val hd (t := 65) (k := 2) (by kernel_rfl) rfl) ?_
          refine Mono.rgl_skip rfl (by decide) (fun ρ W hd => Mono.guard_val hd (t := 65) (k := 2) (by kernel_rfl) rfl) ?_
          refine Mono.rgl_skip rfl (by decide) (fun ρ W hd => Mono.guard_val hd (t := 65) (k := 2) (by kernel_rfl) rfl) ?_
          refine Mono.rgl_skip rfl (by decide) (fun ρ W hd => Mono.guard_val hd (t := 65) (k := 2) (by kernel_rfl) rfl) ?_
          refine Mono.rgl_skip rfl (by decide) (fun ρ W hd => Mono.guard_val hd (t := 65) (k := 2) (by kernel_rfl) rfl) ?_
          refine Mono.rgl_skip rfl (by decide) (fun ρ W hd => Mono.guard_val hd (t := 65) (k := 2) (by kernel_rfl) rfl) ?_
          refine Mono.rgl_skip rfl (by decide) (fun ρ W hd => Mono.guard_val hd (t := 65) (k := 2) (by kernel_rfl) rfl) ?_
          refine Mono.rgl_skip' rfl (fun ρ W hd => Mono.guard_val hd (t := 84) (k := 21) (by kernel_rfl) rfl) ?_
          refine Mono.rgl_skip' rfl (fun ρ W hd => Mono.guard_val hd (t := 84) (k := 21) (by kernel_rfl) rfl) ?_
          refine Mono.rgl_skip' rfl (fun ρ W hd => Mono.guard_val hd (t := 84) (k := 21) (by kernel_rfl) rfl) ?_
          refine Mono.rgl_skip' rfl (fun ρ W hd => Mono.guard_val hd (t := 84) (k := 21) (by kernel_rfl) rfl) ?_
          refine Mono.rgl_skip' rfl (fun ρ W hd => Mono.guard_val hd (t := 84) (k := 21) (by kernel_rfl) rfl) ?_
          refine Mono.rgl_skip' rfl (fun ρ W hd => Mono.guard_val hd (t := 84) (k := 21) (by kernel_rfl) rfl) ?_
          refine Mono.rgl_skip' rfl (fun ρ W hd => Mono.guard_val hd (t := 84) (k := 21) (by kernel_rfl) rfl) ?_
          refine Mono.rgl_skip' rfl (fun ρ W hd => Mono.guard_val hd (t := 84) (k := 21) (by kernel_rfl) rfl) ?_
          refine Mono.rgl_skip' rfl (fun ρ W hd => Mono.guard_val hd (t := 84) (k := 21) (by kernel_rfl) rfl) ?_
          refine Mono.rgl_skip' rfl (fun ρ W hd => Mono.guard_val hd (t := 84) (k := 21) (by kernel_rfl) rfl) ?_
          refine Mono.rgl_skip' rfl (fun ρ W hd => Mono.guard_val hd (t := 84) (k := 21) (by kernel_rfl) rfl) ?_
          refine Mono.rgl_skip' rfl (fun ρ W hd => Mono.guard_val hd (t := 84) (k := 21) (by kernel_rfl) rfl) ?_
          refine Mono.rgl_skip' rfl (fun ρ W hd => Mono.guard_val hd (t := 84) (k := 21) (by kernel_rfl) rfl) ?_
          refine Mono.rgl_skip' rfl (fun ρ W hd => Mono.guard_val hd (t := 84) (k := 21) (by kernel_rfl) rfl) ?_
          refine Mono.rgl_skip' rfl (fun ρ W hd => Mono.guard_val hd (t := 84) (k := 21) (by kernel_rfl) rfl) ?_
          refine Mono.rgl_skip' rfl (fun ρ W hd => Mono.guard_val hd (t := 84) (k := 21) (by kernel_rfl) rfl) ?_
          refine Mono.rgl_skip' rfl (fun ρ W hd => Mono.guard_val hd (t := 84) (k := 21) (by kernel_rfl) rfl) ?_
          refine Mono.rgl_skip' rfl (fun ρ W hd => Mono.guard_val hd (t := 84) (k := 21) (by kernel_rfl) rfl) ?_
          refine Mono.rgl_skip' rfl (fun ρ W hd => Mono.guard_val hd (t := 84) (k := 21) (by kernel_rfl) rfl) ?_
          refine Mono.rgl_skip' rfl (fun ρ W hd => Mono.guard_val hd (t := 103) (k := 40) (by kernel_rfl) rfl) ?_
          refine Mono.rgl_skip' rfl (fun ρ W hd => Mono.guard_val hd (t := 103) (k := 40) (by kernel_rfl) rfl) ?_
          refine Mono.rgl_skip' rfl (fun ρ W hd => Mono.guard_val hd (t := 103) (k := 40) (by kernel_rfl) rfl) ?_
          refine Mono.rgl_skip' rfl (fun ρ W hd => Mono.guard_val hd (t := 103) (k := 40) (by kernel_rfl) rfl) ?_
          refine Mono.rgl_skip' rfl (fun ρ W hd => Mono.guard_val hd (t := 103) (k := 40) (by kernel_rfl) rfl) ?_
          refine Mono.rgl_skip' rfl (fun ρ W hd => Mono.guard_val hd (t := 103) (k := 40) (by kernel_rfl) rfl) ?_
          refine Mono.rgl_skip' rfl (fun ρ W hd => Mono.guard_val hd (t := 103) (k := 40) (by kernel_rfl) rfl) ?_
          refine Mono.rgl_skip' rfl (fun ρ W hd => Mono.guard_val hd (t := 103) (k := 40) (by kernel_rfl) rfl) ?_
          refine Mono.rgl_skip' rfl (fun ρ W hd => Mono.guard_val hd (t := 103) (k := 40) (by kernel_rfl) rfl) ?_
          refine Mono.rgl_skip' rfl (fun ρ W hd => Mono.guard_val hd (t := 103) (k := 40) (by kernel_rfl) rfl) ?_
          refine Mono.rgl_skip' rfl (fun ρ W hd => Mono.guard_val hd (t := 84) (k := 21) (by kernel_rfl) rfl) ?_
          refine Mono.rgl_skip rfl (by decide) (fun ρ W hd => Mono.guard_val hd (t := 65) (k := 2) (by kernel_rfl) rfl) ?_
          refine Mono.rgl_val (v := ?vc53) rfl Mono.rr (fun ρ a W hR hd hf => ?hc53) ?_
          case hc53 =>
            have e65 := Mono.dep_val hd hf (t := 65) (k := 2) (by kernel_rfl) rfl
            have e115 := Mono.dep_val hd hf (t := 115) (k := 52) (by kernel_rfl) rfl
            clear hd hf
            (go_simp; try with_reducible rfl)
          refine Mono.rgl_done rfl (fun ρ W hR ht => ?_)
          obtain ⟨dc53, dc52, dc51, dc50, dc49, dc48, dc47, dc46, dc45, dc44, dc43, dc42, dc41, dc40, dc39, dc38, dc37, dc36, dc35, dc34, dc33, dc32, dc31, dc30, dc29, dc28, dc27, dc26, dc25, dc24, dc23, dc22, dc21, dc20, dc19, dc18, dc17, dc16, dc15, dc14, dc13, dc12, dc11, dc10, dc9, dc8, dc7, dc6, dc5, dc4, dc3, dc2, dc1, dc0, _⟩ := ht
          simp only [List.length_cons, List.length_nil, Nat.reduceAdd] at dc0 dc1 dc2 dc3 dc4 dc5 dc6 dc7 dc8 dc9 dc10 dc11 dc12 dc13 dc14 dc15 dc16 dc17 dc18 dc19 dc20 dc21 dc22 dc23 dc24 dc25 dc26 dc27 dc28 dc29 dc30 dc31 dc32 dc33 dc34 dc35 dc36 dc37 dc38 dc39 dc40 dc41 dc42 dc43 dc44 dc45 dc46 dc47 dc48 dc49 dc50 dc51 dc52 dc53
          simp only [Mono.putAll, Nat.reduceAdd, dc0, dc1, dc2, dc3, dc4, dc5, dc6, dc7, dc8, dc9, dc10, dc11, dc12, dc13, dc14, dc15, dc16, dc17, dc18, dc19, dc20, dc21, dc22, dc23, dc24, dc25, dc26, dc27, dc28, dc29, dc30, dc31, dc32, dc33, dc34, dc35, dc36, dc37, dc38, dc39, dc40, dc41, dc42, dc43, dc44, dc45, dc46, dc47, dc48, dc49, dc50, dc51, dc52, dc53, Act.put, List.setIfInBounds_toArray, List.set_cons_zero, List.set_cons_succ]
          clear dc0 dc1 dc2 dc3 dc4 dc5 dc6 dc7 dc8 dc9 dc10 dc11 dc12 dc13 dc14 dc15 dc16 dc17 dc18 dc19 dc20 dc21 dc22 dc23 dc24 dc25 dc26 dc27 dc28 dc29 dc30 dc31 dc32 dc33 dc34 dc35 dc36 dc37 dc38 dc39 dc40 dc41 dc42 dc43 dc44 dc45 dc46 dc47 dc48 dc49 dc50 dc51 dc52 dc53
          have HB5 := Lib.hid (HB4.out.trans (hR.mono hz4))
          clear hR
          go_wp2_with (fail)
          go_roundw
          case rel => exact ⟨0 + 1, rfl, by omega, HB5⟩
          case measure => simp [intOf] <;> omega
end Go.Proofs.YtmcbgjkogggneaaDoor
