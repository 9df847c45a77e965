/- The walk of RatioLists. -/
import Derived.Test.YtpjjfkogcfdnkaaRlB
namespace Go.Proofs.Ytpjjfkogcfdnkaa
set_option maxRecDepth 100000
set_option linter.unusedVariables false
set_option linter.unusedSimpArgs false
open Go.RowKit Flo
theorem cls_bd (x : Nat) : 0 ≤ cls x ∧ cls x ≤ 6 := by
  unfold cls
  repeat' split
  all_goals omega
theorem cmp0_EQ {x y : El} (h : cmpF x.1 y.1 = 0) : EQ x.1 y.1 := by
  refine ⟨x.2, y.2, ?_, h⟩
  unfold cmpF cf at h
  split at h
  · omega
  · split at h
    · omega
    · omega
theorem srt_EQ {n : Nat} {ga gb : Nat → El} (ha : Srt leF ga 0 n) (hb : Srt leF gb 0 n) (hc : ∀ p : El → Bool, cnt p ga n = cnt p gb n) (i : Nat) (hi : i < n) : EQ (ga i).1 (gb i).1 := by
  have h1 : leF (ga i) (gb i) := srt_same ordF ha hb hc i hi
  have h2 : leF (gb i) (ga i) := srt_same ordF hb ha (fun p => (hc p).symm) i hi
  refine cmp0_EQ ?_
  unfold leF at h1 h2
  have := cmpF_anti (ga i).1 (gb i).1
  omega
theorem fin_iff (x : El) : finB x = true ↔ 2 ≤ cls x.1 ∧ cls x.1 ≤ 5 := by
  have := cls_bd x.1
  unfold finB
  simp only [Bool.and_eq_true, Bool.not_eq_true', beq_eq_false_iff_ne, ne_eq]
  omega
theorem encs_get {l : List El} {k : Nat} {x : El} (h : l[k]? = some x) : (l.map enc)[k]? = some (enc x) := by rw [List.getElem?_map, h]; rfl
set_option maxHeartbeats 8000000 in
theorem lists_walk (n : Nat) (f : Nat → El) (v : Value) (w : World) (hS : Sl w w.heap.size 1 v n (fcells n f)) (hm : n ≤ maxLen) :
    Calls Try.prog 6 #[v] w fun e w' => e = .returned (.bool true) ∧ Below w.heap.size w w' := by
  unfold maxLen at hm
  obtain ⟨a, cap, rfl, hcap⟩ := hS.form
  have HS := Lib.hid (fun (W : World) (hW : Below w.heap.size w W) => hS.below hW)
  have HB := Lib.hid (below_drewN (Below.refl w.heap.size w) 1)
  clear hS
  go_enter Try.func6, Try.ntmps6
  go_wp2_with (fail)
  refine (awake_any w).mono ?_
  rintro e w1 ⟨rfl, rfl⟩
  generalize w.drewN 1 = w1 at *
  by_cases hlong : 60 < n
  · have d1 : decide (60 < n) = true := decide_eq_true hlong
    have d2 : decide ((60 : Int) < (n : Int)) = true := decide_eq_true (by omega)
    clear hlong
    go_wp2_with (fail)
    go_ret
    exact ⟨by rfl, HB.out⟩
  have d1 : decide (60 < n) = false := decide_eq_false hlong
  have d2 : decide ((60 : Int) < (n : Int)) = false := decide_eq_false (by omega)
  have hz1 := HB.out.size
  have HA := Lib.hid (sort_any n f (.slice a n cap) w.heap.size w1 (HS.out w1 HB.out) hz1 (by omega))
  go_wp2_with (fail)
  refine HA.out.mono ?_
  rintro e w2 ⟨va, ga, rfl, hsa, hta, hwa, hba⟩
  obtain ⟨aa, ac, rfl, hac⟩ := hsa.form
  have HZ2 := Lib.hid (HB.out.trans (hba.mono hz1))
  have HSA := Lib.hid (fun (W : World) (hW : Below w2.heap.size w2 W) => hsa.below hW)
  have HTA := Lib.hid hta
  have HWA := Lib.hid hwa
  clear hsa hta hwa hba HA
  have HRS := Lib.hid (refSort_any n f (.slice a n cap) w.heap.size w2 (HS.out w2 HZ2.out) HZ2.out.size (by omega))
  go_wp2_with (fail)
  refine HRS.out.mono ?_
  rintro e w3 ⟨vb, gb, rfl, hsb, htb, hcb, hbb⟩
  obtain ⟨ab, bbc, rfl, hbbc⟩ := hsb.form
  have HZ3 := Lib.hid (HZ2.out.trans (hbb.mono HZ2.out.size))
  have HSA := Lib.hid (fun (W : World) (hW : Below w3.heap.size w3 W) => HSA.out W (hbb.trans (hW.mono hbb.size)))
  have HSB := Lib.hid (fun (W : World) (hW : Below w3.heap.size w3 W) => hsb.below hW)
  have HTB := Lib.hid htb
  have HCB := Lib.hid hcb
  clear hsb htb hcb hbb HRS HZ2
  have HEQ : Hid (∀ i, i < n → EQ (ga i).1 (gb i).1) := Lib.hid (srt_EQ HTA.out HTB.out fun p => by rw [HWA.out.cnt p n (Nat.le_refl _), HCB.out p])
  have HF := Lib.hid (finite_any n f (.slice a n cap) w.heap.size w3 (HS.out w3 HZ3.out) HZ3.out.size (by omega))
  go_wp2_with (fail)
  refine HF.out.mono ?_
  rintro e w4 ⟨vf, rfl, hrf, hbf⟩
  obtain ⟨af, fc, rfl, hfc⟩ := hrf.form
  have HZ4 := Lib.hid (HZ3.out.trans (hbf.mono HZ3.out.size))
  have HSA := Lib.hid (fun (W : World) (hW : Below w4.heap.size w4 W) => HSA.out W (hbf.trans (hW.mono hbf.size)))
  have HSB := Lib.hid (fun (W : World) (hW : Below w4.heap.size w4 W) => HSB.out W (hbf.trans (hW.mono hbf.size)))
  have HSF := Lib.hid (fun (W : World) (hW : Below w4.heap.size w4 W) => (hrf.below hW).sl)
  have hz4 := HZ4.out.size
  have hfl := fins_len f n
  obtain ⟨M, hM⟩ : ∃ M, (fins f n).length = M := ⟨_, rfl⟩
  rw [hM] at hfl hfc
  rw [hM] at HSF
  rw [hM]
  have HM := Lib.hid hM
  clear hM hrf hbf HF HZ3 HB HTA HWA
  go_wp2_with (fail)
  go_loopw [6, 7, 8] (fun at_ i _ wr => ∃ j m : Nat, i = .int .i64 j ∧ at_ = .int .i64 m ∧ j ≤ n ∧ m ≤ n ∧ Hid (m = (fins f j).length) ∧ Hid (Below w4.heap.size w4 wr)) (fun _ i _ _ => n - (intOf i).toNat)
  case atStart => exact ⟨0, 0, rfl, rfl, by omega, by omega, Lib.hid rfl, Lib.hid (Below.refl _ _)⟩
  case round =>
    obtain ⟨j, m, rfl, rfl, hj, hmn, HMJ, HBR⟩ := hrel
    obtain ⟨w5, rfl⟩ : ∃ z : World, z = wr := ⟨_, rfl⟩
    have HZ5 := Lib.hid (HZ4.out.trans (HBR.out.mono hz4))
    have hz5 := HBR.out.size
    by_cases hlt : j < n
    · have d1 : decide (j < n) = true := decide_eq_true hlt
      have d2 : decide ((j : Int) < (n : Int)) = true := decide_eq_true (by omega)
      have q1 : IntKind.i64.wrap ((j : Int) + 1) = (j : Int) + 1 := IntWalk.i64_in _ (by omega)
      have q2 : IntKind.i64.wrap ((m : Int) + 1) = (m : Int) + 1 := IntWalk.i64_in _ (by omega)
      have hji : (j : Int) < (n : Int) := by omega
      obtain ⟨b0, off0, rfl, hk0⟩ := sl_cells (HS.out w5 HZ5.out) (by omega)
      obtain ⟨b1, off1, rfl, hk1⟩ := sl_cells (HSA.out w5 HBR.out) (by omega)
      obtain ⟨b2, off2, rfl, hk2⟩ := sl_cells (HSB.out w5 HBR.out) (by omega)
      clear hk0 hk1 hk2
      have k1 : Hid (∀ W, Below w5.heap.size w5 W → W.cell? ⟨b1, off1 + j, none⟩ = some (enc (ga j))) := Lib.hid (fun W hW => sl_same (HSA.out W (HBR.out.trans (hW.mono hz5))) (by omega) _ _ (fcells_get ga hlt))
      have k2 : Hid (∀ W, Below w5.heap.size w5 W → W.cell? ⟨b2, off2 + j, none⟩ = some (enc (gb j))) := Lib.hid (fun W hW => sl_same (HSB.out W (HBR.out.trans (hW.mono hz5))) (by omega) _ _ (fcells_get gb hlt))
      have HSAME := Lib.hid (fun W : World => same_eq (ga j).1 (gb j).1 (HEQ.out j hlt) W)
      go_upto_region 12 with (fail)
      refine Mono.region_below (by kernel_rfl) (by kernel_rfl) (by kernel_rfl) ?_
      refine Mono.rgl_val (v := ?va0) rfl Mono.rr (fun ρ a W hR hd hf => ?ha0) ?_
      case ha0 =>
        have e3 := Mono.init_get hf (t := 3) (by kernel_rfl)
        clear hd hf
        (go_simp; try with_reducible rfl)
      refine Mono.rgl_val (v := ?va1) rfl Mono.rr (fun ρ a W hR hd hf => ?ha1) ?_
      case ha1 =>
        have e7 := Mono.init_get hf (t := 7) (by kernel_rfl)
        clear hd hf
        (go_simp; try with_reducible rfl)
      refine Mono.rgl_val (v := ?va2) rfl Mono.rr (fun ρ a W hR hd hf => ?ha2) ?_
      case ha2 =>
        have e33 := Mono.dep_val hd hf (t := 33) (k := 0) (by kernel_rfl) rfl
        have e34 := Mono.dep_val hd hf (t := 34) (k := 1) (by kernel_rfl) rfl
        clear hd hf
        (go_simp; try with_reducible rfl)
      refine Mono.rgl_val (v := ?va3) rfl Mono.rr (fun ρ a W hR hd hf => ?ha3) ?_
      case ha3 =>
        have e35 := Mono.dep_val hd hf (t := 35) (k := 2) (by kernel_rfl) rfl
        have hk := k1.out W hR
        clear hd hf
        (go_simp; try with_reducible rfl)
      refine Mono.rgl_val (v := ?va4) rfl Mono.rr (fun ρ a W hR hd hf => ?ha4) ?_
      case ha4 =>
        have e4 := Mono.init_get hf (t := 4) (by kernel_rfl)
        clear hd hf
        (go_simp; try with_reducible rfl)
      refine Mono.rgl_val (v := ?va5) rfl Mono.rr (fun ρ a W hR hd hf => ?ha5) ?_
      case ha5 =>
        have e7 := Mono.init_get hf (t := 7) (by kernel_rfl)
        clear hd hf
        (go_simp; try with_reducible rfl)
      refine Mono.rgl_val (v := ?va6) rfl Mono.rr (fun ρ a W hR hd hf => ?ha6) ?_
      case ha6 =>
        have e37 := Mono.dep_val hd hf (t := 37) (k := 4) (by kernel_rfl) rfl
        have e38 := Mono.dep_val hd hf (t := 38) (k := 5) (by kernel_rfl) rfl
        clear hd hf
        (go_simp; try with_reducible rfl)
      refine Mono.rgl_val (v := ?va7) rfl Mono.rr (fun ρ a W hR hd hf => ?ha7) ?_
      case ha7 =>
        have e39 := Mono.dep_val hd hf (t := 39) (k := 6) (by kernel_rfl) rfl
        have hk := k2.out W hR
        clear hd hf
        (go_simp; try with_reducible rfl)
      refine Mono.rgl_call (fun x _ => x = .bool true) rfl Mono.rr (fun _ _ _ h _ => h) (fun ρ a W hR hd hf => ?ha8) ?_
      case ha8 =>
        have e36 := Mono.dep_val hd hf (t := 36) (k := 3) (by kernel_rfl) rfl
        have e40 := Mono.dep_val hd hf (t := 40) (k := 7) (by kernel_rfl) rfl
        clear hd hf
        refine ⟨_, _, by go_simp; first | rfl | exact ⟨rfl, rfl⟩, ?_⟩
        exact (HSAME.out W).mono (by rintro e w' ⟨rfl, rfl⟩; exact ⟨_, rfl, Below.refl _ _, rfl⟩)
      refine Mono.rgl_val (v := ?va9) rfl Mono.rr (fun ρ a W hR hd hf => ?ha9) ?_
      case ha9 =>
        have e41 := Mono.dep_val hd hf (t := 41) (k := 8) (by kernel_rfl) rfl
        clear hd hf
        (go_simp; try with_reducible rfl)
      refine Mono.rgl_done rfl (fun ρ W hR ht => ?_)
      obtain ⟨da9, da8, da7, da6, da5, da4, da3, da2, da1, da0, _⟩ := ht
      simp only [List.length_cons, List.length_nil, Nat.reduceAdd] at da0 da1 da2 da3 da4 da5 da6 da7 da8 da9
      simp only [Mono.putAll, Nat.reduceAdd, da0, da1, da2, da3, da4, da5, da6, da7, da8, da9, Act.put, List.setIfInBounds_toArray, List.set_cons_zero, List.set_cons_succ]
      clear da0 da1 da2 da3 da4 da5 da6 da7 da8 da9

      have HBR6 := Lib.hid (HBR.out.trans (hR.mono hz5))
      have HZ6 := Lib.hid (HZ4.out.trans (HBR6.out.mono hz4))
      clear hR HSAME k1 k2 HBR HZ5
      obtain ⟨w6, rfl⟩ : ∃ z : World, z = W := ⟨_, rfl⟩
      have hz6 := HBR6.out.size
      obtain ⟨z, hz0⟩ : ∃ z, (f j).1 = z := ⟨_, rfl⟩
      have hz : enc (f j) = .float .f64 z := by unfold enc; rw [hz0]
      have hzl : z < 18446744073709551616 := by rw [← hz0]; exact (f j).2
      have k0 : w6.cell? ⟨b0, off0 + j, none⟩ = some (.float .f64 z) := by rw [← hz]; exact sl_same (HS.out w6 HZ6.out) (by omega) _ _ (fcells_get f hlt)
      have HCL := Lib.hid (refClass_any z hzl)
      have hfi := fin_iff (f j)
      rw [hz0] at hfi
      have HSAME := Lib.hid (same_eq z z (EQ_self hzl))
      have HEN := Lib.hid hz
      clear hz0 hz hzl
      generalize cls z = kk at *
      by_cases hfin : 2 ≤ kk ∧ kk ≤ 5
      · have g1 : decide (2 ≤ kk) = true := decide_eq_true hfin.1
        have g2 : decide (kk ≤ 5) = true := decide_eq_true hfin.2
        have hat := fins_at hlt (hfi.2 hfin)
        rw [← HMJ.out, HM.out] at hat
        have hmM : m < M := hat.2
        have hmM' : (m : Int) < (M : Int) := by omega
        have g3 : decide ((M : Int) ≤ (m : Int)) = false := decide_eq_false (by omega)
        have g4 : decide (M ≤ m) = false := decide_eq_false (by omega)
        have HY := Lib.hid (show m + 1 = (fins f (j + 1)).length by rw [fins_yes (hfi.2 hfin), List.length_append, ← HMJ.out]; rfl)
        obtain ⟨b3, off3, rfl, hk3⟩ := sl_cells (HSF.out w6 HBR6.out) (by omega)
        have HE3 := Lib.hid (encs_get hat.1)
        clear hk3 hat
        have k3 : Hid (∀ W, Below w6.heap.size w6 W → W.cell? ⟨b3, off3 + m, none⟩ = some (.float .f64 z)) := Lib.hid (fun W hW => by rw [← HEN.out]; exact sl_same (HSF.out W (HBR6.out.trans (hW.mono hz6))) (by omega) _ _ HE3.out)
        have k4 : Hid (∀ W, Below w6.heap.size w6 W → W.cell? ⟨b0, off0 + j, none⟩ = some (.float .f64 z)) := Lib.hid (fun W hW => by rw [← HEN.out]; exact sl_same (HS.out W (HZ6.out.trans (hW.mono HZ6.out.size))) (by omega) _ _ (fcells_get f hlt))
        go_upto_region 16 with (go_at_call 14; refine (HCL.out _).mono ?_; rintro e w' ⟨rfl, rfl⟩)
        refine Mono.region_below (by kernel_rfl) (by kernel_rfl) (by kernel_rfl) ?_
        refine Mono.rgl_val (v := ?vb0) rfl Mono.rr (fun ρ a W hR hd hf => ?hb0) ?_
        case hb0 =>
          have e6 := Mono.init_get hf (t := 6) (by kernel_rfl)
          clear hd hf
          (go_simp; try with_reducible rfl)
        refine Mono.rgl_val (v := ?vb1) rfl Mono.rr (fun ρ a W hR hd hf => ?hb1) ?_
        case hb1 =>
          have e5 := Mono.init_get hf (t := 5) (by kernel_rfl)
          clear hd hf
          (go_simp; try with_reducible rfl)
        refine Mono.rgl_val (v := ?vb2) rfl Mono.rr (fun ρ a W hR hd hf => ?hb2) ?_
        case hb2 =>
          have e55 := Mono.dep_val hd hf (t := 55) (k := 1) (by kernel_rfl) rfl
          clear hd hf
          (go_simp; try with_reducible rfl)
        refine Mono.rgl_val (v := ?vb3) rfl Mono.rr (fun ρ a W hR hd hf => ?hb3) ?_
        case hb3 =>
          have e54 := Mono.dep_val hd hf (t := 54) (k := 0) (by kernel_rfl) rfl
          have e56 := Mono.dep_val hd hf (t := 56) (k := 2) (by kernel_rfl) rfl
          clear hd hf
          (go_simp; try with_reducible rfl)
        refine Mono.rgl_val (v := ?vb4) rfl Mono.rr (fun ρ a W hR hd hf => ?hb4) ?_
        case hb4 =>
          have e57 := Mono.dep_val hd hf (t := 57) (k := 3) (by kernel_rfl) rfl
          clear hd hf
          (go_simp; try with_reducible rfl)
        refine Mono.rgl_valg (v := ?vb5) rfl Mono.rr (fun ρ W hd => Mono.guard_val hd (t := 58) (k := 4) (by kernel_rfl) rfl) (fun ρ a W hR hd hf => ?hb5) ?_
        case hb5 =>
          have e5 := Mono.init_get hf (t := 5) (by kernel_rfl)
          clear hd hf
          (go_simp; try with_reducible rfl)
        refine Mono.rgl_valg (v := ?vb6) rfl Mono.rr (fun ρ W hd => Mono.guard_val hd (t := 58) (k := 4) (by kernel_rfl) rfl) (fun ρ a W hR hd hf => ?hb6) ?_
        case hb6 =>
          have e6 := Mono.init_get hf (t := 6) (by kernel_rfl)
          clear hd hf
          (go_simp; try with_reducible rfl)
        refine Mono.rgl_valg (v := ?vb7) rfl Mono.rr (fun ρ W hd => Mono.guard_val hd (t := 58) (k := 4) (by kernel_rfl) rfl) (fun ρ a W hR hd hf => ?hb7) ?_
        case hb7 =>
          have e59 := Mono.dep_val hd hf (t := 59) (k := 5) (by kernel_rfl) rfl
          have e60 := Mono.dep_val hd hf (t := 60) (k := 6) (by kernel_rfl) rfl
          clear hd hf
          (go_simp; try with_reducible rfl)
        refine Mono.rgl_valg (v := ?vb8) rfl Mono.rr (fun ρ W hd => Mono.guard_val hd (t := 58) (k := 4) (by kernel_rfl) rfl) (fun ρ a W hR hd hf => ?hb8) ?_
        case hb8 =>
          have e61 := Mono.dep_val hd hf (t := 61) (k := 7) (by kernel_rfl) rfl
          have hk := k3.out W hR
          clear hd hf
          (go_simp; try with_reducible rfl)
        refine Mono.rgl_valg (v := ?vb9) rfl Mono.rr (fun ρ W hd => Mono.guard_val hd (t := 58) (k := 4) (by kernel_rfl) rfl) (fun ρ a W hR hd hf => ?hb9) ?_
        case hb9 =>
          have e0 := Mono.init_get hf (t := 0) (by kernel_rfl)
          clear hd hf
          (go_simp; try with_reducible rfl)
        refine Mono.rgl_valg (v := ?vb10) rfl Mono.rr (fun ρ W hd => Mono.guard_val hd (t := 58) (k := 4) (by kernel_rfl) rfl) (fun ρ a W hR hd hf => ?hb10) ?_
        case hb10 =>
          have e7 := Mono.init_get hf (t := 7) (by kernel_rfl)
          clear hd hf
          (go_simp; try with_reducible rfl)
        refine Mono.rgl_valg (v := ?vb11) rfl Mono.rr (fun ρ W hd => Mono.guard_val hd (t := 58) (k := 4) (by kernel_rfl) rfl) (fun ρ a W hR hd hf => ?hb11) ?_
        case hb11 =>
          have e63 := Mono.dep_val hd hf (t := 63) (k := 9) (by kernel_rfl) rfl
          have e64 := Mono.dep_val hd hf (t := 64) (k := 10) (by kernel_rfl) rfl
          clear hd hf
          (go_simp; try with_reducible rfl)
        refine Mono.rgl_valg (v := ?vb12) rfl Mono.rr (fun ρ W hd => Mono.guard_val hd (t := 58) (k := 4) (by kernel_rfl) rfl) (fun ρ a W hR hd hf => ?hb12) ?_
        case hb12 =>
          have e65 := Mono.dep_val hd hf (t := 65) (k := 11) (by kernel_rfl) rfl
          have hk := k4.out W hR
          clear hd hf
          (go_simp; try with_reducible rfl)
        refine Mono.rgl_callg (fun x _ => x = .bool true) rfl Mono.rr (fun _ _ _ h _ => h) (fun ρ W hd => Mono.guard_val hd (t := 58) (k := 4) (by kernel_rfl) rfl) (fun ρ a W hR hd hf => ?hb13) ?_
        case hb13 =>
          have e62 := Mono.dep_val hd hf (t := 62) (k := 8) (by kernel_rfl) rfl
          have e66 := Mono.dep_val hd hf (t := 66) (k := 12) (by kernel_rfl) rfl
          clear hd hf
          refine ⟨_, _, by go_simp; first | rfl | exact ⟨rfl, rfl⟩, ?_⟩
          exact (HSAME.out W).mono (by rintro e w' ⟨rfl, rfl⟩; exact ⟨_, rfl, Below.refl _ _, rfl⟩)
        refine Mono.rgl_valg (v := ?vb14) rfl Mono.rr (fun ρ W hd => Mono.guard_val hd (t := 58) (k := 4) (by kernel_rfl) rfl) (fun ρ a W hR hd hf => ?hb14) ?_
        case hb14 =>
          have e67 := Mono.dep_val hd hf (t := 67) (k := 13) (by kernel_rfl) rfl
          clear hd hf
          (go_simp; try with_reducible rfl)
        refine Mono.rgl_val (v := ?vb15) rfl Mono.rr (fun ρ a W hR hd hf => ?hb15) ?_
        case hb15 =>
          have e58 := Mono.dep_val hd hf (t := 58) (k := 4) (by kernel_rfl) rfl
          have e68 := Mono.dep_val hd hf (t := 68) (k := 14) (by kernel_rfl) rfl
          clear hd hf
          (go_simp; try with_reducible rfl)
        refine Mono.rgl_done rfl (fun ρ W hR ht => ?_)
        obtain ⟨db15, db14, db13, db12, db11, db10, db9, db8, db7, db6, db5, db4, db3, db2, db1, db0, _⟩ := ht
        simp only [List.length_cons, List.length_nil, Nat.reduceAdd] at db0 db1 db2 db3 db4 db5 db6 db7 db8 db9 db10 db11 db12 db13 db14 db15
        simp only [Mono.putAll, Nat.reduceAdd, db0, db1, db2, db3, db4, db5, db6, db7, db8, db9, db10, db11, db12, db13, db14, db15, Act.put, List.setIfInBounds_toArray, List.set_cons_zero, List.set_cons_succ]
        clear db0 db1 db2 db3 db4 db5 db6 db7 db8 db9 db10 db11 db12 db13 db14 db15

        have HBR7 := Lib.hid (HBR6.out.trans (hR.mono hz6))
        clear hR
        go_wp2_with (fail)
        go_roundw
        case rel => exact ⟨j + 1, m + 1, rfl, rfl, by omega, by omega, HY, HBR7⟩
        case measure => simp [intOf] <;> omega
      · have HY := Lib.hid (show m = (fins f (j + 1)).length by rw [fins_no (by rw [← Bool.not_eq_true]; exact fun h => hfin (hfi.1 h)), ← HMJ.out])
        by_cases hfin2 : 2 ≤ kk
        · have g1 : decide (2 ≤ kk) = true := decide_eq_true hfin2
          have g2 : decide (kk ≤ 5) = false := decide_eq_false (fun h => hfin ⟨hfin2, h⟩)
          clear hfi hfin
          go_wp2_with (go_at_call 14; refine (HCL.out _).mono ?_; rintro e w' ⟨rfl, rfl⟩)
          go_roundw
          case rel => exact ⟨j + 1, m, rfl, rfl, by omega, by omega, HY, HBR6⟩
          case measure => simp [intOf] <;> omega
        · have g1 : decide (2 ≤ kk) = false := decide_eq_false hfin2
          clear hfi hfin
          go_wp2_with (go_at_call 14; refine (HCL.out _).mono ?_; rintro e w' ⟨rfl, rfl⟩)
          go_roundw
          case rel => exact ⟨j + 1, m, rfl, rfl, by omega, by omega, HY, HBR6⟩
          case measure => simp [intOf] <;> omega
    · have d1 : decide (j < n) = false := decide_eq_false hlt
      have d2 : decide ((j : Int) < (n : Int)) = false := decide_eq_false (by omega)
      obtain rfl : j = n := by omega
      obtain rfl : m = M := by rw [← HM.out]; exact HMJ.out
      clear HMJ hlt
      have HSU := Lib.hid (refSum_any j f (.slice a j cap) w.heap.size w5 (HS.out w5 HZ5.out) HZ5.out.size (by omega))
      go_wp2_with (fail)
      refine HSU.out.mono ?_
      rintro e w6 ⟨s, rfl, hsi, hb6⟩
      have HSI := Lib.hid hsi
      have HBR6 := Lib.hid (HBR.out.trans (hb6.mono hz5))
      have HZ6 := Lib.hid (HZ4.out.trans (HBR6.out.mono hz4))
      clear hsi hb6 HSU HBR HZ5
      have hz6 := HBR6.out.size
      have HSUM := Lib.hid (fun (W : World) (hW : Below w4.heap.size w4 W) => sum_any j f (.slice a j cap) w.heap.size W (HS.out W (HZ4.out.trans (hW.mono hz4))) ((HZ4.out.trans (hW.mono hz4)).size) (by omega))
      have HMEAN := Lib.hid (fun (W : World) (hW : Below w4.heap.size w4 W) => mean_any j f (.slice a j cap) w.heap.size W (HS.out W (HZ4.out.trans (hW.mono hz4))) ((HZ4.out.trans (hW.mono hz4)).size) (by omega))
      by_cases h0 : j = 0
      · have H0 := Lib.hid h0
        have HMED : Hid (Calls Try.prog 23 #[.slice a j cap] w6 fun e w' => ∃ v, e = .returned (.float .f64 v) ∧ nan v = true ∧ v < 18446744073709551616 ∧ w' = w6) := Lib.hid (by obtain rfl := H0.out; exact median_zero a cap w6)
        have t1 : ((j : Int) == 0) = true := by simp [h0]
        clear h0
        go_wp2_with (fail)
        refine HMED.out.mono ?_
        rintro e w' ⟨md, rfl, n1, b1, rfl⟩
        have HCLM := Lib.hid (fun W => refClass_any md b1 W)
        rw [cls_of_nan n1] at HCLM
        clear n1 b1 HMED
        obtain ⟨w6, rfl⟩ : ∃ z : World, z = w' := ⟨_, rfl⟩
        go_wp2_with (fail)
        refine (HSUM.out _ HBR6.out).mono ?_
        rintro e w7 ⟨s7, rfl, hi7, hb7⟩
        have HEQ7 := Lib.hid (same_eq s7 s (hi7.eq HSI.out))
        have HBR7 := Lib.hid (HBR6.out.trans (hb7.mono hz6))
        clear hi7 hb7 HBR6
        go_wp2_with (fail)
        refine (HEQ7.out _).mono ?_
        rintro e w' ⟨rfl, rfl⟩
        go_wp2_with (fail)
        obtain ⟨w7, rfl⟩ : ∃ z : World, z = w' := ⟨_, rfl⟩
        refine (HMEAN.out _ HBR7.out).mono ?_
        rintro e w8 ⟨s8, rfl, hi8, hb8⟩
        obtain ⟨s9, w9, hi9, hb9, hr9⟩ := HSI.out.mean w8
        have HEQ9 := Lib.hid (same_eq s8 s9 (hi8.eq hi9))
        have HBR9 := Lib.hid ((HBR7.out.trans (hb8.mono HBR7.out.size)).trans (hb9.mono (HBR7.out.trans (hb8.mono HBR7.out.size)).size))
        have HZ9 := Lib.hid (HZ4.out.trans (HBR9.out.mono hz4))
        clear hi8 hi9 hb8 hb9 HBR7
        go_wp2_with (fail)
        refine (HEQ9.out _).mono ?_
        rintro e w' ⟨rfl, rfl⟩
        go_wp2_with (go_at_call 14; refine (HCLM.out _).mono ?_; rintro e w' ⟨rfl, rfl⟩)
        go_ret
        exact ⟨by rfl, HZ9.out⟩
      · have HMED := Lib.hid (median_any j f (.slice a j cap) w.heap.size w6 (HS.out w6 HZ6.out) HZ6.out.size (by omega) (by omega))
        have t1 : ((j : Int) == 0) = false := by simpa using h0
        have t2 : decide ((0 : Int) < (j : Int)) = true := decide_eq_true (by omega)
        have q1 : IntKind.i64.wrap ((j : Int) - 1) = ((j - 1 : Nat) : Int) := by rw [IntWalk.i64_in _ (by omega)]; omega
        have q2 : IntKind.i64.wrap (((j - 1 : Nat) : Int).tdiv 2) = (((j - 1) / 2 : Nat) : Int) := by rw [show ((j - 1 : Nat) : Int).tdiv 2 = (((j - 1) / 2 : Nat) : Int) from rfl, IntWalk.i64_in _ (by omega)]
        have hml : (j - 1) / 2 < j := by omega
        go_wp2_with (fail)
        refine HMED.out.mono ?_
        rintro e w7 ⟨gc, rfl, htc, hwc, hb7⟩
        have HEQM : Hid (EQ (gc ((j - 1) / 2)).1 (gb ((j - 1) / 2)).1) := Lib.hid (srt_EQ htc HTB.out (fun p => by rw [hwc.cnt p j (Nat.le_refl _), HCB.out p]) _ hml)
        have HBR6 := Lib.hid (HBR6.out.trans (hb7.mono hz6))
        have HZ6 := Lib.hid (HZ4.out.trans (HBR6.out.mono hz4))
        have hz6 := HBR6.out.size
        have HSM := Lib.hid (same_eq (gc ((j - 1) / 2)).1 (gb ((j - 1) / 2)).1 HEQM.out)
        generalize hmi : (j - 1) / 2 = mi at *
        have hmI : (mi : Int) < (j : Int) := by omega
        clear htc hwc hb7 HMED HEQM
        obtain ⟨w6, rfl⟩ : ∃ z : World, z = w7 := ⟨_, rfl⟩
        go_wp2_with (fail)
        refine (HSUM.out _ HBR6.out).mono ?_
        rintro e w7 ⟨s7, rfl, hi7, hb7⟩
        have HEQ7 := Lib.hid (same_eq s7 s (hi7.eq HSI.out))
        have HBR7 := Lib.hid (HBR6.out.trans (hb7.mono hz6))
        clear hi7 hb7 HBR6
        go_wp2_with (fail)
        refine (HEQ7.out _).mono ?_
        rintro e w' ⟨rfl, rfl⟩
        go_wp2_with (fail)
        obtain ⟨w7, rfl⟩ : ∃ z : World, z = w' := ⟨_, rfl⟩
        refine (HMEAN.out _ HBR7.out).mono ?_
        rintro e w8 ⟨s8, rfl, hi8, hb8⟩
        obtain ⟨s9, w9, hi9, hb9, hr9⟩ := HSI.out.mean w8
        have HEQ9 := Lib.hid (same_eq s8 s9 (hi8.eq hi9))
        have HBR9 := Lib.hid ((HBR7.out.trans (hb8.mono HBR7.out.size)).trans (hb9.mono (HBR7.out.trans (hb8.mono HBR7.out.size)).size))
        have HZ9 := Lib.hid (HZ4.out.trans (HBR9.out.mono hz4))
        clear hi8 hi9 hb8 hb9 HBR7
        go_wp2_with (fail)
        refine (HEQ9.out _).mono ?_
        rintro e w' ⟨rfl, rfl⟩
        obtain ⟨b2, off2, rfl, hk2⟩ := sl_cells (HSB.out w' HBR9.out) (by omega)
        have k2 := hk2 mi _ (fcells_get gb hml)
        clear hk2
        go_wp2_with (go_at_call 9; refine (HSM.out _).mono ?_; rintro e w' ⟨rfl, rfl⟩)
        go_ret
        exact ⟨by rfl, HZ9.out⟩
end Go.Proofs.Ytpjjfkogcfdnkaa
