/- The walk of RatioTurned. -/
import Derived.Test.YtpjjfkogcfdnkaaRtA
import Derived.Test.YtpjjfkogcfdnkaaRatI
namespace Go.Proofs.Ytpjjfkogcfdnkaa
set_option maxRecDepth 100000
set_option linter.unusedVariables false
set_option linter.unusedSimpArgs false
open Go.RowKit Flo
def revF (n : Nat) (f : Nat → El) : Nat → El := fun k => f (n - 1 - k)
theorem clampF_ok (x : Nat) : ((FloatKind.f64.format.order (clampF x) 0 == some Ordering.gt) = true ∨ (FloatKind.f64.format.order (clampF x) 0 == some Ordering.eq) = true) ∧
    ((FloatKind.f64.format.order (clampF x) 4607182418800017408 == some Ordering.lt) = true ∨ (FloatKind.f64.format.order (clampF x) 4607182418800017408 == some Ordering.eq) = true) ∧ cls (clampF x) ≠ 3 := by
  unfold clampF
  split
  · exact ⟨.inl (by decide), .inr (by decide), by decide⟩
  · rename_i h1
    split
    · rename_i h2
      unfold G at h1 h2
      have h3 := gt_tab x 4607182418800017408
      have h4 := lt_tab x 4607182418800017408
      have h5 := eq_tab x 4607182418800017408
      have h6 := gt_tab x 0
      have n1 : nan 4607182418800017408 = false := by decide
      refine ⟨.inl h2, ?_, ?_⟩
      · rw [h6] at h2
        simp only [Bool.and_eq_true, Bool.not_eq_true', decide_eq_true_eq] at h2
        rw [h3, h2.1.1, n1] at h1
        simp only [Bool.not_false, Bool.and_true, Bool.true_and, decide_eq_true_eq] at h1
        rw [h4, h5, h2.1.1, n1]
        simp only [Bool.not_false, Bool.and_true, Bool.true_and, decide_eq_true_eq]
        omega
      · have h7 := cls_gt x
        rw [h7, decide_eq_true_iff] at h2
        omega
    · exact ⟨.inr (by decide), .inl (by decide), by decide⟩
theorem ge_run (x y : Nat) (w : World) (h : (FloatKind.f64.format.order x y == some Ordering.gt) = true ∨ (FloatKind.f64.format.order x y == some Ordering.eq) = true) : (binOp .geq 23 (.float .f64 x) (.float .f64 y)).run Try.prog w = .ok (.bool true) w := by
  rcases h with h | h
  all_goals
    rw [beq_iff_eq] at h
    simp [binOp, Op.floatCmp, h]
theorem le_run (x y : Nat) (w : World) (h : (FloatKind.f64.format.order x y == some Ordering.lt) = true ∨ (FloatKind.f64.format.order x y == some Ordering.eq) = true) : (binOp .leq 23 (.float .f64 x) (.float .f64 y)).run Try.prog w = .ok (.bool true) w := by
  rcases h with h | h
  all_goals
    rw [beq_iff_eq] at h
    simp [binOp, Op.floatCmp, h]
set_option maxHeartbeats 8000000 in
theorem turned_walk (n : Nat) (f : Nat → El) (v : Value) (w : World) (hS : Sl w w.heap.size 1 v n (fcells n f)) (hm : n ≤ maxLen) :
    Calls Try.prog 5 #[v] w fun e w' => e = .returned (.bool true) ∧ Below w.heap.size w w' := by
  unfold maxLen at hm
  obtain ⟨a, cap, rfl, hcap⟩ := hS.form
  have HS := Lib.hid (fun (W : World) (hW : Below w.heap.size w W) => hS.below hW)
  have HB := Lib.hid (below_drewN (Below.refl w.heap.size w) 1)
  clear hS
  go_enter Try.func5, Try.ntmps5
  go_wp2_with (fail)
  refine (awake_any w).mono ?_
  rintro e w1 ⟨rfl, rfl⟩
  generalize w.drewN 1 = w1 at *
  by_cases hlong : 60 < n
  · have d1 : decide (60 < n) = true := decide_eq_true hlong
    have d2 : decide ((60 : Int) < (n : Int)) = true := decide_eq_true (by omega)
    clear hlong
    go_wp2_with (fail)
    go_ret
    exact ⟨by rfl, HB.out⟩
  have d1 : decide (60 < n) = false := decide_eq_false hlong
  have d2 : decide ((60 : Int) < (n : Int)) = false := decide_eq_false (by omega)
  have q0 : IntKind.i64.wrap ((n : Int) - 1) = (n : Int) - 1 := IntWalk.i64_in _ (by omega)
  have hz1 := HB.out.size
  go_wp2_with (fail)
  go_loopw [3, 4] (fun bv i wr => ∃ (j : Nat) (x : Int), i = .int .i64 x ∧ x = (j : Int) - 1 ∧ j ≤ n ∧ Hid (Row w1.heap.size 23 1 wr bv (n - j) (fcells (n - j) (revF n f))) ∧ Hid (Below w1.heap.size w1 wr)) (fun _ i _ => (intOf i + 1).toNat)
  case atStart => exact ⟨n, (n : Int) - 1, rfl, rfl, Nat.le_refl _, Lib.hid (by rw [Nat.sub_self]; exact Row.nil), Lib.hid (Below.refl _ _)⟩
  case round =>
    obtain ⟨j, x, rfl, hx, hj, HR, HB1⟩ := hrel
    obtain ⟨wo, rfl⟩ : ∃ z : World, z = wr := ⟨_, rfl⟩
    have HZ := Lib.hid (HB.out.trans (HB1.out.mono hz1))
    obtain ⟨ba, bc, rfl, hbc⟩ := HR.out.form
    by_cases hlt : 0 < j
    · as_aux_lemma =>
      have d3 : decide ((0 : Int) ≤ x) = true := decide_eq_true (by omega)
      obtain ⟨p, rfl⟩ : ∃ p, j = p + 1 := ⟨j - 1, by omega⟩
      obtain rfl : x = (p : Int) := by omega
      have hpn : p < n := by omega
      have hpn' : (p : Int) < (n : Int) := by omega
      obtain ⟨b, off, rfl, hk0⟩ := sl_cells (HS.out wo HZ.out) (by omega)
      have k1 := hk0 p _ (fcells_get f hpn)
      have q1 : IntKind.i64.wrap ((p : Int) - 1) = (p : Int) - 1 := IntWalk.i64_in _ (by omega)
      obtain ⟨z1, hz1'⟩ : ∃ z, enc (f p) = .float .f64 z := ⟨_, rfl⟩
      rw [hz1'] at k1
      have hA2 := (Below.refl wo.heap.size wo).alloc (Nat.le_refl _) (.cells #[.float .f64 z1] 23)
      have HR := Lib.hid (HR.out.below hA2)
      have hz2 : w1.heap.size ≤ wo.heap.size := HB1.out.size
      have HB2 := Lib.hid (HB1.out.trans (hA2.mono hz2))
      have e1 : fcells (n - p) (revF n f) = fcells (n - (p + 1)) (revF n f) ++ [.float .f64 z1] := by
        rw [← hz1', show n - p = n - (p + 1) + 1 by omega, fcells_succ]
        unfold revF
        rw [show n - 1 - (n - (p + 1)) = p by omega]
      have HE1 := Lib.hid e1
      have hnp : n - p = n - (p + 1) + 1 := by omega
      have HNP := Lib.hid hnp
      have hmb : n - (p + 1) ≤ 60 := by omega
      clear hA2 HB1 e1 hk0 hnp hx d1 d2 q0 hlong hz1'
      generalize n - (p + 1) = m at *
      go_wp2_with (at_builtin; refine append_row Try.underlying32 info_f64 rfl (by decide) rfl _ _ rfl rfl HR.out rfl (Sl.new _ 1 1 [.float .f64 z1] 23 rfl) (by intro u hu; simp at hu; subst hu; rfl) ?_ ?_ ?_ ?_; omega; omega; (simp; omega))
      intro v7 w7 hr7 hb7
      have HR7 : Hid (Row w1.heap.size 23 1 w7 v7 (n - p) (fcells (n - p) (revF n f))) := Lib.hid (by
        rw [HE1.out, HNP.out]
        exact hr7)
      have HB7 := Lib.hid (HB2.out.trans hb7)
      clear hr7 hb7
      go_wp2_with (fail)
      go_roundw
      case rel => exact ⟨p, _, rfl, rfl, by omega, HR7, HB7⟩
      case measure => simp [intOf] <;> omega
    · have d3 : decide ((0 : Int) ≤ x) = false := decide_eq_false (by omega)
      obtain rfl : j = 0 := by omega
      have hsl := HR.out.sl
      rw [Nat.sub_zero] at hsl ⊢
      have HA := Lib.hid (sort_any n f (.slice a n cap) w.heap.size wo (HS.out wo HZ.out) HZ.out.size (by omega))
      have HSB := Lib.hid (fun (W : World) (hW : Below wo.heap.size wo W) => sort_any n (revF n f) (.slice ba n bc) wo.heap.size W (hsl.below hW) hW.size (by omega))
      clear hsl HR hlt hx
      go_wp2_with (fail)
      refine HA.out.mono ?_
      rintro e w2 ⟨va, ga, rfl, hsa, hta, hwa, hba⟩
      obtain ⟨aa, ac, rfl, hac⟩ := hsa.form
      have HBB := Lib.hid (HSB.out w2 hba)
      have HZ := Lib.hid (HZ.out.trans (hba.mono HZ.out.size))
      have HSA := Lib.hid (fun (W : World) (hW : Below w2.heap.size w2 W) => hsa.below hW)
      have HTA := Lib.hid hta
      have HWA := Lib.hid hwa
      clear hsa hta hwa hba HA HSB
      go_wp2_with (fail)
      refine HBB.out.mono ?_
      rintro e w3 ⟨vb, gb, rfl, hsb, htb, hwb, hbb⟩
      obtain ⟨bba, bbc, rfl, hbbc⟩ := hsb.form
      have HSA := Lib.hid (fun (W : World) (hW : Below w3.heap.size w3 W) => HSA.out W (hbb.trans (hW.mono hbb.size)))
      have HSB := Lib.hid (fun (W : World) (hW : Below w3.heap.size w3 W) => hsb.below hW)
      have HZ := Lib.hid (HZ.out.trans (hbb.mono HZ.out.size))
      have hcn : ∀ p : El → Bool, cnt p ga n = cnt p gb n := fun p => by
        rw [HWA.out.cnt p n (Nat.le_refl _), hwb.cnt p n (Nat.le_refl _)]
        exact cnt_rev p f n
      have HEQ : Hid (∀ i, i < n → cmpF (ga i).1 (gb i).1 = 0) := Lib.hid (fun i hi => by
        have h1 : leF (ga i) (gb i) := srt_same ordF HTA.out htb hcn i hi
        have h2 : leF (gb i) (ga i) := srt_same ordF htb HTA.out (fun p => (hcn p).symm) i hi
        unfold leF at h1 h2
        have := cmpF_anti (ga i).1 (gb i).1
        omega)
      have hz3 := HZ.out.size
      clear hsb htb hwb hbb HBB hcn HWA d1 d2 q0 d3
      go_wp2_with (fail)
      go_loopw [7, 8] (fun i _ wr => ∃ j : Nat, i = .int .i64 j ∧ j ≤ n ∧ Hid (Below w3.heap.size w3 wr)) (fun i _ _ => n - (intOf i).toNat)
      case atStart => exact ⟨0, rfl, by omega, Lib.hid (Below.refl _ _)⟩
      case round =>
        obtain ⟨i, rfl, hi, HBR⟩ := hrel
        obtain ⟨w4, rfl⟩ : ∃ z : World, z = wr := ⟨_, rfl⟩
        have HZ4 := Lib.hid (HZ.out.trans (HBR.out.mono hz3))
        by_cases hlt : i < n
        rotate_left
        · have d1 : decide (i < n) = false := decide_eq_false hlt
          have d2 : decide ((i : Int) < (n : Int)) = false := decide_eq_false (by omega)
          go_wp2_with (fail)
          go_ret
          exact ⟨by rfl, HZ4.out⟩
        have d1 : decide (i < n) = true := decide_eq_true hlt
        have d2 : decide ((i : Int) < (n : Int)) = true := decide_eq_true (by omega)
        have q1 : IntKind.i64.wrap ((i : Int) + 1) = (i : Int) + 1 := IntWalk.i64_in _ (by omega)
        obtain ⟨b, off, rfl, hk0⟩ := sl_cells (HS.out w4 HZ4.out) (by omega)
        obtain ⟨b1, off1, rfl, hk1⟩ := sl_cells (HSA.out w4 HBR.out) (by omega)
        obtain ⟨b2, off2, rfl, hk2⟩ := sl_cells (HSB.out w4 HBR.out) (by omega)
        clear hk0 hk1 hk2
        have k0 : Hid (∀ W, Below w4.heap.size w4 W → W.cell? ⟨b, off + i, none⟩ = some (enc (f i))) := Lib.hid (fun W hW => sl_same (HS.out W (HZ4.out.trans (hW.mono HZ4.out.size))) (by omega) _ _ (fcells_get f hlt))
        have k1 : Hid (∀ W, Below w4.heap.size w4 W → W.cell? ⟨b1, off1 + i, none⟩ = some (enc (ga i))) := Lib.hid (fun W hW => sl_same (HSA.out W (HBR.out.trans (hW.mono HBR.out.size))) (by omega) _ _ (fcells_get ga hlt))
        have k2 : Hid (∀ W, Below w4.heap.size w4 W → W.cell? ⟨b2, off2 + i, none⟩ = some (enc (gb i))) := Lib.hid (fun W hW => sl_same (HSB.out W (HBR.out.trans (hW.mono HBR.out.size))) (by omega) _ _ (fcells_get gb hlt))
        have HC1 := Lib.hid (fun W : World => compare_any (ga i).1 (gb i).1 (ga i).2 (gb i).2 W)
        rw [HEQ.out i hlt] at HC1
        have HCL := Lib.hid (clamp_any (f i).1)
        have hok := clampF_ok (f i).1
        have hlt2 := clampF_lt (f i).1 (f i).2
        have HGE := Lib.hid hok.1
        have HLE := Lib.hid hok.2.1
        have HCLS := Lib.hid (class_any (clampF (f i).1) hlt2)
        have hne3 : (cls (clampF (f i).1) == 3) = false := by simpa using hok.2.2
        clear hok hlt2
        generalize cls (clampF (f i).1) = kk at *
        generalize clampF (f i).1 = cl at *
        have hbi : (i : Int) < (n : Int) := by omega
        by_cases hpos : 0 < i
        · obtain ⟨p, rfl⟩ : ∃ p, i = p + 1 := ⟨i - 1, by omega⟩
          have d3 : decide ((0 : Int) < (p : Int) + 1) = true := decide_eq_true (by omega)
          have hpn : p < n := by omega
          have hpn' : (p : Int) < (n : Int) := by omega
          have hpn2 : (p : Int) + 1 < (n : Int) := by omega
          have q2 : IntKind.i64.wrap ((p : Int) + 1 - 1) = (p : Int) := by rw [IntWalk.i64_in _ (by omega)]; omega
          have q3 : IntKind.i64.wrap (p : Int) = (p : Int) := IntWalk.i64_in _ (by omega)
          have e0 : ((p : Int) + 1).toNat = p + 1 := by omega
          have p0 : (0 : Int) ≤ (p : Int) + 1 := by omega
          have k3 : Hid (∀ W, Below w4.heap.size w4 W → W.cell? ⟨b1, off1 + p, none⟩ = some (enc (ga p))) := Lib.hid (fun W hW => sl_same (HSA.out W (HBR.out.trans (hW.mono HBR.out.size))) (by omega) _ _ (fcells_get ga hpn))
          have HC2 := Lib.hid (fun W : World => compare_any (ga p).1 (ga (p + 1)).1 (ga p).2 (ga (p + 1)).2 W)
          have hcc : decide (0 < cmpF (ga p).1 (ga (p + 1)).1) = false := decide_eq_false (by
            have : leF (ga p) (ga (p + 1)) := HTA.out p (p + 1) (Nat.zero_le _) (by omega) hlt
            unfold leF at this
            omega)
          generalize cmpF (ga p).1 (ga (p + 1)).1 = cc at *
          go_upto_region 16 with (fail)
          refine Mono.region_below (by kernel_rfl) (by kernel_rfl) (by kernel_rfl) ?_
          refine Mono.rgl_val (v := ?vy0) rfl Mono.rr (fun ρ a W hR hd hf => ?hy0) ?_
          case hy0 =>
            have e5 := Mono.init_get hf (t := 5) (by kernel_rfl)
            clear hd hf
            (go_simp; try with_reducible rfl)
          refine Mono.rgl_val (v := ?vy1) rfl Mono.rr (fun ρ a W hR hd hf => ?hy1) ?_
          case hy1 =>
            have e7 := Mono.init_get hf (t := 7) (by kernel_rfl)
            clear hd hf
            (go_simp; try with_reducible rfl)
          refine Mono.rgl_val (v := ?vy2) rfl Mono.rr (fun ρ a W hR hd hf => ?hy2) ?_
          case hy2 =>
            have e50 := Mono.dep_val hd hf (t := 50) (k := 0) (by kernel_rfl) rfl
            have e51 := Mono.dep_val hd hf (t := 51) (k := 1) (by kernel_rfl) rfl
            clear hd hf
            (go_simp; try with_reducible rfl)
          refine Mono.rgl_val (v := ?vy3) rfl Mono.rr (fun ρ a W hR hd hf => ?hy3) ?_
          case hy3 =>
            have e52 := Mono.dep_val hd hf (t := 52) (k := 2) (by kernel_rfl) rfl
            have hk := k1.out W hR
            clear hd hf
            (go_simp; try with_reducible rfl)
          refine Mono.rgl_val (v := ?vy4) rfl Mono.rr (fun ρ a W hR hd hf => ?hy4) ?_
          case hy4 =>
            have e6 := Mono.init_get hf (t := 6) (by kernel_rfl)
            clear hd hf
            (go_simp; try with_reducible rfl)
          refine Mono.rgl_val (v := ?vy5) rfl Mono.rr (fun ρ a W hR hd hf => ?hy5) ?_
          case hy5 =>
            have e7 := Mono.init_get hf (t := 7) (by kernel_rfl)
            clear hd hf
            (go_simp; try with_reducible rfl)
          refine Mono.rgl_val (v := ?vy6) rfl Mono.rr (fun ρ a W hR hd hf => ?hy6) ?_
          case hy6 =>
            have e54 := Mono.dep_val hd hf (t := 54) (k := 4) (by kernel_rfl) rfl
            have e55 := Mono.dep_val hd hf (t := 55) (k := 5) (by kernel_rfl) rfl
            clear hd hf
            (go_simp; try with_reducible rfl)
          refine Mono.rgl_val (v := ?vy7) rfl Mono.rr (fun ρ a W hR hd hf => ?hy7) ?_
          case hy7 =>
            have e56 := Mono.dep_val hd hf (t := 56) (k := 6) (by kernel_rfl) rfl
            have hk := k2.out W hR
            clear hd hf
            (go_simp; try with_reducible rfl)
          refine Mono.rgl_call (fun x _ => x = .int .i64 0) rfl Mono.rr (fun _ _ _ h _ => h) (fun ρ a W hR hd hf => ?hy8) ?_
          case hy8 =>
            have e53 := Mono.dep_val hd hf (t := 53) (k := 3) (by kernel_rfl) rfl
            have e57 := Mono.dep_val hd hf (t := 57) (k := 7) (by kernel_rfl) rfl
            clear hd hf
            refine ⟨_, _, by go_simp; first | rfl | exact ⟨rfl, rfl⟩, ?_⟩
            exact (HC1.out W).mono (by rintro e w' ⟨rfl, rfl⟩; exact ⟨_, rfl, Below.refl _ _, rfl⟩)
          refine Mono.rgl_val (v := ?vy9) rfl Mono.rr (fun ρ a W hR hd hf => ?hy9) ?_
          case hy9 =>
            have e58 := Mono.dep_val hd hf (t := 58) (k := 8) (by kernel_rfl) rfl
            clear hd hf
            (go_simp; try with_reducible rfl)
          refine Mono.rgl_val (v := ?vy10) rfl Mono.rr (fun ρ a W hR hd hf => ?hy10) ?_
          case hy10 =>
            have e59 := Mono.dep_val hd hf (t := 59) (k := 9) (by kernel_rfl) rfl
            clear hd hf
            (go_simp; try with_reducible rfl)
          refine Mono.rgl_valg (v := ?vy11) rfl Mono.rr (fun ρ W hd => Mono.guard_val hd (t := 60) (k := 10) (by kernel_rfl) rfl) (fun ρ a W hR hd hf => ?hy11) ?_
          case hy11 =>
            have e7 := Mono.init_get hf (t := 7) (by kernel_rfl)
            clear hd hf
            (go_simp; try with_reducible rfl)
          refine Mono.rgl_valg (v := ?vy12) rfl Mono.rr (fun ρ W hd => Mono.guard_val hd (t := 60) (k := 10) (by kernel_rfl) rfl) (fun ρ a W hR hd hf => ?hy12) ?_
          case hy12 =>
            have e61 := Mono.dep_val hd hf (t := 61) (k := 11) (by kernel_rfl) rfl
            clear hd hf
            (go_simp; try with_reducible rfl)
          refine Mono.rgl_valg (v := ?vy13) rfl Mono.rr (fun ρ W hd => Mono.guard_val hd (t := 60) (k := 10) (by kernel_rfl) rfl) (fun ρ a W hR hd hf => ?hy13) ?_
          case hy13 =>
            have e62 := Mono.dep_val hd hf (t := 62) (k := 12) (by kernel_rfl) rfl
            clear hd hf
            (go_simp; try with_reducible rfl)
          refine Mono.rgl_valg (v := ?vy14) rfl Mono.rr (fun ρ W hd => Mono.guard_val hd (t := 63) (k := 13) (by kernel_rfl) rfl) (fun ρ a W hR hd hf => ?hy14) ?_
          case hy14 =>
            have e5 := Mono.init_get hf (t := 5) (by kernel_rfl)
            clear hd hf
            (go_simp; try with_reducible rfl)
          refine Mono.rgl_valg (v := ?vy15) rfl Mono.rr (fun ρ W hd => Mono.guard_val hd (t := 63) (k := 13) (by kernel_rfl) rfl) (fun ρ a W hR hd hf => ?hy15) ?_
          case hy15 =>
            have e7 := Mono.init_get hf (t := 7) (by kernel_rfl)
            clear hd hf
            (go_simp; try with_reducible rfl)
          refine Mono.rgl_valg (v := ?vy16) rfl Mono.rr (fun ρ W hd => Mono.guard_val hd (t := 63) (k := 13) (by kernel_rfl) rfl) (fun ρ a W hR hd hf => ?hy16) ?_
          case hy16 =>
            have e65 := Mono.dep_val hd hf (t := 65) (k := 15) (by kernel_rfl) rfl
            clear hd hf
            (go_simp; try with_reducible rfl)
          refine Mono.rgl_valg (v := ?vy17) rfl Mono.rr (fun ρ W hd => Mono.guard_val hd (t := 63) (k := 13) (by kernel_rfl) rfl) (fun ρ a W hR hd hf => ?hy17) ?_
          case hy17 =>
            have e64 := Mono.dep_val hd hf (t := 64) (k := 14) (by kernel_rfl) rfl
            have e66 := Mono.dep_val hd hf (t := 66) (k := 16) (by kernel_rfl) rfl
            clear hd hf
            (go_simp; try with_reducible rfl)
          refine Mono.rgl_valg (v := ?vy18) rfl Mono.rr (fun ρ W hd => Mono.guard_val hd (t := 63) (k := 13) (by kernel_rfl) rfl) (fun ρ a W hR hd hf => ?hy18) ?_
          case hy18 =>
            have e67 := Mono.dep_val hd hf (t := 67) (k := 17) (by kernel_rfl) rfl
            have hk := k3.out W hR
            clear hd hf
            (go_simp; try with_reducible rfl)
          refine Mono.rgl_valg (v := ?vy19) rfl Mono.rr (fun ρ W hd => Mono.guard_val hd (t := 63) (k := 13) (by kernel_rfl) rfl) (fun ρ a W hR hd hf => ?hy19) ?_
          case hy19 =>
            have e5 := Mono.init_get hf (t := 5) (by kernel_rfl)
            clear hd hf
            (go_simp; try with_reducible rfl)
          refine Mono.rgl_valg (v := ?vy20) rfl Mono.rr (fun ρ W hd => Mono.guard_val hd (t := 63) (k := 13) (by kernel_rfl) rfl) (fun ρ a W hR hd hf => ?hy20) ?_
          case hy20 =>
            have e7 := Mono.init_get hf (t := 7) (by kernel_rfl)
            clear hd hf
            (go_simp; try with_reducible rfl)
          refine Mono.rgl_valg (v := ?vy21) rfl Mono.rr (fun ρ W hd => Mono.guard_val hd (t := 63) (k := 13) (by kernel_rfl) rfl) (fun ρ a W hR hd hf => ?hy21) ?_
          case hy21 =>
            have e69 := Mono.dep_val hd hf (t := 69) (k := 19) (by kernel_rfl) rfl
            have e70 := Mono.dep_val hd hf (t := 70) (k := 20) (by kernel_rfl) rfl
            clear hd hf
            (go_simp; try with_reducible rfl)
          refine Mono.rgl_valg (v := ?vy22) rfl Mono.rr (fun ρ W hd => Mono.guard_val hd (t := 63) (k := 13) (by kernel_rfl) rfl) (fun ρ a W hR hd hf => ?hy22) ?_
          case hy22 =>
            have e71 := Mono.dep_val hd hf (t := 71) (k := 21) (by kernel_rfl) rfl
            have hk := k1.out W hR
            clear hd hf
            (go_simp; try with_reducible rfl)
          refine Mono.rgl_callg (fun x _ => x = .int .i64 cc) rfl Mono.rr (fun _ _ _ h _ => h) (fun ρ W hd => Mono.guard_val hd (t := 63) (k := 13) (by kernel_rfl) rfl) (fun ρ a W hR hd hf => ?hy23) ?_
          case hy23 =>
            have e68 := Mono.dep_val hd hf (t := 68) (k := 18) (by kernel_rfl) rfl
            have e72 := Mono.dep_val hd hf (t := 72) (k := 22) (by kernel_rfl) rfl
            clear hd hf
            refine ⟨_, _, by go_simp; first | rfl | exact ⟨rfl, rfl⟩, ?_⟩
            exact (HC2.out W).mono (by rintro e w' ⟨rfl, rfl⟩; exact ⟨_, rfl, Below.refl _ _, rfl⟩)
          refine Mono.rgl_valg (v := ?vy24) rfl Mono.rr (fun ρ W hd => Mono.guard_val hd (t := 63) (k := 13) (by kernel_rfl) rfl) (fun ρ a W hR hd hf => ?hy24) ?_
          case hy24 =>
            have e73 := Mono.dep_val hd hf (t := 73) (k := 23) (by kernel_rfl) rfl
            clear hd hf
            (go_simp; try with_reducible rfl)
          refine Mono.rgl_valg (v := ?vy25) rfl Mono.rr (fun ρ W hd => Mono.guard_val hd (t := 60) (k := 10) (by kernel_rfl) rfl) (fun ρ a W hR hd hf => ?hy25) ?_
          case hy25 =>
            have e63 := Mono.dep_val hd hf (t := 63) (k := 13) (by kernel_rfl) rfl
            have e74 := Mono.dep_val hd hf (t := 74) (k := 24) (by kernel_rfl) rfl
            clear hd hf
            (go_simp; try with_reducible rfl)
          refine Mono.rgl_val (v := ?vy26) rfl Mono.rr (fun ρ a W hR hd hf => ?hy26) ?_
          case hy26 =>
            have e60 := Mono.dep_val hd hf (t := 60) (k := 10) (by kernel_rfl) rfl
            have e75 := Mono.dep_val hd hf (t := 75) (k := 25) (by kernel_rfl) rfl
            clear hd hf
            (go_simp; try with_reducible rfl)
          refine Mono.rgl_done rfl (fun ρ W hR ht => ?_)
          obtain ⟨dy26, dy25, dy24, dy23, dy22, dy21, dy20, dy19, dy18, dy17, dy16, dy15, dy14, dy13, dy12, dy11, dy10, dy9, dy8, dy7, dy6, dy5, dy4, dy3, dy2, dy1, dy0, _⟩ := ht
          simp only [List.length_cons, List.length_nil, Nat.reduceAdd] at dy0 dy1 dy2 dy3 dy4 dy5 dy6 dy7 dy8 dy9 dy10 dy11 dy12 dy13 dy14 dy15 dy16 dy17 dy18 dy19 dy20 dy21 dy22 dy23 dy24 dy25 dy26
          simp only [Mono.putAll, Nat.reduceAdd, dy0, dy1, dy2, dy3, dy4, dy5, dy6, dy7, dy8, dy9, dy10, dy11, dy12, dy13, dy14, dy15, dy16, dy17, dy18, dy19, dy20, dy21, dy22, dy23, dy24, dy25, dy26, Act.put, List.setIfInBounds_toArray, List.set_cons_zero, List.set_cons_succ]
          clear dy0 dy1 dy2 dy3 dy4 dy5 dy6 dy7 dy8 dy9 dy10 dy11 dy12 dy13 dy14 dy15 dy16 dy17 dy18 dy19 dy20 dy21 dy22 dy23 dy24 dy25 dy26
          have HBR := Lib.hid (HBR.out.trans (hR.mono HBR.out.size))
          have k0' := k0.out W hR
          clear hR
          rcases HGE.out with h1 | h1 <;> rcases HLE.out with h2 | h2 <;> rw [beq_iff_eq] at h1 h2
          all_goals
            go_wp2_with (first
              | (go_at_call 18; refine (HCL.out _).mono ?_; rintro e w' ⟨rfl, rfl⟩)
              | (go_at_call 13; refine (HCLS.out _).mono ?_; rintro e w' ⟨rfl, rfl⟩))
            go_roundw
            case rel => exact ⟨p + 1 + 1, rfl, by omega, HBR⟩
            case measure => simp [intOf] <;> omega
        · obtain rfl : i = 0 := by omega
          have d3 : decide ((0 : Int) < ((0 : Nat) : Int)) = false := by simp
          have k0 : Hid (∀ W, Below w4.heap.size w4 W → W.cell? ⟨b, off, none⟩ = some (enc (f 0))) := Lib.hid (fun W hW => k0.out W hW)
          have k1 : Hid (∀ W, Below w4.heap.size w4 W → W.cell? ⟨b1, off1, none⟩ = some (enc (ga 0))) := Lib.hid (fun W hW => k1.out W hW)
          have k2 : Hid (∀ W, Below w4.heap.size w4 W → W.cell? ⟨b2, off2, none⟩ = some (enc (gb 0))) := Lib.hid (fun W hW => k2.out W hW)
          go_upto_region 16 with (fail)
          refine Mono.region_below (by kernel_rfl) (by kernel_rfl) (by kernel_rfl) ?_
          refine Mono.rgl_val (v := ?vz0) rfl Mono.rr (fun ρ a W hR hd hf => ?hz0) ?_
          case hz0 =>
            have e5 := Mono.init_get hf (t := 5) (by kernel_rfl)
            clear hd hf
            (go_simp; try with_reducible rfl)
          refine Mono.rgl_val (v := ?vz1) rfl Mono.rr (fun ρ a W hR hd hf => ?hz1) ?_
          case hz1 =>
            have e7 := Mono.init_get hf (t := 7) (by kernel_rfl)
            clear hd hf
            (go_simp; try with_reducible rfl)
          refine Mono.rgl_val (v := ?vz2) rfl Mono.rr (fun ρ a W hR hd hf => ?hz2) ?_
          case hz2 =>
            have e50 := Mono.dep_val hd hf (t := 50) (k := 0) (by kernel_rfl) rfl
            have e51 := Mono.dep_val hd hf (t := 51) (k := 1) (by kernel_rfl) rfl
            clear hd hf
            (go_simp; try with_reducible rfl)
          refine Mono.rgl_val (v := ?vz3) rfl Mono.rr (fun ρ a W hR hd hf => ?hz3) ?_
          case hz3 =>
            have e52 := Mono.dep_val hd hf (t := 52) (k := 2) (by kernel_rfl) rfl
            have hk := k1.out W hR
            clear hd hf
            (go_simp; try with_reducible rfl)
          refine Mono.rgl_val (v := ?vz4) rfl Mono.rr (fun ρ a W hR hd hf => ?hz4) ?_
          case hz4 =>
            have e6 := Mono.init_get hf (t := 6) (by kernel_rfl)
            clear hd hf
            (go_simp; try with_reducible rfl)
          refine Mono.rgl_val (v := ?vz5) rfl Mono.rr (fun ρ a W hR hd hf => ?hz5) ?_
          case hz5 =>
            have e7 := Mono.init_get hf (t := 7) (by kernel_rfl)
            clear hd hf
            (go_simp; try with_reducible rfl)
          refine Mono.rgl_val (v := ?vz6) rfl Mono.rr (fun ρ a W hR hd hf => ?hz6) ?_
          case hz6 =>
            have e54 := Mono.dep_val hd hf (t := 54) (k := 4) (by kernel_rfl) rfl
            have e55 := Mono.dep_val hd hf (t := 55) (k := 5) (by kernel_rfl) rfl
            clear hd hf
            (go_simp; try with_reducible rfl)
          refine Mono.rgl_val (v := ?vz7) rfl Mono.rr (fun ρ a W hR hd hf => ?hz7) ?_
          case hz7 =>
            have e56 := Mono.dep_val hd hf (t := 56) (k := 6) (by kernel_rfl) rfl
            have hk := k2.out W hR
            clear hd hf
            (go_simp; try with_reducible rfl)
          refine Mono.rgl_call (fun x _ => x = .int .i64 0) rfl Mono.rr (fun _ _ _ h _ => h) (fun ρ a W hR hd hf => ?hz8) ?_
          case hz8 =>
            have e53 := Mono.dep_val hd hf (t := 53) (k := 3) (by kernel_rfl) rfl
            have e57 := Mono.dep_val hd hf (t := 57) (k := 7) (by kernel_rfl) rfl
            clear hd hf
            refine ⟨_, _, by go_simp; first | rfl | exact ⟨rfl, rfl⟩, ?_⟩
            exact (HC1.out W).mono (by rintro e w' ⟨rfl, rfl⟩; exact ⟨_, rfl, Below.refl _ _, rfl⟩)
          refine Mono.rgl_val (v := ?vz9) rfl Mono.rr (fun ρ a W hR hd hf => ?hz9) ?_
          case hz9 =>
            have e58 := Mono.dep_val hd hf (t := 58) (k := 8) (by kernel_rfl) rfl
            clear hd hf
            (go_simp; try with_reducible rfl)
          refine Mono.rgl_val (v := ?vz10) rfl Mono.rr (fun ρ a W hR hd hf => ?hz10) ?_
          case hz10 =>
            have e59 := Mono.dep_val hd hf (t := 59) (k := 9) (by kernel_rfl) rfl
            clear hd hf
            (go_simp; try with_reducible rfl)
          refine Mono.rgl_valg (v := ?vz11) rfl Mono.rr (fun ρ W hd => Mono.guard_val hd (t := 60) (k := 10) (by kernel_rfl) rfl) (fun ρ a W hR hd hf => ?hz11) ?_
          case hz11 =>
            have e7 := Mono.init_get hf (t := 7) (by kernel_rfl)
            clear hd hf
            (go_simp; try with_reducible rfl)
          refine Mono.rgl_valg (v := ?vz12) rfl Mono.rr (fun ρ W hd => Mono.guard_val hd (t := 60) (k := 10) (by kernel_rfl) rfl) (fun ρ a W hR hd hf => ?hz12) ?_
          case hz12 =>
            have e61 := Mono.dep_val hd hf (t := 61) (k := 11) (by kernel_rfl) rfl
            clear hd hf
            (go_simp; try with_reducible rfl)
          refine Mono.rgl_valg (v := ?vz13) rfl Mono.rr (fun ρ W hd => Mono.guard_val hd (t := 60) (k := 10) (by kernel_rfl) rfl) (fun ρ a W hR hd hf => ?hz13) ?_
          case hz13 =>
            have e62 := Mono.dep_val hd hf (t := 62) (k := 12) (by kernel_rfl) rfl
            clear hd hf
            (go_simp; try with_reducible rfl)
          refine Mono.rgl_skip rfl (by decide) (fun ρ W hd => Mono.guard_val hd (t := 63) (k := 13) (by kernel_rfl) rfl) ?_
          refine Mono.rgl_skip rfl (by decide) (fun ρ W hd => Mono.guard_val hd (t := 63) (k := 13) (by kernel_rfl) rfl) ?_
          refine Mono.rgl_skip rfl (by decide) (fun ρ W hd => Mono.guard_val hd (t := 63) (k := 13) (by kernel_rfl) rfl) ?_
          refine Mono.rgl_skip rfl (by decide) (fun ρ W hd => Mono.guard_val hd (t := 63) (k := 13) (by kernel_rfl) rfl) ?_
          refine Mono.rgl_skip rfl (by decide) (fun ρ W hd => Mono.guard_val hd (t := 63) (k := 13) (by kernel_rfl) rfl) ?_
          refine Mono.rgl_skip rfl (by decide) (fun ρ W hd => Mono.guard_val hd (t := 63) (k := 13) (by kernel_rfl) rfl) ?_
          refine Mono.rgl_skip rfl (by decide) (fun ρ W hd => Mono.guard_val hd (t := 63) (k := 13) (by kernel_rfl) rfl) ?_
          refine Mono.rgl_skip rfl (by decide) (fun ρ W hd => Mono.guard_val hd (t := 63) (k := 13) (by kernel_rfl) rfl) ?_
          refine Mono.rgl_skip rfl (by decide) (fun ρ W hd => Mono.guard_val hd (t := 63) (k := 13) (by kernel_rfl) rfl) ?_
          refine Mono.rgl_skip rfl (by decide) (fun ρ W hd => Mono.guard_val hd (t := 63) (k := 13) (by kernel_rfl) rfl) ?_
          refine Mono.rgl_skip rfl (by decide) (fun ρ W hd => Mono.guard_val hd (t := 63) (k := 13) (by kernel_rfl) rfl) ?_
          refine Mono.rgl_valg (v := ?vz25) rfl Mono.rr (fun ρ W hd => Mono.guard_val hd (t := 60) (k := 10) (by kernel_rfl) rfl) (fun ρ a W hR hd hf => ?hz25) ?_
          case hz25 =>
            have e63 := Mono.dep_val hd hf (t := 63) (k := 13) (by kernel_rfl) rfl
            have e74 := Mono.dep_val hd hf (t := 74) (k := 24) (by kernel_rfl) rfl
            clear hd hf
            (go_simp; try with_reducible rfl)
          refine Mono.rgl_val (v := ?vz26) rfl Mono.rr (fun ρ a W hR hd hf => ?hz26) ?_
          case hz26 =>
            have e60 := Mono.dep_val hd hf (t := 60) (k := 10) (by kernel_rfl) rfl
            have e75 := Mono.dep_val hd hf (t := 75) (k := 25) (by kernel_rfl) rfl
            clear hd hf
            (go_simp; try with_reducible rfl)
          refine Mono.rgl_done rfl (fun ρ W hR ht => ?_)
          obtain ⟨dz26, dz25, dz24, dz23, dz22, dz21, dz20, dz19, dz18, dz17, dz16, dz15, dz14, dz13, dz12, dz11, dz10, dz9, dz8, dz7, dz6, dz5, dz4, dz3, dz2, dz1, dz0, _⟩ := ht
          simp only [List.length_cons, List.length_nil, Nat.reduceAdd] at dz0 dz1 dz2 dz3 dz4 dz5 dz6 dz7 dz8 dz9 dz10 dz11 dz12 dz13 dz14 dz15 dz16 dz17 dz18 dz19 dz20 dz21 dz22 dz23 dz24 dz25 dz26
          simp only [Mono.putAll, Nat.reduceAdd, dz0, dz1, dz2, dz3, dz4, dz5, dz6, dz7, dz8, dz9, dz10, dz11, dz12, dz13, dz14, dz15, dz16, dz17, dz18, dz19, dz20, dz21, dz22, dz23, dz24, dz25, dz26, Act.put, List.setIfInBounds_toArray, List.set_cons_zero, List.set_cons_succ]
          clear dz0 dz1 dz2 dz3 dz4 dz5 dz6 dz7 dz8 dz9 dz10 dz11 dz12 dz13 dz14 dz15 dz16 dz17 dz18 dz19 dz20 dz21 dz22 dz23 dz24 dz25 dz26
          have HBR := Lib.hid (HBR.out.trans (hR.mono HBR.out.size))
          have k0' := k0.out W hR
          clear hR
          rcases HGE.out with h1 | h1 <;> rcases HLE.out with h2 | h2 <;> rw [beq_iff_eq] at h1 h2
          all_goals
            go_wp2_with (first
              | (go_at_call 18; refine (HCL.out _).mono ?_; rintro e w' ⟨rfl, rfl⟩)
              | (go_at_call 13; refine (HCLS.out _).mono ?_; rintro e w' ⟨rfl, rfl⟩))
            go_roundw
            case rel => exact ⟨1, rfl, by omega, HBR⟩
            case measure => simp [intOf] <;> omega
end Go.Proofs.Ytpjjfkogcfdnkaa
