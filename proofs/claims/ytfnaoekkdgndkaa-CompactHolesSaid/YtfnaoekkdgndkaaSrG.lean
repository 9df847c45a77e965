/- symMerge where the right run is one element. -/
import Derived.Test.YtfnaoekkdgndkaaSrD
namespace Go.Proofs.Ytfnaoekkdgndkaa
set_option maxRecDepth 100000
set_option linter.unusedVariables false
set_option linter.unusedSimpArgs false
open Go.RowKit
set_option maxHeartbeats 8000000 in
theorem sym_last (blk n cap a m b gc : Nat) (cb : Array Value) (cf : El → El → Int) (le : El → El → Prop) (f : Nat → El) (w : World) (hA : Arr w blk n f) (hn : n ≤ 1000000) (h1 : a < m) (h2 : m < b) (hb : b ≤ n)
    (o : Ord le) (hcf : ∀ x y, cf x y < 0 ↔ ¬ le y x) (hl : Srt le f a m) (hr : Srt le f m b) (hC : CmpOK gc cb cf blk w) (heg : ∀ args W, (callFunc gc args).run Try.prog W = .ok (.enter gc args) W) (hone : b = m + 1) (hnot : m ≠ a + 1) :
    Calls Try.prog 30 #[.slice (some ⟨blk, 0, none⟩) n cap, .int .i64 (a : Nat), .int .i64 (m : Nat), .int .i64 (b : Nat), .func (.func gc) #[] cb] w (InsOut le f blk n a b w) := by
  have HA := Lib.hid hA
  have HC := Lib.hid hC
  have HO := Lib.hid o
  have HF := Lib.hid hcf
  have HONE := Lib.hid hone
  have d0 : (((m : Int) - (a : Int)) == 1) = false := by simp; omega
  have d01 : (((b : Int) - (m : Int)) == 1) = true := by simp; omega
  have HLR := Lib.hid hl
  clear hA hC o hcf hl hr hone
  go_enter Try.func30, Try.ntmps30
  go_wp2_with (fail)
  go_loopw [14, 15] (fun x y wr => ∃ i j : Nat, x = .int .i64 i ∧ y = .int .i64 j ∧ a ≤ i ∧ i ≤ j ∧ j ≤ m ∧ Hid (∀ k, a ≤ k → k < i → le (f k) (f m)) ∧ Hid (∀ k, j ≤ k → k < m → le (f m) (f k)) ∧ Hid (Arr wr blk n f) ∧ Hid (Gr blk w wr)) (fun x y _ => (intOf y - intOf x).toNat)
  case atStart => exact ⟨a, m, rfl, rfl, Nat.le_refl _, by omega, Nat.le_refl _, Lib.hid (fun k k1 k2 => by omega), Lib.hid (fun k k1 k2 => by omega), HA, Lib.hid (Gr.refl _ _)⟩
  case round =>
    clear HA d0 d01
    obtain ⟨i, j, rfl, rfl, i1, i2, j1, HLO, HHI, HA, HG⟩ := hrel
    obtain ⟨wo, rfl⟩ : ∃ z : World, z = wr := ⟨_, rfl⟩
    by_cases hlt : i < j
    · have d1 : decide (i < j) = true := decide_eq_true hlt
      have d2 : decide ((i : Int) < (j : Int)) = true := decide_eq_true (by omega)
      obtain ⟨h, hh⟩ : ∃ h, (i + j) / 2 = h := ⟨_, rfl⟩
      have hh' : ((i : Int) + (j : Int)) / 2 = (h : Int) := by omega
      have b1 : m < n := by omega
      have b2 : h < n := by omega
      have b3 : (h : Int) < (n : Int) := by omega
      have b4 : (m : Int) < (n : Int) := by omega
      have h3 : i ≤ h ∧ h < j := by omega
      have HH' := Lib.hid hh'
      clear hh hh'
      go_upto_region 17 with (fail)
      rw [HH'.out]
      clear HH'
      refine Mono.region_below (by kernel_rfl) (by kernel_rfl) (by kernel_rfl) ?_
      refine Mono.rgl_val (v := ?vp0) rfl Mono.rr (fun ρ act W hR hd hf => ?hp0) ?_
      case hp0 =>
        have e4 := Mono.init_get hf (t := 4) (by kernel_rfl)
        clear hd hf
        (go_simp; try with_reducible rfl)
      refine Mono.rgl_val (v := ?vp1) rfl Mono.rr (fun ρ act W hR hd hf => ?hp1) ?_
      case hp1 =>
        have e0 := Mono.init_get hf (t := 0) (by kernel_rfl)
        clear hd hf
        (go_simp; try with_reducible rfl)
      refine Mono.rgl_val (v := ?vp2) rfl Mono.rr (fun ρ act W hR hd hf => ?hp2) ?_
      case hp2 =>
        have e2 := Mono.init_get hf (t := 2) (by kernel_rfl)
        clear hd hf
        (go_simp; try with_reducible rfl)
      refine Mono.rgl_val (v := ?vp3) rfl Mono.rr (fun ρ act W hR hd hf => ?hp3) ?_
      case hp3 =>
        have e93 := Mono.dep_val hd hf (t := 93) (k := 1) (by kernel_rfl) rfl
        have e94 := Mono.dep_val hd hf (t := 94) (k := 2) (by kernel_rfl) rfl
        clear hd hf
        (go_simp; try with_reducible rfl)
      refine Mono.rgl_val (v := ?vp4) rfl Mono.rr (fun ρ act W hR hd hf => ?hp4) ?_
      case hp4 =>
        have e95 := Mono.dep_val hd hf (t := 95) (k := 3) (by kernel_rfl) rfl
        obtain ⟨hk, hk1, hk2, hk3⟩ := (HA.out.up hR).four m b1
        clear hd hf
        (go_simp; try with_reducible rfl)
      refine Mono.rgl_val (v := ?vp5) rfl Mono.rr (fun ρ act W hR hd hf => ?hp5) ?_
      case hp5 =>
        have e0 := Mono.init_get hf (t := 0) (by kernel_rfl)
        clear hd hf
        (go_simp; try with_reducible rfl)
      refine Mono.rgl_val (v := ?vp6) rfl Mono.rr (fun ρ act W hR hd hf => ?hp6) ?_
      case hp6 =>
        have e16 := Mono.init_get hf (t := 16) (by kernel_rfl)
        clear hd hf
        (go_simp; try with_reducible rfl)
      refine Mono.rgl_val (v := ?vp7) rfl Mono.rr (fun ρ act W hR hd hf => ?hp7) ?_
      case hp7 =>
        have e97 := Mono.dep_val hd hf (t := 97) (k := 5) (by kernel_rfl) rfl
        have e98 := Mono.dep_val hd hf (t := 98) (k := 6) (by kernel_rfl) rfl
        clear hd hf
        (go_simp; try with_reducible rfl)
      refine Mono.rgl_val (v := ?vp8) rfl Mono.rr (fun ρ act W hR hd hf => ?hp8) ?_
      case hp8 =>
        have e99 := Mono.dep_val hd hf (t := 99) (k := 7) (by kernel_rfl) rfl
        obtain ⟨hk, hk1, hk2, hk3⟩ := (HA.out.up hR).four h b2
        clear hd hf
        (go_simp; try with_reducible rfl)
      refine Mono.rgl_call (fun x _ => x = .int .i64 (cf (f m) (f h))) rfl Mono.rr (fun _ _ _ h _ => h) (fun ρ act W hR hd hf => ?hp9) ?_
      case hp9 =>
        have e92 := Mono.dep_val hd hf (t := 92) (k := 0) (by kernel_rfl) rfl
        have e96 := Mono.dep_val hd hf (t := 96) (k := 4) (by kernel_rfl) rfl
        have e100 := Mono.dep_val hd hf (t := 100) (k := 8) (by kernel_rfl) rfl
        clear hd hf
        refine ⟨_, _, by go_simp; first | rfl | exact ⟨rfl, rfl⟩, ?_⟩
        exact (HC.out W (HG.out.up hR) (f m) (f h)).mono (by rintro e w' ⟨rfl, hb⟩; exact ⟨_, rfl, hb, rfl⟩)
      refine Mono.rgl_val (v := ?vp10) rfl Mono.rr (fun ρ act W hR hd hf => ?hp10) ?_
      case hp10 =>
        have e101 := Mono.dep_val hd hf (t := 101) (k := 9) (by kernel_rfl) rfl
        clear hd hf
        (go_simp; try with_reducible rfl)
      refine Mono.rgl_val (v := ?vp11) rfl Mono.rr (fun ρ act W hR hd hf => ?hp11) ?_
      case hp11 =>
        have e102 := Mono.dep_val hd hf (t := 102) (k := 10) (by kernel_rfl) rfl
        clear hd hf
        (go_simp; try with_reducible rfl)
      refine Mono.rgl_done rfl (fun ρ W hR ht => ?_)
      obtain ⟨dp11, dp10, dp9, dp8, dp7, dp6, dp5, dp4, dp3, dp2, dp1, dp0, _⟩ := ht
      simp only [List.length_cons, List.length_nil, Nat.reduceAdd] at dp0 dp1 dp2 dp3 dp4 dp5 dp6 dp7 dp8 dp9 dp10 dp11
      simp only [Mono.putAll, Nat.reduceAdd, dp0, dp1, dp2, dp3, dp4, dp5, dp6, dp7, dp8, dp9, dp10, dp11, Act.put, List.setIfInBounds_toArray, List.set_cons_zero, List.set_cons_succ]
      clear dp0 dp1 dp2 dp3 dp4 dp5 dp6 dp7 dp8 dp9 dp10 dp11
      have HA := Lib.hid (HA.out.up hR)
      have HG := Lib.hid (HG.out.up hR)
      clear hR
      have q1 : IntKind.i64.wrap ((h : Int) + 1) = ((h + 1 : Nat) : Int) := by rw [IntWalk.i64_in _ (by omega)]; omega
      cases hd : decide (cf (f m) (f h) < 0)
      · have HLO2 : Hid (∀ k, a ≤ k → k < h + 1 → le (f k) (f m)) := Lib.hid (fun k k1 k2 => HO.out.trans (HLR.out.le HO.out k1 (show k ≤ h by omega) (by omega)) (Classical.byContradiction fun q => of_decide_eq_false hd ((HF.out _ _).2 q)))
        clear hd
        go_wp2_with (fail)
        go_roundw
        case rel => exact ⟨h + 1, j, rfl, rfl, by omega, by omega, by omega, HLO2, HHI, HA, HG⟩
        case measure => simp [intOf] <;> omega
      · have HHI2 : Hid (∀ k, h ≤ k → k < m → le (f m) (f k)) := Lib.hid (fun k k1 k2 => HO.out.trans (HO.out.not ((HF.out _ _).1 (of_decide_eq_true hd))) (HLR.out.le HO.out (by omega) k1 k2))
        clear hd
        go_wp2_with (fail)
        go_roundw
        case rel => exact ⟨i, h, rfl, rfl, i1, by omega, by omega, HLO, HHI2, HA, HG⟩
        case measure => simp [intOf] <;> omega
    · have d1 : decide (i < j) = false := decide_eq_false hlt
      have d2 : decide ((i : Int) < (j : Int)) = false := decide_eq_false (by omega)
      obtain rfl : i = j := by omega
      have HT : Hid (Srt le (mvD f m i) a b) := Lib.hid (by rw [HONE.out]; exact mvD_srt HLR.out i1 j1 HLO.out HHI.out)
      clear HLO HHI hlt
      go_wp2_with (fail)
      go_loopw [17] (fun x wr => ∃ k : Nat, x = .int .i64 k ∧ i ≤ k ∧ k ≤ m ∧ Hid (Sw a b f (mvD f m k)) ∧ Hid (Arr wr blk n (mvD f m k)) ∧ Hid (Gr blk w wr)) (fun x _ => (intOf x).toNat)
      case atStart => exact ⟨m, rfl, j1, Nat.le_refl _, Lib.hid (by rw [mvD_start]; exact .refl), Lib.hid (by rw [mvD_start]; exact HA.out), HG⟩
      case round =>
        clear HA HG
        obtain ⟨k, rfl, k1, k2, HSW, HA, HG⟩ := hrel
        obtain ⟨w2, rfl⟩ : ∃ z : World, z = wr := ⟨_, rfl⟩
        by_cases hk : i < k
        · obtain ⟨kp, rfl⟩ : ∃ kp, k = kp + 1 := ⟨k - 1, by omega⟩
          have d3 : decide ((i : Int) < (kp : Int) + 1) = true := decide_eq_true (by omega)
          have b1 : kp + 1 < n := by omega
          have b2 : kp < n := by omega
          have b3 : (kp : Int) < (n : Int) := by omega
          have b4 : (kp : Int) + 1 < (n : Int) := by omega
          have e0 : ((kp : Int) + 1).toNat = kp + 1 := by omega
          have p0 : (0 : Int) ≤ (kp : Int) + 1 := by omega
          have q2 : IntKind.i64.wrap ((kp : Int) + 1 - 1) = (kp : Int) := by rw [IntWalk.i64_in _ (by omega)]; omega
          have q3 : IntKind.i64.wrap (kp : Int) = (kp : Int) := IntWalk.i64_in _ (by omega)
          have HSW2 : Hid (Sw a b f (mvD f m kp)) := Lib.hid (by rw [← mvD_step f m kp k2]; exact HSW.out.step _ _ (by omega) (by omega) (by omega) (by omega))
          obtain ⟨c10, c11, c12, c13⟩ := HA.out.four (kp + 1) b1
          obtain ⟨c20, c21, c22, c23⟩ := HA.out.four kp b2
          obtain ⟨f10, f11, f12, f13⟩ := HA.out.frees (kp + 1)
          obtain ⟨f20, f21, f22, f23⟩ := HA.out.frees kp
          obtain ⟨x1, hx1⟩ : ∃ z, mvD f m (kp + 1) (kp + 1) = z := ⟨_, rfl⟩
          obtain ⟨x2, hx2⟩ : ∃ z, mvD f m (kp + 1) kp = z := ⟨_, rfl⟩
          rw [hx1] at c10 c11 c12 c13
          rw [hx2] at c20 c21 c22 c23
          have HX1 := Lib.hid hx1
          have HX2 := Lib.hid hx2
          have HSTEP := Lib.hid (mvD_step f m kp k2)
          clear hx1 hx2
          go_upto_region 23 with (fail)
          go_region
          all_goals
            have HA2 : Hid (Arr ((((((((w2.setCell ⟨blk, (kp + 1) * 4, none⟩ (.int .i64 (x2.a : Nat))).setCell ⟨blk, (kp + 1) * 4 + 1, none⟩ (.int .i64 (x2.l : Nat))).setCell ⟨blk, (kp + 1) * 4 + 2, none⟩ (.int .i64 (x2.o : Nat))).setCell ⟨blk, (kp + 1) * 4 + 3, none⟩ (.int .i64 (x2.i : Nat))).setCell ⟨blk, kp * 4, none⟩ (.int .i64 (x1.a : Nat))).setCell ⟨blk, kp * 4 + 1, none⟩ (.int .i64 (x1.l : Nat))).setCell ⟨blk, kp * 4 + 2, none⟩ (.int .i64 (x1.o : Nat))).setCell ⟨blk, kp * 4 + 3, none⟩ (.int .i64 (x1.i : Nat))).drew blk n (mvD f m kp)) := Lib.hid (by
              have h1 := HA.out.swap (kp + 1) kp b1 b2
              rw [HX1.out, HX2.out, HSTEP.out] at h1
              exact h1.up (Below.refl _ _).drew)
            have HG2 : Hid (Gr blk w ((((((((w2.setCell ⟨blk, (kp + 1) * 4, none⟩ (.int .i64 (x2.a : Nat))).setCell ⟨blk, (kp + 1) * 4 + 1, none⟩ (.int .i64 (x2.l : Nat))).setCell ⟨blk, (kp + 1) * 4 + 2, none⟩ (.int .i64 (x2.o : Nat))).setCell ⟨blk, (kp + 1) * 4 + 3, none⟩ (.int .i64 (x2.i : Nat))).setCell ⟨blk, kp * 4, none⟩ (.int .i64 (x1.a : Nat))).setCell ⟨blk, kp * 4 + 1, none⟩ (.int .i64 (x1.l : Nat))).setCell ⟨blk, kp * 4 + 2, none⟩ (.int .i64 (x1.o : Nat))).setCell ⟨blk, kp * 4 + 3, none⟩ (.int .i64 (x1.i : Nat))).drew) := Lib.hid (((HG.out.put4 (kp + 1) x2).put4 kp x1).up (Below.refl _ _).drew)
            generalize ((((((((w2.setCell ⟨blk, (kp + 1) * 4, none⟩ (.int .i64 (x2.a : Nat))).setCell ⟨blk, (kp + 1) * 4 + 1, none⟩ (.int .i64 (x2.l : Nat))).setCell ⟨blk, (kp + 1) * 4 + 2, none⟩ (.int .i64 (x2.o : Nat))).setCell ⟨blk, (kp + 1) * 4 + 3, none⟩ (.int .i64 (x2.i : Nat))).setCell ⟨blk, kp * 4, none⟩ (.int .i64 (x1.a : Nat))).setCell ⟨blk, kp * 4 + 1, none⟩ (.int .i64 (x1.l : Nat))).setCell ⟨blk, kp * 4 + 2, none⟩ (.int .i64 (x1.o : Nat))).setCell ⟨blk, kp * 4 + 3, none⟩ (.int .i64 (x1.i : Nat))).drew = w4 at *
            clear c10 c11 c12 c13 c20 c21 c22 c23 f10 f11 f12 f13 f20 f21 f22 f23
            go_wp2_with (fail)
            go_roundw
            case rel => exact ⟨kp, rfl, by omega, by omega, HSW2, HA2, HG2⟩
            case measure => simp [intOf] <;> omega
        · have d3 : decide ((i : Int) < (k : Int)) = false := decide_eq_false (by omega)
          obtain rfl : i = k := by omega
          clear hk
          go_wp2_with (fail)
          go_end0
          exact InsOut.mk HSW.out HT.out HA.out HG.out
end Go.Proofs.Ytfnaoekkdgndkaa
