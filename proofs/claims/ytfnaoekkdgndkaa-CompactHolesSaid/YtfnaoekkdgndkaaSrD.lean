/- symMerge where one run is one element. -/
import Derived.Test.YtfnaoekkdgndkaaSrC
namespace Go.Proofs.Ytfnaoekkdgndkaa
set_option maxRecDepth 100000
set_option linter.unusedVariables false
set_option linter.unusedSimpArgs false
open Go.RowKit
set_option maxHeartbeats 8000000 in
theorem sym_one (blk n cap a m b gc : Nat) (cb : Array Value) (cf : El → El → Int) (le : El → El → Prop) (f : Nat → El) (w : World) (hA : Arr w blk n f) (hn : n ≤ 1000000) (h1 : a < m) (h2 : m < b) (hb : b ≤ n)
    (o : Ord le) (hcf : ∀ x y, cf x y < 0 ↔ ¬ le y x) (hl : Srt le f a m) (hr : Srt le f m b) (hC : CmpOK gc cb cf blk w) (heg : ∀ args W, (callFunc gc args).run Try.prog W = .ok (.enter gc args) W) (hone : m = a + 1) :
    Calls Try.prog 30 #[.slice (some ⟨blk, 0, none⟩) n cap, .int .i64 (a : Nat), .int .i64 (m : Nat), .int .i64 (b : Nat), .func (.func gc) #[] cb] w (InsOut le f blk n a b w) := by
  have HA := Lib.hid hA
  have HC := Lib.hid hC
  have HO := Lib.hid o
  have HF := Lib.hid hcf
  have HONE := Lib.hid hone
  have d0 : (((m : Int) - (a : Int)) == 1) = true := by simp; omega
  have HLR := Lib.hid hr
  clear hA hC o hcf hl hr hone
  go_enter Try.func30, Try.ntmps30
  go_wp2_with (fail)
  go_loopw [10, 11] (fun x y wr => ∃ i j : Nat, x = .int .i64 i ∧ y = .int .i64 j ∧ m ≤ i ∧ i ≤ j ∧ j ≤ b ∧ Hid (∀ k, m ≤ k → k < i → le (f k) (f a)) ∧ Hid (∀ k, j ≤ k → k < b → le (f a) (f k)) ∧ Hid (Arr wr blk n f) ∧ Hid (Gr blk w wr)) (fun x y _ => (intOf y - intOf x).toNat)
  case atStart => exact ⟨m, b, rfl, rfl, Nat.le_refl _, by omega, Nat.le_refl _, Lib.hid (fun k k1 k2 => by omega), Lib.hid (fun k k1 k2 => by omega), HA, Lib.hid (Gr.refl _ _)⟩
  case round =>
    clear HA d0
    obtain ⟨i, j, rfl, rfl, i1, i2, j1, HLO, HHI, HA, HG⟩ := hrel
    obtain ⟨wo, rfl⟩ : ∃ z : World, z = wr := ⟨_, rfl⟩
    by_cases hlt : i < j
    · have d1 : decide (i < j) = true := decide_eq_true hlt
      have d2 : decide ((i : Int) < (j : Int)) = true := decide_eq_true (by omega)
      obtain ⟨h, hh⟩ : ∃ h, (i + j) / 2 = h := ⟨_, rfl⟩
      have hh' : ((i : Int) + (j : Int)) / 2 = (h : Int) := by omega
      have b1 : h < n := by omega
      have b2 : a < n := by omega
      have b3 : (h : Int) < (n : Int) := by omega
      have b4 : (a : Int) < (n : Int) := by omega
      have h3 : i ≤ h ∧ h < j := by omega
      have HH' := Lib.hid hh'
      clear hh hh'
      go_upto_region 5 with (fail)
      rw [HH'.out]
      clear HH'
      refine Mono.region_below (by kernel_rfl) (by kernel_rfl) (by kernel_rfl) ?_
      refine Mono.rgl_val (v := ?vp0) rfl Mono.rr (fun ρ act W hR hd hf => ?hp0) ?_
      case hp0 =>
        have e4 := Mono.init_get hf (t := 4) (by kernel_rfl)
        clear hd hf
        (go_simp; try with_reducible rfl)
      refine Mono.rgl_val (v := ?vp1) rfl Mono.rr (fun ρ act W hR hd hf => ?hp1) ?_
      case hp1 =>
        have e0 := Mono.init_get hf (t := 0) (by kernel_rfl)
        clear hd hf
        (go_simp; try with_reducible rfl)
      refine Mono.rgl_val (v := ?vp2) rfl Mono.rr (fun ρ act W hR hd hf => ?hp2) ?_
      case hp2 =>
        have e12 := Mono.init_get hf (t := 12) (by kernel_rfl)
        clear hd hf
        (go_simp; try with_reducible rfl)
      refine Mono.rgl_val (v := ?vp3) rfl Mono.rr (fun ρ act W hR hd hf => ?hp3) ?_
      case hp3 =>
        have e41 := Mono.dep_val hd hf (t := 41) (k := 1) (by kernel_rfl) rfl
        have e42 := Mono.dep_val hd hf (t := 42) (k := 2) (by kernel_rfl) rfl
        clear hd hf
        (go_simp; try with_reducible rfl)
      refine Mono.rgl_val (v := ?vp4) rfl Mono.rr (fun ρ act W hR hd hf => ?hp4) ?_
      case hp4 =>
        have e43 := Mono.dep_val hd hf (t := 43) (k := 3) (by kernel_rfl) rfl
        obtain ⟨hk, hk1, hk2, hk3⟩ := (HA.out.up hR).four h b1
        clear hd hf
        (go_simp; try with_reducible rfl)
      refine Mono.rgl_val (v := ?vp5) rfl Mono.rr (fun ρ act W hR hd hf => ?hp5) ?_
      case hp5 =>
        have e0 := Mono.init_get hf (t := 0) (by kernel_rfl)
        clear hd hf
        (go_simp; try with_reducible rfl)
      refine Mono.rgl_val (v := ?vp6) rfl Mono.rr (fun ρ act W hR hd hf => ?hp6) ?_
      case hp6 =>
        have e1 := Mono.init_get hf (t := 1) (by kernel_rfl)
        clear hd hf
        (go_simp; try with_reducible rfl)
      refine Mono.rgl_val (v := ?vp7) rfl Mono.rr (fun ρ act W hR hd hf => ?hp7) ?_
      case hp7 =>
        have e45 := Mono.dep_val hd hf (t := 45) (k := 5) (by kernel_rfl) rfl
        have e46 := Mono.dep_val hd hf (t := 46) (k := 6) (by kernel_rfl) rfl
        clear hd hf
        (go_simp; try with_reducible rfl)
      refine Mono.rgl_val (v := ?vp8) rfl Mono.rr (fun ρ act W hR hd hf => ?hp8) ?_
      case hp8 =>
        have e47 := Mono.dep_val hd hf (t := 47) (k := 7) (by kernel_rfl) rfl
        obtain ⟨hk, hk1, hk2, hk3⟩ := (HA.out.up hR).four a b2
        clear hd hf
        (go_simp; try with_reducible rfl)
      refine Mono.rgl_call (fun x _ => x = .int .i64 (cf (f h) (f a))) rfl Mono.rr (fun _ _ _ h _ => h) (fun ρ act W hR hd hf => ?hp9) ?_
      case hp9 =>
        have e40 := Mono.dep_val hd hf (t := 40) (k := 0) (by kernel_rfl) rfl
        have e44 := Mono.dep_val hd hf (t := 44) (k := 4) (by kernel_rfl) rfl
        have e48 := Mono.dep_val hd hf (t := 48) (k := 8) (by kernel_rfl) rfl
        clear hd hf
        refine ⟨_, _, by go_simp; first | rfl | exact ⟨rfl, rfl⟩, ?_⟩
        exact (HC.out W (HG.out.up hR) (f h) (f a)).mono (by rintro e w' ⟨rfl, hb⟩; exact ⟨_, rfl, hb, rfl⟩)
      refine Mono.rgl_val (v := ?vp10) rfl Mono.rr (fun ρ act W hR hd hf => ?hp10) ?_
      case hp10 =>
        have e49 := Mono.dep_val hd hf (t := 49) (k := 9) (by kernel_rfl) rfl
        clear hd hf
        (go_simp; try with_reducible rfl)
      refine Mono.rgl_done rfl (fun ρ W hR ht => ?_)
      obtain ⟨dp10, dp9, dp8, dp7, dp6, dp5, dp4, dp3, dp2, dp1, dp0, _⟩ := ht
      simp only [List.length_cons, List.length_nil, Nat.reduceAdd] at dp0 dp1 dp2 dp3 dp4 dp5 dp6 dp7 dp8 dp9 dp10
      simp only [Mono.putAll, Nat.reduceAdd, dp0, dp1, dp2, dp3, dp4, dp5, dp6, dp7, dp8, dp9, dp10, Act.put, List.setIfInBounds_toArray, List.set_cons_zero, List.set_cons_succ]
      clear dp0 dp1 dp2 dp3 dp4 dp5 dp6 dp7 dp8 dp9 dp10
      have HA := Lib.hid (HA.out.up hR)
      have HG := Lib.hid (HG.out.up hR)
      clear hR
      have q1 : IntKind.i64.wrap ((h : Int) + 1) = ((h + 1 : Nat) : Int) := by rw [IntWalk.i64_in _ (by omega)]; omega
      cases hd : decide (cf (f h) (f a) < 0)
      · have HHI2 : Hid (∀ k, h ≤ k → k < b → le (f a) (f k)) := Lib.hid (fun k k1 k2 => HO.out.trans (Classical.byContradiction fun q => of_decide_eq_false hd ((HF.out _ _).2 q)) (HLR.out.le HO.out (by omega) k1 k2))
        clear hd
        go_wp2_with (fail)
        go_roundw
        case rel => exact ⟨i, h, rfl, rfl, i1, by omega, by omega, HLO, HHI2, HA, HG⟩
        case measure => simp [intOf] <;> omega
      · have HLO2 : Hid (∀ k, m ≤ k → k < h + 1 → le (f k) (f a)) := Lib.hid (fun k k1 k2 => HO.out.trans (HLR.out.le HO.out k1 (show k ≤ h by omega) (by omega)) (HO.out.not ((HF.out _ _).1 (of_decide_eq_true hd))))
        clear hd
        go_wp2_with (fail)
        go_roundw
        case rel => exact ⟨h + 1, j, rfl, rfl, by omega, by omega, by omega, HLO2, HHI, HA, HG⟩
        case measure => simp [intOf] <;> omega
    · have d1 : decide (i < j) = false := decide_eq_false hlt
      have d2 : decide ((i : Int) < (j : Int)) = false := decide_eq_false (by omega)
      obtain rfl : i = j := by omega
      have HT : Hid (Srt le (mvU f a (i - 1)) a b) := Lib.hid (mvU_srt HO.out (by rw [← HONE.out]; exact HLR.out) (by have := HONE.out; omega) j1 (fun k k1 k2 => HLO.out k (by have := HONE.out; omega) k2) HHI.out)
      clear HLO HHI hlt
      go_wp2_with (fail)
      go_loopw [13] (fun x wr => ∃ k : Nat, x = .int .i64 k ∧ a ≤ k ∧ k ≤ i - 1 ∧ Hid (Sw a b f (mvU f a k)) ∧ Hid (Arr wr blk n (mvU f a k)) ∧ Hid (Gr blk w wr)) (fun x _ => i - (intOf x).toNat)
      case atStart => exact ⟨a, rfl, Nat.le_refl _, by omega, Lib.hid (by rw [mvU_start]; exact .refl), Lib.hid (by rw [mvU_start]; exact HA.out), HG⟩
      case round =>
        clear HA HG
        obtain ⟨k, rfl, k1, k2, HSW, HA, HG⟩ := hrel
        obtain ⟨w2, rfl⟩ : ∃ z : World, z = wr := ⟨_, rfl⟩
        by_cases hk : k < i - 1
        · have d3 : decide ((k : Int) < (i : Int) - 1) = true := decide_eq_true (by omega)
          have b1 : k < n := by omega
          have b2 : k + 1 < n := by omega
          have b3 : (k : Int) < (n : Int) := by omega
          have b4 : (k : Int) + 1 < (n : Int) := by omega
          have e0 : ((k : Int) + 1).toNat = k + 1 := by omega
          have p0 : (0 : Int) ≤ (k : Int) + 1 := by omega
          have HSW2 : Hid (Sw a b f (mvU f a (k + 1))) := Lib.hid (by rw [← mvU_step f a k k1]; exact HSW.out.step _ _ k1 (by omega) (by omega) (by omega))
          obtain ⟨c10, c11, c12, c13⟩ := HA.out.four k b1
          obtain ⟨c20, c21, c22, c23⟩ := HA.out.four (k + 1) b2
          obtain ⟨f10, f11, f12, f13⟩ := HA.out.frees k
          obtain ⟨f20, f21, f22, f23⟩ := HA.out.frees (k + 1)
          obtain ⟨x1, hx1⟩ : ∃ z, mvU f a k k = z := ⟨_, rfl⟩
          obtain ⟨x2, hx2⟩ : ∃ z, mvU f a k (k + 1) = z := ⟨_, rfl⟩
          rw [hx1] at c10 c11 c12 c13
          rw [hx2] at c20 c21 c22 c23
          have HX1 := Lib.hid hx1
          have HX2 := Lib.hid hx2
          have HSTEP := Lib.hid (mvU_step f a k k1)
          clear hx1 hx2
          go_upto_region 11 with (fail)
          go_region
          all_goals
            have HA2 : Hid (Arr ((((((((w2.setCell ⟨blk, k * 4, none⟩ (.int .i64 (x2.a : Nat))).setCell ⟨blk, k * 4 + 1, none⟩ (.int .i64 (x2.l : Nat))).setCell ⟨blk, k * 4 + 2, none⟩ (.int .i64 (x2.o : Nat))).setCell ⟨blk, k * 4 + 3, none⟩ (.int .i64 (x2.i : Nat))).setCell ⟨blk, (k + 1) * 4, none⟩ (.int .i64 (x1.a : Nat))).setCell ⟨blk, (k + 1) * 4 + 1, none⟩ (.int .i64 (x1.l : Nat))).setCell ⟨blk, (k + 1) * 4 + 2, none⟩ (.int .i64 (x1.o : Nat))).setCell ⟨blk, (k + 1) * 4 + 3, none⟩ (.int .i64 (x1.i : Nat))).drew blk n (mvU f a (k + 1))) := Lib.hid (by
              have h1 := HA.out.swap k (k + 1) b1 b2
              rw [HX1.out, HX2.out, HSTEP.out] at h1
              exact h1.up (Below.refl _ _).drew)
            have HG2 : Hid (Gr blk w ((((((((w2.setCell ⟨blk, k * 4, none⟩ (.int .i64 (x2.a : Nat))).setCell ⟨blk, k * 4 + 1, none⟩ (.int .i64 (x2.l : Nat))).setCell ⟨blk, k * 4 + 2, none⟩ (.int .i64 (x2.o : Nat))).setCell ⟨blk, k * 4 + 3, none⟩ (.int .i64 (x2.i : Nat))).setCell ⟨blk, (k + 1) * 4, none⟩ (.int .i64 (x1.a : Nat))).setCell ⟨blk, (k + 1) * 4 + 1, none⟩ (.int .i64 (x1.l : Nat))).setCell ⟨blk, (k + 1) * 4 + 2, none⟩ (.int .i64 (x1.o : Nat))).setCell ⟨blk, (k + 1) * 4 + 3, none⟩ (.int .i64 (x1.i : Nat))).drew) := Lib.hid (((HG.out.put4 k x2).put4 (k + 1) x1).up (Below.refl _ _).drew)
            generalize ((((((((w2.setCell ⟨blk, k * 4, none⟩ (.int .i64 (x2.a : Nat))).setCell ⟨blk, k * 4 + 1, none⟩ (.int .i64 (x2.l : Nat))).setCell ⟨blk, k * 4 + 2, none⟩ (.int .i64 (x2.o : Nat))).setCell ⟨blk, k * 4 + 3, none⟩ (.int .i64 (x2.i : Nat))).setCell ⟨blk, (k + 1) * 4, none⟩ (.int .i64 (x1.a : Nat))).setCell ⟨blk, (k + 1) * 4 + 1, none⟩ (.int .i64 (x1.l : Nat))).setCell ⟨blk, (k + 1) * 4 + 2, none⟩ (.int .i64 (x1.o : Nat))).setCell ⟨blk, (k + 1) * 4 + 3, none⟩ (.int .i64 (x1.i : Nat))).drew = w4 at *
            clear c10 c11 c12 c13 c20 c21 c22 c23 f10 f11 f12 f13 f20 f21 f22 f23
            go_wp2_with (fail)
            go_roundw
            case rel => exact ⟨k + 1, rfl, by omega, by omega, HSW2, HA2, HG2⟩
            case measure => simp [intOf] <;> omega
        · have d3 : decide ((k : Int) < (i : Int) - 1) = false := decide_eq_false (by omega)
          obtain rfl : k = i - 1 := by omega
          clear hk
          go_wp2_with (fail)
          go_end0
          exact InsOut.mk HSW.out HT.out HA.out HG.out
end Go.Proofs.Ytfnaoekkdgndkaa
