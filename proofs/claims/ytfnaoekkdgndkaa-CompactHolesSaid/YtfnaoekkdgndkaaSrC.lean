/- insertionSort, in memory. -/
import Derived.Test.YtfnaoekkdgndkaaSrB
namespace Go.Proofs.Ytfnaoekkdgndkaa
set_option maxRecDepth 100000
set_option linter.unusedVariables false
set_option linter.unusedSimpArgs false
open Go.RowKit
/-- What is asked of the function that compares. -/
def CmpOK (g : Nat) (cb : Array Value) (cf : El → El → Int) (b : Nat) (w : World) : Prop :=
  ∀ W, Gr b w W → ∀ x y : El, Calls Try.prog g (#[enc x, enc y] ++ cb) W fun e w' => e = .returned (.int .i64 (cf x y)) ∧ Below W.heap.size W w'
theorem CmpOK.up {g : Nat} {cb : Array Value} {cf : El → El → Int} {b : Nat} {w w' : World} (h : CmpOK g cb cf b w) (hg : Gr b w w') : CmpOK g cb cf b w' := fun W hW => h W (hg.trans hW)
def InsOut (le : El → El → Prop) (f : Nat → El) (blk n a b : Nat) (w : World) (e : Ending) (w' : World) : Prop :=
  e = .returned (.tuple #[]) ∧ (∃ g, Sw a b f g ∧ Srt le g a b ∧ Arr w' blk n g) ∧ Gr blk w w'
theorem InsOut.mk {le : El → El → Prop} {f g : Nat → El} {blk n a b : Nat} {w w' : World} (h1 : Sw a b f g) (h2 : Srt le g a b) (h3 : Arr w' blk n g) (h4 : Gr blk w w') : InsOut le f blk n a b w (.returned (.tuple #[])) w' := ⟨rfl, ⟨g, h1, h2, h3⟩, h4⟩
theorem srt_small (le : El → El → Prop) (f : Nat → El) (a b : Nat) (h : b ≤ a + 1) : Srt le f a b := fun i j h1 h2 h3 => by omega
set_option maxHeartbeats 8000000 in
theorem insertion_any (blk n cap a b gc : Nat) (cb : Array Value) (cf : El → El → Int) (le R : El → El → Prop) (f : Nat → El) (w : World) (hA : Arr w blk n f) (hn : n ≤ 1000000) (hab : a ≤ b) (hb : b ≤ n)
    (o : Ord le) (hcf : ∀ x y, R x y → (cf x y < 0 ↔ ¬ le y x)) (hR : ∀ i k, a ≤ k → k < i → i < b → R (f i) (f k)) (hC : CmpOK gc cb cf blk w) (heg : ∀ args W, (callFunc gc args).run Try.prog W = .ok (.enter gc args) W) :
    Calls Try.prog 29 #[.slice (some ⟨blk, 0, none⟩) n cap, .int .i64 (a : Nat), .int .i64 (b : Nat), .func (.func gc) #[] cb] w (InsOut le f blk n a b w) := by
  have HA := Lib.hid hA
  have HC := Lib.hid hC
  have HO := Lib.hid o
  have HF := Lib.hid hcf
  have HR := Lib.hid hR
  have q1 : IntKind.i64.wrap ((a : Int) + 1) = ((a + 1 : Nat) : Int) := by rw [IntWalk.i64_in _ (by omega)]; omega
  clear hA hC o hcf hR
  go_enter Try.func29, Try.ntmps29
  go_wp2_with (fail)
  go_loopw [8] (fun x wr => ∃ (i : Nat) (g : Nat → El), x = .int .i64 i ∧ a < i ∧ (i ≤ b ∨ i = a + 1) ∧ Hid (Sw a (if i ≤ b then i else b) f g) ∧ Hid (Srt le g a i) ∧ Hid (Arr wr blk n g) ∧ Hid (Gr blk w wr)) (fun x _ => b + 1 - (intOf x).toNat)
  case atStart => exact ⟨a + 1, f, rfl, by omega, .inr rfl, Lib.hid .refl, Lib.hid (srt_small _ _ _ _ (by omega)), HA, Lib.hid (Gr.refl _ _)⟩
  case round =>
    clear HA q1
    obtain ⟨i, g0, rfl, i1, i2, HS, HT, HA, HG⟩ := hrel
    by_cases hlt : i < b
    rotate_left
    · have d1 : decide (i < b) = false := decide_eq_false (by omega)
      have d2 : decide ((i : Int) < (b : Int)) = false := decide_eq_false (by omega)
      go_wp2_with (fail)
      go_end0
      refine InsOut.mk (HS.out.mono (Nat.le_refl _) (by split <;> omega)) ?_ HA.out HG.out
      exact HT.out.sub (Nat.le_refl _) (by omega)
    have d1 : decide (i < b) = true := decide_eq_true hlt
    have d2 : decide ((i : Int) < (b : Int)) = true := decide_eq_true (by omega)
    have q1 : IntKind.i64.wrap ((i : Int) + 1) = ((i + 1 : Nat) : Int) := by rw [IntWalk.i64_in _ (by omega)]; omega
    have HJ := Lib.hid (InsJ.start (R := R) (f := f) (by have := HS.out; rwa [if_pos (show i ≤ b by omega)] at this) HT.out (fun k k1 k2 => HR.out i k k1 k2 hlt))
    obtain ⟨wo, rfl⟩ : ∃ z : World, z = wr := ⟨_, rfl⟩
    clear HS HT i2
    go_wp2_with (fail)
    go_loopw [9] (fun x wr => ∃ (j : Nat) (g : Nat → El), x = .int .i64 j ∧ a ≤ j ∧ j ≤ i ∧ Hid (InsJ le R f g a i j) ∧ Hid (Arr wr blk n g) ∧ Hid (Gr blk w wr)) (fun x _ => (intOf x).toNat)
    case atStart => exact ⟨i, g0, rfl, by omega, Nat.le_refl _, HJ, HA, HG⟩
    case round =>
      clear HA HG HJ
      obtain ⟨j, g, rfl, j1, j2, HJ, HA, HG⟩ := hrel
      obtain ⟨w2, rfl⟩ : ∃ z : World, z = wr := ⟨_, rfl⟩
      by_cases hja : a < j
      · obtain ⟨jp, rfl⟩ : ∃ jp, j = jp + 1 := ⟨j - 1, by omega⟩
        have b1 : jp + 1 < n := by omega
        have b2 : jp < n := by omega
        have b3 : ((jp : Int) + 1) < (n : Int) := by omega
        have b4 : (jp : Int) < (n : Int) := by omega
        have t1 : decide ((a : Int) < (jp : Int) + 1) = true := decide_eq_true (by omega)
        have q2 : IntKind.i64.wrap ((jp : Int) + 1 - 1) = (jp : Int) := by rw [IntWalk.i64_in _ (by omega)]; omega
        have q3 : IntKind.i64.wrap (jp : Int) = (jp : Int) := IntWalk.i64_in _ (by omega)
        have e0 : ((jp : Int) + 1).toNat = jp + 1 := by omega
        have p0 : (0 : Int) ≤ (jp : Int) + 1 := by omega
        go_upto_region 4 with (fail)
        refine Mono.region_below (by kernel_rfl) (by kernel_rfl) (by kernel_rfl) ?_
        refine Mono.rgl_val (v := ?vy0) rfl Mono.rr (fun ρ a W hR hd hf => ?hy0) ?_
        case hy0 =>
          have e9 := Mono.init_get hf (t := 9) (by kernel_rfl)
          clear hd hf
          (go_simp; try with_reducible rfl)
        refine Mono.rgl_val (v := ?vy1) rfl Mono.rr (fun ρ a W hR hd hf => ?hy1) ?_
        case hy1 =>
          have e1 := Mono.init_get hf (t := 1) (by kernel_rfl)
          clear hd hf
          (go_simp; try with_reducible rfl)
        refine Mono.rgl_val (v := ?vy2) rfl Mono.rr (fun ρ a W hR hd hf => ?hy2) ?_
        case hy2 =>
          have e18 := Mono.dep_val hd hf (t := 18) (k := 0) (by kernel_rfl) rfl
          have e19 := Mono.dep_val hd hf (t := 19) (k := 1) (by kernel_rfl) rfl
          clear hd hf
          (go_simp; try with_reducible rfl)
        refine Mono.rgl_val (v := ?vy3) rfl Mono.rr (fun ρ a W hR hd hf => ?hy3) ?_
        case hy3 =>
          have e20 := Mono.dep_val hd hf (t := 20) (k := 2) (by kernel_rfl) rfl
          clear hd hf
          (go_simp; try with_reducible rfl)
        refine Mono.rgl_valg (v := ?vy4) rfl Mono.rr (fun ρ W hd => Mono.guard_val hd (t := 21) (k := 3) (by kernel_rfl) rfl) (fun ρ a W hR hd hf => ?hy4) ?_
        case hy4 =>
          have e3 := Mono.init_get hf (t := 3) (by kernel_rfl)
          clear hd hf
          (go_simp; try with_reducible rfl)
        refine Mono.rgl_valg (v := ?vy5) rfl Mono.rr (fun ρ W hd => Mono.guard_val hd (t := 21) (k := 3) (by kernel_rfl) rfl) (fun ρ a W hR hd hf => ?hy5) ?_
        case hy5 =>
          have e0 := Mono.init_get hf (t := 0) (by kernel_rfl)
          clear hd hf
          (go_simp; try with_reducible rfl)
        refine Mono.rgl_valg (v := ?vy6) rfl Mono.rr (fun ρ W hd => Mono.guard_val hd (t := 21) (k := 3) (by kernel_rfl) rfl) (fun ρ a W hR hd hf => ?hy6) ?_
        case hy6 =>
          have e9 := Mono.init_get hf (t := 9) (by kernel_rfl)
          clear hd hf
          (go_simp; try with_reducible rfl)
        refine Mono.rgl_valg (v := ?vy7) rfl Mono.rr (fun ρ W hd => Mono.guard_val hd (t := 21) (k := 3) (by kernel_rfl) rfl) (fun ρ a W hR hd hf => ?hy7) ?_
        case hy7 =>
          have e23 := Mono.dep_val hd hf (t := 23) (k := 5) (by kernel_rfl) rfl
          have e24 := Mono.dep_val hd hf (t := 24) (k := 6) (by kernel_rfl) rfl
          clear hd hf
          (go_simp; try with_reducible rfl)
        refine Mono.rgl_valg (v := ?vy8) rfl Mono.rr (fun ρ W hd => Mono.guard_val hd (t := 21) (k := 3) (by kernel_rfl) rfl) (fun ρ a W hR hd hf => ?hy8) ?_
        case hy8 =>
          have e25 := Mono.dep_val hd hf (t := 25) (k := 7) (by kernel_rfl) rfl
          obtain ⟨hk, hk1, hk2, hk3⟩ := (HA.out.up hR).four (jp + 1) b1
          clear hd hf
          (go_simp; try with_reducible rfl)
        refine Mono.rgl_valg (v := ?vy9) rfl Mono.rr (fun ρ W hd => Mono.guard_val hd (t := 21) (k := 3) (by kernel_rfl) rfl) (fun ρ a W hR hd hf => ?hy9) ?_
        case hy9 =>
          have e0 := Mono.init_get hf (t := 0) (by kernel_rfl)
          clear hd hf
          (go_simp; try with_reducible rfl)
        refine Mono.rgl_valg (v := ?vy10) rfl Mono.rr (fun ρ W hd => Mono.guard_val hd (t := 21) (k := 3) (by kernel_rfl) rfl) (fun ρ a W hR hd hf => ?hy10) ?_
        case hy10 =>
          have e9 := Mono.init_get hf (t := 9) (by kernel_rfl)
          clear hd hf
          (go_simp; try with_reducible rfl)
        refine Mono.rgl_valg (v := ?vy11) rfl Mono.rr (fun ρ W hd => Mono.guard_val hd (t := 21) (k := 3) (by kernel_rfl) rfl) (fun ρ a W hR hd hf => ?hy11) ?_
        case hy11 =>
          have e28 := Mono.dep_val hd hf (t := 28) (k := 10) (by kernel_rfl) rfl
          clear hd hf
          (go_simp; try with_reducible rfl)
        refine Mono.rgl_valg (v := ?vy12) rfl Mono.rr (fun ρ W hd => Mono.guard_val hd (t := 21) (k := 3) (by kernel_rfl) rfl) (fun ρ a W hR hd hf => ?hy12) ?_
        case hy12 =>
          have e27 := Mono.dep_val hd hf (t := 27) (k := 9) (by kernel_rfl) rfl
          have e29 := Mono.dep_val hd hf (t := 29) (k := 11) (by kernel_rfl) rfl
          clear hd hf
          (go_simp; try with_reducible rfl)
        refine Mono.rgl_valg (v := ?vy13) rfl Mono.rr (fun ρ W hd => Mono.guard_val hd (t := 21) (k := 3) (by kernel_rfl) rfl) (fun ρ a W hR hd hf => ?hy13) ?_
        case hy13 =>
          have e30 := Mono.dep_val hd hf (t := 30) (k := 12) (by kernel_rfl) rfl
          obtain ⟨hk, hk1, hk2, hk3⟩ := (HA.out.up hR).four jp b2
          clear hd hf
          (go_simp; try with_reducible rfl)
        refine Mono.rgl_callg (fun x _ => x = .int .i64 (cf (g (jp + 1)) (g jp))) rfl Mono.rr (fun _ _ _ h _ => h) (fun ρ W hd => Mono.guard_val hd (t := 21) (k := 3) (by kernel_rfl) rfl) (fun ρ a W hR hd hf => ?hy14) ?_
        case hy14 =>
          have e22 := Mono.dep_val hd hf (t := 22) (k := 4) (by kernel_rfl) rfl
          have e26 := Mono.dep_val hd hf (t := 26) (k := 8) (by kernel_rfl) rfl
          have e31 := Mono.dep_val hd hf (t := 31) (k := 13) (by kernel_rfl) rfl
          clear hd hf
          refine ⟨_, _, by go_simp; first | rfl | exact ⟨rfl, rfl⟩, ?_⟩
          exact (HC.out W (HG.out.up hR) (g (jp + 1)) (g jp)).mono (by rintro e w' ⟨rfl, hb⟩; exact ⟨_, rfl, hb, rfl⟩)
        refine Mono.rgl_valg (v := ?vy15) rfl Mono.rr (fun ρ W hd => Mono.guard_val hd (t := 21) (k := 3) (by kernel_rfl) rfl) (fun ρ a W hR hd hf => ?hy15) ?_
        case hy15 =>
          have e32 := Mono.dep_val hd hf (t := 32) (k := 14) (by kernel_rfl) rfl
          clear hd hf
          (go_simp; try with_reducible rfl)
        refine Mono.rgl_val (v := ?vy16) rfl Mono.rr (fun ρ a W hR hd hf => ?hy16) ?_
        case hy16 =>
          have e21 := Mono.dep_val hd hf (t := 21) (k := 3) (by kernel_rfl) rfl
          have e33 := Mono.dep_val hd hf (t := 33) (k := 15) (by kernel_rfl) rfl
          clear hd hf
          (go_simp; try with_reducible rfl)
        refine Mono.rgl_done rfl (fun ρ W hR ht => ?_)
        obtain ⟨dy16, dy15, dy14, dy13, dy12, dy11, dy10, dy9, dy8, dy7, dy6, dy5, dy4, dy3, dy2, dy1, dy0, _⟩ := ht
        simp only [List.length_cons, List.length_nil, Nat.reduceAdd] at dy0 dy1 dy2 dy3 dy4 dy5 dy6 dy7 dy8 dy9 dy10 dy11 dy12 dy13 dy14 dy15 dy16
        simp only [Mono.putAll, Nat.reduceAdd, dy0, dy1, dy2, dy3, dy4, dy5, dy6, dy7, dy8, dy9, dy10, dy11, dy12, dy13, dy14, dy15, dy16, Act.put, List.setIfInBounds_toArray, List.set_cons_zero, List.set_cons_succ]
        clear dy0 dy1 dy2 dy3 dy4 dy5 dy6 dy7 dy8 dy9 dy10 dy11 dy12 dy13 dy14 dy15 dy16
        have HA := Lib.hid (HA.out.up hR)
        have HG := Lib.hid (HG.out.up hR)
        clear hR
        cases hd : decide (cf (g (jp + 1)) (g jp) < 0)
        rotate_left
        · have hc := of_decide_eq_true hd
          have HJ2 := Lib.hid (InsJ.step HF.out HO.out HJ.out (by omega) j2 hc)
          obtain ⟨c10, c11, c12, c13⟩ := HA.out.four (jp + 1) b1
          obtain ⟨c20, c21, c22, c23⟩ := HA.out.four jp b2
          obtain ⟨f10, f11, f12, f13⟩ := HA.out.frees (jp + 1)
          obtain ⟨f20, f21, f22, f23⟩ := HA.out.frees jp
          obtain ⟨x1, hx1⟩ : ∃ z, g (jp + 1) = z := ⟨_, rfl⟩
          obtain ⟨x2, hx2⟩ : ∃ z, g jp = z := ⟨_, rfl⟩
          rw [hx1] at c10 c11 c12 c13
          rw [hx2] at c20 c21 c22 c23
          have HX1 := Lib.hid hx1
          have HX2 := Lib.hid hx2
          clear hx1 hx2 hc hd
          go_upto_region 6 with (fail)
          go_region
          all_goals
            have HA2 : Hid (Arr ((((((((W.setCell ⟨blk, (jp + 1) * 4, none⟩ (.int .i64 (x2.a : Nat))).setCell ⟨blk, (jp + 1) * 4 + 1, none⟩ (.int .i64 (x2.l : Nat))).setCell ⟨blk, (jp + 1) * 4 + 2, none⟩ (.int .i64 (x2.o : Nat))).setCell ⟨blk, (jp + 1) * 4 + 3, none⟩ (.int .i64 (x2.i : Nat))).setCell ⟨blk, jp * 4, none⟩ (.int .i64 (x1.a : Nat))).setCell ⟨blk, jp * 4 + 1, none⟩ (.int .i64 (x1.l : Nat))).setCell ⟨blk, jp * 4 + 2, none⟩ (.int .i64 (x1.o : Nat))).setCell ⟨blk, jp * 4 + 3, none⟩ (.int .i64 (x1.i : Nat))).drew blk n (swp g (jp + 1) jp)) := Lib.hid (by
              have h1 := HA.out.swap (jp + 1) jp b1 b2
              rw [HX1.out, HX2.out] at h1
              exact h1.up (Below.refl _ _).drew)
            have HG2 : Hid (Gr blk w ((((((((W.setCell ⟨blk, (jp + 1) * 4, none⟩ (.int .i64 (x2.a : Nat))).setCell ⟨blk, (jp + 1) * 4 + 1, none⟩ (.int .i64 (x2.l : Nat))).setCell ⟨blk, (jp + 1) * 4 + 2, none⟩ (.int .i64 (x2.o : Nat))).setCell ⟨blk, (jp + 1) * 4 + 3, none⟩ (.int .i64 (x2.i : Nat))).setCell ⟨blk, jp * 4, none⟩ (.int .i64 (x1.a : Nat))).setCell ⟨blk, jp * 4 + 1, none⟩ (.int .i64 (x1.l : Nat))).setCell ⟨blk, jp * 4 + 2, none⟩ (.int .i64 (x1.o : Nat))).setCell ⟨blk, jp * 4 + 3, none⟩ (.int .i64 (x1.i : Nat))).drew) := Lib.hid (((HG.out.put4 (jp + 1) x2).put4 jp x1).up (Below.refl _ _).drew)
            generalize ((((((((W.setCell ⟨blk, (jp + 1) * 4, none⟩ (.int .i64 (x2.a : Nat))).setCell ⟨blk, (jp + 1) * 4 + 1, none⟩ (.int .i64 (x2.l : Nat))).setCell ⟨blk, (jp + 1) * 4 + 2, none⟩ (.int .i64 (x2.o : Nat))).setCell ⟨blk, (jp + 1) * 4 + 3, none⟩ (.int .i64 (x2.i : Nat))).setCell ⟨blk, jp * 4, none⟩ (.int .i64 (x1.a : Nat))).setCell ⟨blk, jp * 4 + 1, none⟩ (.int .i64 (x1.l : Nat))).setCell ⟨blk, jp * 4 + 2, none⟩ (.int .i64 (x1.o : Nat))).setCell ⟨blk, jp * 4 + 3, none⟩ (.int .i64 (x1.i : Nat))).drew = w4 at *
            clear c10 c11 c12 c13 c20 c21 c22 c23 f10 f11 f12 f13 f20 f21 f22 f23
            go_wp2_with (fail)
            go_roundw
            case rel => exact ⟨jp, _, rfl, by omega, by omega, HJ2, HA2, HG2⟩
            case measure => simp [intOf] <;> omega
        · have hc := of_decide_eq_false hd
          have HS := Lib.hid HJ.out.sw
          have HT := Lib.hid (InsJ.done HF.out HO.out HJ.out j2 (.inr ⟨hja, by simpa using hc⟩))
          clear hc hd
          go_wp2_with (fail)
          go_roundw
          case rel => exact ⟨i + 1, g, rfl, by omega, .inl (by omega), Lib.hid (by rw [if_pos (show i + 1 ≤ b by omega)]; exact HS.out), HT, HA, HG⟩
          case measure => simp [intOf] <;> omega
      · have t1 : decide ((a : Int) < (j : Int)) = false := decide_eq_false (by omega)
        go_upto_region 4 with (fail)
        refine Mono.region_below (by kernel_rfl) (by kernel_rfl) (by kernel_rfl) ?_
        refine Mono.rgl_val (v := ?vn0) rfl Mono.rr (fun ρ a W hR hd hf => ?hn0) ?_
        case hn0 =>
          have e9 := Mono.init_get hf (t := 9) (by kernel_rfl)
          clear hd hf
          (go_simp; try with_reducible rfl)
        refine Mono.rgl_val (v := ?vn1) rfl Mono.rr (fun ρ a W hR hd hf => ?hn1) ?_
        case hn1 =>
          have e1 := Mono.init_get hf (t := 1) (by kernel_rfl)
          clear hd hf
          (go_simp; try with_reducible rfl)
        refine Mono.rgl_val (v := ?vn2) rfl Mono.rr (fun ρ a W hR hd hf => ?hn2) ?_
        case hn2 =>
          have e18 := Mono.dep_val hd hf (t := 18) (k := 0) (by kernel_rfl) rfl
          have e19 := Mono.dep_val hd hf (t := 19) (k := 1) (by kernel_rfl) rfl
          clear hd hf
          (go_simp; try with_reducible rfl)
        refine Mono.rgl_val (v := ?vn3) rfl Mono.rr (fun ρ a W hR hd hf => ?hn3) ?_
        case hn3 =>
          have e20 := Mono.dep_val hd hf (t := 20) (k := 2) (by kernel_rfl) rfl
          clear hd hf
          (go_simp; try with_reducible rfl)
        refine Mono.rgl_skip rfl (by decide) (fun ρ W hd => Mono.guard_val hd (t := 21) (k := 3) (by kernel_rfl) rfl) ?_
        refine Mono.rgl_skip rfl (by decide) (fun ρ W hd => Mono.guard_val hd (t := 21) (k := 3) (by kernel_rfl) rfl) ?_
        refine Mono.rgl_skip rfl (by decide) (fun ρ W hd => Mono.guard_val hd (t := 21) (k := 3) (by kernel_rfl) rfl) ?_
        refine Mono.rgl_skip rfl (by decide) (fun ρ W hd => Mono.guard_val hd (t := 21) (k := 3) (by kernel_rfl) rfl) ?_
        refine Mono.rgl_skip rfl (by decide) (fun ρ W hd => Mono.guard_val hd (t := 21) (k := 3) (by kernel_rfl) rfl) ?_
        refine Mono.rgl_skip rfl (by decide) (fun ρ W hd => Mono.guard_val hd (t := 21) (k := 3) (by kernel_rfl) rfl) ?_
        refine Mono.rgl_skip rfl (by decide) (fun ρ W hd => Mono.guard_val hd (t := 21) (k := 3) (by kernel_rfl) rfl) ?_
        refine Mono.rgl_skip rfl (by decide) (fun ρ W hd => Mono.guard_val hd (t := 21) (k := 3) (by kernel_rfl) rfl) ?_
        refine Mono.rgl_skip rfl (by decide) (fun ρ W hd => Mono.guard_val hd (t := 21) (k := 3) (by kernel_rfl) rfl) ?_
        refine Mono.rgl_skip rfl (by decide) (fun ρ W hd => Mono.guard_val hd (t := 21) (k := 3) (by kernel_rfl) rfl) ?_
        refine Mono.rgl_skip rfl (by decide) (fun ρ W hd => Mono.guard_val hd (t := 21) (k := 3) (by kernel_rfl) rfl) ?_
        refine Mono.rgl_skip rfl (by decide) (fun ρ W hd => Mono.guard_val hd (t := 21) (k := 3) (by kernel_rfl) rfl) ?_
        refine Mono.rgl_val (v := ?vn16) rfl Mono.rr (fun ρ a W hR hd hf => ?hn16) ?_
        case hn16 =>
          have e21 := Mono.dep_val hd hf (t := 21) (k := 3) (by kernel_rfl) rfl
          have e33 := Mono.dep_val hd hf (t := 33) (k := 15) (by kernel_rfl) rfl
          clear hd hf
          (go_simp; try with_reducible rfl)
        refine Mono.rgl_done rfl (fun ρ W hR ht => ?_)
        obtain ⟨dn16, dn15, dn14, dn13, dn12, dn11, dn10, dn9, dn8, dn7, dn6, dn5, dn4, dn3, dn2, dn1, dn0, _⟩ := ht
        simp only [List.length_cons, List.length_nil, Nat.reduceAdd] at dn0 dn1 dn2 dn3 dn4 dn5 dn6 dn7 dn8 dn9 dn10 dn11 dn12 dn13 dn14 dn15 dn16
        simp only [Mono.putAll, Nat.reduceAdd, dn0, dn1, dn2, dn3, dn4, dn5, dn6, dn7, dn8, dn9, dn10, dn11, dn12, dn13, dn14, dn15, dn16, Act.put, List.setIfInBounds_toArray, List.set_cons_zero, List.set_cons_succ]
        clear dn0 dn1 dn2 dn3 dn4 dn5 dn6 dn7 dn8 dn9 dn10 dn11 dn12 dn13 dn14 dn15 dn16
        have HA := Lib.hid (HA.out.up hR)
        have HG := Lib.hid (HG.out.up hR)
        clear hR
        have HS := Lib.hid HJ.out.sw
        have HT := Lib.hid (InsJ.done HF.out HO.out HJ.out j2 (.inl (by omega)))
        go_wp2_with (fail)
        go_roundw
        case rel => exact ⟨i + 1, g, rfl, by omega, .inl (by omega), Lib.hid (by rw [if_pos (show i + 1 ≤ b by omega)]; exact HS.out), HT, HA, HG⟩
        case measure => simp [intOf] <;> omega
end Go.Proofs.Ytfnaoekkdgndkaa
