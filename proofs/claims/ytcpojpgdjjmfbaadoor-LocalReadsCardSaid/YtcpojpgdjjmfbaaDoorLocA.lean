/- local.Header: Version, Flags, Check, and the page's. -/
import Derived.Test.YtcpojpgdjjmfbaaDoorNmN
import Derived.Test.YtcpojpgdjjmfbaaDoorDsD
import Derived.Test.YtcpojpgdjjmfbaaDoorOb
import Derived.Deep.Cut
namespace Go.Proofs.YtcpojpgdjjmfbaaDoor
set_option linter.unusedVariables false
set_option linter.unusedSimpArgs false
set_option maxRecDepth 100000
open Go.RowKit
def verI (g : Bool) : Int := cond g 45 20
def flagI (nm : ByteArray) (g : Bool) : Int := cond g 8 0 + cond (asc nm) 0 2048
theorem version_any (nm : ByteArray) (y mo da ho mi se me cr pk sz : Int) (gw gl : Bool) (w : World) : Calls Tryd.prog 11 #[.agg #[.string nm, .int .i64 y, .int .i64 mo, .int .i64 da, .int .i64 ho, .int .i64 mi, .int .i64 se, .int .i64 me, .int .u32 cr, .int .i64 pk, .int .i64 sz, .bool gw, .bool gl]] w (CQ (.int .i64 (verI gw)) w) := by
  have HB := Lib.hid ((Below.refl w.heap.size w).alloc (Nat.le_refl _) (.cells #[.string nm, .int .i64 y, .int .i64 mo, .int .i64 da, .int .i64 ho, .int .i64 mi, .int .i64 se, .int .i64 me, .int .u32 cr, .int .i64 pk, .int .i64 sz, .bool gw, .bool gl] 26))
  cases gw
  all_goals
    go_enter Tryd.func11, Tryd.ntmps11
    go_wp2_with (fail)
    go_ret
    exact ⟨rfl, HB.out⟩
theorem refVersion_any (nm : ByteArray) (y mo da ho mi se me cr pk sz : Int) (gw gl : Bool) (w : World) : Calls Tryd.prog 12 #[.agg #[.string nm, .int .i64 y, .int .i64 mo, .int .i64 da, .int .i64 ho, .int .i64 mi, .int .i64 se, .int .i64 me, .int .u32 cr, .int .i64 pk, .int .i64 sz, .bool gw, .bool gl]] w (CQ (.int .i64 (verI gw)) w) := by
  have HB := Lib.hid ((Below.refl w.heap.size w).alloc (Nat.le_refl _) (.cells #[.string nm, .int .i64 y, .int .i64 mo, .int .i64 da, .int .i64 ho, .int .i64 mi, .int .i64 se, .int .i64 me, .int .u32 cr, .int .i64 pk, .int .i64 sz, .bool gw, .bool gl] 28))
  cases gw
  all_goals
    go_enter Tryd.func12, Tryd.ntmps12
    go_wp2_with (fail)
    go_ret
    exact ⟨rfl, HB.out⟩
theorem flags_any (nm : ByteArray) (y mo da ho mi se me cr pk sz : Int) (gw gl : Bool) (w : World) (hs : nm.size ≤ 9223372036854775807) : Calls Tryd.prog 13 #[.agg #[.string nm, .int .i64 y, .int .i64 mo, .int .i64 da, .int .i64 ho, .int .i64 mi, .int .i64 se, .int .i64 me, .int .u32 cr, .int .i64 pk, .int .i64 sz, .bool gw, .bool gl]] w (CQ (.int .i64 (flagI nm gl)) w) := by
  have HB := Lib.hid ((Below.refl w.heap.size w).alloc (Nat.le_refl _) (.cells #[.string nm, .int .i64 y, .int .i64 mo, .int .i64 da, .int .i64 ho, .int .i64 mi, .int .i64 se, .int .i64 me, .int .u32 cr, .int .i64 pk, .int .i64 sz, .bool gw, .bool gl] 26))
  have HC := Lib.hid (fun W => ascii_any nm W hs)
  unfold flagI
  generalize asc nm = a at *
  cases gl <;> cases a
  all_goals
    go_enter Tryd.func13, Tryd.ntmps13
    go_wp2_with (fail)
    refine (HC.out _).mono ?_
    rintro e w1 ⟨rfl, rfl⟩
    go_wp2_with (fail)
    go_ret
    exact ⟨rfl, HB.out⟩
set_option maxHeartbeats 1000000 in
theorem refFlags_any (nm : ByteArray) (y mo da ho mi se me cr pk sz : Int) (gw gl : Bool) (w : World) (hs : nm.size ≤ 9223372036854775807) : Calls Tryd.prog 14 #[.agg #[.string nm, .int .i64 y, .int .i64 mo, .int .i64 da, .int .i64 ho, .int .i64 mi, .int .i64 se, .int .i64 me, .int .u32 cr, .int .i64 pk, .int .i64 sz, .bool gw, .bool gl]] w (CQ (.int .i64 (flagI nm gl)) w) := by
  have HB := Lib.hid ((Below.refl w.heap.size w).alloc (Nat.le_refl _) (.cells #[.string nm, .int .i64 y, .int .i64 mo, .int .i64 da, .int .i64 ho, .int .i64 mi, .int .i64 se, .int .i64 me, .int .u32 cr, .int .i64 pk, .int .i64 sz, .bool gw, .bool gl] 28))
  unfold flagI
  have HN : Hid (∀ k (h : k < nm.size), 126 < (nm[k]).toNat → asc nm = false) := Lib.hid (fun k h hb => ascT_no nm k h hb)
  have HE : Hid (∀ k, k = nm.size → ascT nm k = asc nm) := Lib.hid (fun k h => by rw [h]; rfl)
  have HS : Hid (∀ k (h : k < nm.size), ascT nm (k + 1) = (ascT nm k && decide ((nm[k]).toNat ≤ 126))) := Lib.hid (ascT_step nm)
  have H0 : Hid (ascT nm 0 = true) := Lib.hid rfl
  generalize asc nm = c at *
  generalize ascT nm = f at *
  cases gl
  all_goals
    go_enter Tryd.func14, Tryd.ntmps14
    go_wp2_with (fail)
    go_loop [4] (fun i => ∃ k : Nat, i = .int .i64 k ∧ k ≤ nm.size ∧ Hid (f k = true)) (fun i => nm.size - (intOf i).toNat)
    case atStart => exact ⟨0, rfl, by omega, H0⟩
    case round =>
      obtain ⟨k, rfl, hk, HF⟩ := hrel
      by_cases hlt : k < nm.size
      · by_cases hb : 126 < (nm[k]).toNat
        · have HX := Lib.hid (HN.out k hlt hb)
          have hb' : decide ((126 : Int) < ((nm[k]).toNat : Int)) = true := decide_eq_true (by omega)
          clear hb
          go_wp2_with (fail)
          go_ret
          exact ⟨by rw [HX.out]; rfl, HB.out⟩
        · have HX := Lib.hid (HS.out k hlt)
          have hb' : decide ((126 : Int) < ((nm[k]).toNat : Int)) = false := decide_eq_false (by omega)
          have hb2 := Lib.hid hb
          clear hb
          go_wp2_with (fail)
          go_round
          case rel => exact ⟨k + 1, by go_num, by omega, Lib.hid (by rw [HX.out, HF.out]; have := hb2.out; simp; omega)⟩
          case measure => simp [intOf]; omega
      · have HX := Lib.hid (HE.out k (by omega))
        go_wp2_with (fail)
        go_ret
        exact ⟨by rw [← HX.out, HF.out]; rfl, HB.out⟩
/-- What Check says of a header. -/
def LC (b r : Bool) (me pk sz c : Int) : Prop :=
  (b = false ∧ c = 10) ∨ (b = true ∧ r = false ∧ c = 34) ∨ (b = true ∧ r = true ∧ (me ≠ 0 ∧ me ≠ 8) ∧ c = 33) ∨
  (b = true ∧ r = true ∧ (me = 0 ∨ me = 8) ∧ (sz < 0 ∨ 0 ≤ sz ∧ (16777216 < sz ∨ sz ≤ 16777216 ∧ (pk < 0 ∨ 0 ≤ pk ∧ 33554432 < pk))) ∧ c = 13) ∨
  (b = true ∧ r = true ∧ me = 0 ∧ (0 ≤ sz ∧ sz ≤ 16777216 ∧ 0 ≤ pk ∧ pk ≤ 33554432) ∧ pk ≠ sz ∧ c = 13) ∨
  (b = true ∧ r = true ∧ me = 0 ∧ (0 ≤ sz ∧ sz ≤ 16777216) ∧ pk = sz ∧ c = 0) ∨
  (b = true ∧ r = true ∧ me = 8 ∧ (0 ≤ sz ∧ sz ≤ 16777216 ∧ 0 ≤ pk ∧ pk ≤ 33554432) ∧ c = 0)
def lcode (b r : Bool) (me pk sz : Int) : Int :=
  if b = false then 10 else if r = false then 34 else if me ≠ 0 ∧ me ≠ 8 then 33 else
  if sz < 0 ∨ 16777216 < sz ∨ pk < 0 ∨ 33554432 < pk ∨ (me = 0 ∧ pk ≠ sz) then 13 else 0
theorem lcode_LC (b r : Bool) (me pk sz : Int) : LC b r me pk sz (lcode b r me pk sz) := by
  unfold LC lcode
  cases b <;> cases r <;> simp
  split
  · omega
  · split <;> omega
theorem lcode_0 {b r : Bool} {me pk sz : Int} (h : lcode b r me pk sz = 0) : b = true ∧ r = true ∧ (me = 0 ∨ me = 8) ∧ 0 ≤ sz ∧ sz ≤ 16777216 ∧ 0 ≤ pk ∧ pk ≤ 33554432 ∧ (me = 0 → pk = sz) := by
  have := lcode_LC b r me pk sz
  rw [h] at this
  unfold LC at this
  rcases this with ⟨_, h⟩ | ⟨_, _, h⟩ | ⟨_, _, _, h⟩ | ⟨_, _, _, _, h⟩ | ⟨_, _, _, _, _, h⟩ | ⟨h1, h2, h3, h4, h5, _⟩ | ⟨h1, h2, h3, h4, _⟩
  · omega
  · omega
  · omega
  · omega
  · omega
  · exact ⟨h1, h2, by omega, by omega, by omega, by omega, by omega, fun _ => h5⟩
  · exact ⟨h1, h2, by omega, by omega, by omega, by omega, by omega, by omega⟩
set_option maxHeartbeats 4000000 in
theorem lcheck_core (nm : ByteArray) (y mo da ho mi se me cr pk sz : Int) (gw gl : Bool) (c : Int) (b r : Bool) (w : World) (h : LC b r me pk sz c)
    (HN : Hid (∀ W, Below w.heap.size w W → Calls Tryd.prog 27 #[.string nm] W fun e w' => e = .returned (.int .i64 (cond b 0 10)) ∧ Below W.heap.size W w'))
    (HR : Hid (∀ W, Calls Tryd.prog 28 #[.agg #[.int .i64 y, .int .i64 mo, .int .i64 da, .int .i64 ho, .int .i64 mi, .int .i64 se]] W fun e w' => e = .returned (.bool r) ∧ Below W.heap.size W w')) : Calls Tryd.prog 10 #[.agg #[.string nm, .int .i64 y, .int .i64 mo, .int .i64 da, .int .i64 ho, .int .i64 mi, .int .i64 se, .int .i64 me, .int .u32 cr, .int .i64 pk, .int .i64 sz, .bool gw, .bool gl]] w (CQ (.int .i64 c) w) := by
  have HB := Lib.hid ((Below.refl w.heap.size w).alloc (Nat.le_refl _) (.cells #[.string nm, .int .i64 y, .int .i64 mo, .int .i64 da, .int .i64 ho, .int .i64 mi, .int .i64 se, .int .i64 me, .int .u32 cr, .int .i64 pk, .int .i64 sz, .bool gw, .bool gl] 26))
  have HC := Lib.hid (Cells.new_at w [.string nm, .int .i64 y, .int .i64 mo, .int .i64 da, .int .i64 ho, .int .i64 mi, .int .i64 se, .int .i64 me, .int .u32 cr, .int .i64 pk, .int .i64 sz, .bool gw, .bool gl] 26 w.heap.size rfl)
  unfold LC at h
  rcases h with ⟨rfl, rfl⟩ | ⟨rfl, rfl, rfl⟩ | ⟨rfl, rfl, ⟨m1, m2⟩, rfl⟩ | ⟨rfl, rfl, m1, m2, rfl⟩ | ⟨rfl, rfl, rfl, ⟨m1, m2, m3, m4⟩, m5, rfl⟩ | ⟨rfl, rfl, rfl, ⟨m1, m2⟩, rfl, rfl⟩ | ⟨rfl, rfl, rfl, ⟨m1, m2, m3, m4⟩, rfl⟩
  · go_enter Tryd.func10, Tryd.ntmps10
    go_wp2_with (fail)
    refine (HN.out _ HB.out).mono ?_
    rintro e w1 ⟨rfl, b1⟩
    have HB1 := Lib.hid (HB.out.trans (b1.mono (by simp)))
    have HC1 := Lib.hid (HC.out.below b1 (by simp))
    have hz1 := b1.size
    simp only [World.size_alloc] at hz1
    clear b1
    go_wp2_with (fail)
    go_ret
    exact ⟨rfl, HB1.out⟩
  · go_enter Tryd.func10, Tryd.ntmps10
    go_wp2_with (fail)
    refine (HN.out _ HB.out).mono ?_
    rintro e w1 ⟨rfl, b1⟩
    have HB1 := Lib.hid (HB.out.trans (b1.mono (by simp)))
    have HC1 := Lib.hid (HC.out.below b1 (by simp))
    have hz1 := b1.size
    simp only [World.size_alloc] at hz1
    clear b1
    have k1 := HC1.out 1 _ rfl
    have k2 := HC1.out 2 _ rfl
    have k3 := HC1.out 3 _ rfl
    have k4 := HC1.out 4 _ rfl
    have k5 := HC1.out 5 _ rfl
    have k6 := HC1.out 6 _ rfl
    go_wp2_with (fail)
    refine (HR.out _).mono ?_
    rintro e w2 ⟨rfl, b2⟩
    have HB2 := Lib.hid (HB1.out.trans (b2.mono (by omega)))
    have HC2 := Lib.hid (HC1.out.below b2 (by omega))
    clear b2 k1 k2 k3 k4 k5 k6
    go_wp2_with (fail)
    go_ret
    exact ⟨rfl, HB2.out⟩
  · have m1b : (me != 0) = true := by simpa using m1
    have m2b : (me != 8) = true := by simpa using m2
    go_enter Tryd.func10, Tryd.ntmps10
    go_wp2_with (fail)
    refine (HN.out _ HB.out).mono ?_
    rintro e w1 ⟨rfl, b1⟩
    have HB1 := Lib.hid (HB.out.trans (b1.mono (by simp)))
    have HC1 := Lib.hid (HC.out.below b1 (by simp))
    have hz1 := b1.size
    simp only [World.size_alloc] at hz1
    clear b1
    have k1 := HC1.out 1 _ rfl
    have k2 := HC1.out 2 _ rfl
    have k3 := HC1.out 3 _ rfl
    have k4 := HC1.out 4 _ rfl
    have k5 := HC1.out 5 _ rfl
    have k6 := HC1.out 6 _ rfl
    go_wp2_with (fail)
    refine (HR.out _).mono ?_
    rintro e w2 ⟨rfl, b2⟩
    have HB2 := Lib.hid (HB1.out.trans (b2.mono (by omega)))
    have HC2 := Lib.hid (HC1.out.below b2 (by omega))
    clear b2 k1 k2 k3 k4 k5 k6
    have k7 := HC2.out 7 _ rfl
    have k9 := HC2.out 9 _ rfl
    have k10 := HC2.out 10 _ rfl
    go_wp2_with (fail)
    go_ret
    exact ⟨rfl, HB2.out⟩
  · rcases m1 with rfl | rfl <;> rcases m2 with m2 | ⟨m2, m3 | ⟨m3, m4 | ⟨m4, m5⟩⟩⟩
    all_goals
      go_enter Tryd.func10, Tryd.ntmps10
      go_wp2_with (fail)
      refine (HN.out _ HB.out).mono ?_
      rintro e w1 ⟨rfl, b1⟩
      have HB1 := Lib.hid (HB.out.trans (b1.mono (by simp)))
      have HC1 := Lib.hid (HC.out.below b1 (by simp))
      have hz1 := b1.size
      simp only [World.size_alloc] at hz1
      clear b1
      have k1 := HC1.out 1 _ rfl
      have k2 := HC1.out 2 _ rfl
      have k3 := HC1.out 3 _ rfl
      have k4 := HC1.out 4 _ rfl
      have k5 := HC1.out 5 _ rfl
      have k6 := HC1.out 6 _ rfl
      go_wp2_with (fail)
      refine (HR.out _).mono ?_
      rintro e w2 ⟨rfl, b2⟩
      have HB2 := Lib.hid (HB1.out.trans (b2.mono (by omega)))
      have HC2 := Lib.hid (HC1.out.below b2 (by omega))
      clear b2 k1 k2 k3 k4 k5 k6
      have k7 := HC2.out 7 _ rfl
      have k9 := HC2.out 9 _ rfl
      have k10 := HC2.out 10 _ rfl
      go_wp2_with (fail)
      go_ret
      exact ⟨rfl, HB2.out⟩
  · have m5b : (pk != sz) = true := by simp; omega
    go_enter Tryd.func10, Tryd.ntmps10
    go_wp2_with (fail)
    refine (HN.out _ HB.out).mono ?_
    rintro e w1 ⟨rfl, b1⟩
    have HB1 := Lib.hid (HB.out.trans (b1.mono (by simp)))
    have HC1 := Lib.hid (HC.out.below b1 (by simp))
    have hz1 := b1.size
    simp only [World.size_alloc] at hz1
    clear b1
    have k1 := HC1.out 1 _ rfl
    have k2 := HC1.out 2 _ rfl
    have k3 := HC1.out 3 _ rfl
    have k4 := HC1.out 4 _ rfl
    have k5 := HC1.out 5 _ rfl
    have k6 := HC1.out 6 _ rfl
    go_wp2_with (fail)
    refine (HR.out _).mono ?_
    rintro e w2 ⟨rfl, b2⟩
    have HB2 := Lib.hid (HB1.out.trans (b2.mono (by omega)))
    have HC2 := Lib.hid (HC1.out.below b2 (by omega))
    clear b2 k1 k2 k3 k4 k5 k6
    have k7 := HC2.out 7 _ rfl
    have k9 := HC2.out 9 _ rfl
    have k10 := HC2.out 10 _ rfl
    go_wp2_with (fail)
    go_ret
    exact ⟨rfl, HB2.out⟩
  · have m5b : (pk != pk) = false := by simp
    go_enter Tryd.func10, Tryd.ntmps10
    go_wp2_with (fail)
    refine (HN.out _ HB.out).mono ?_
    rintro e w1 ⟨rfl, b1⟩
    have HB1 := Lib.hid (HB.out.trans (b1.mono (by simp)))
    have HC1 := Lib.hid (HC.out.below b1 (by simp))
    have hz1 := b1.size
    simp only [World.size_alloc] at hz1
    clear b1
    have k1 := HC1.out 1 _ rfl
    have k2 := HC1.out 2 _ rfl
    have k3 := HC1.out 3 _ rfl
    have k4 := HC1.out 4 _ rfl
    have k5 := HC1.out 5 _ rfl
    have k6 := HC1.out 6 _ rfl
    go_wp2_with (fail)
    refine (HR.out _).mono ?_
    rintro e w2 ⟨rfl, b2⟩
    have HB2 := Lib.hid (HB1.out.trans (b2.mono (by omega)))
    have HC2 := Lib.hid (HC1.out.below b2 (by omega))
    clear b2 k1 k2 k3 k4 k5 k6
    have k7 := HC2.out 7 _ rfl
    have k9 := HC2.out 9 _ rfl
    have k10 := HC2.out 10 _ rfl
    go_wp2_with (fail)
    go_ret
    exact ⟨rfl, HB2.out⟩
  · go_enter Tryd.func10, Tryd.ntmps10
    go_wp2_with (fail)
    refine (HN.out _ HB.out).mono ?_
    rintro e w1 ⟨rfl, b1⟩
    have HB1 := Lib.hid (HB.out.trans (b1.mono (by simp)))
    have HC1 := Lib.hid (HC.out.below b1 (by simp))
    have hz1 := b1.size
    simp only [World.size_alloc] at hz1
    clear b1
    have k1 := HC1.out 1 _ rfl
    have k2 := HC1.out 2 _ rfl
    have k3 := HC1.out 3 _ rfl
    have k4 := HC1.out 4 _ rfl
    have k5 := HC1.out 5 _ rfl
    have k6 := HC1.out 6 _ rfl
    go_wp2_with (fail)
    refine (HR.out _).mono ?_
    rintro e w2 ⟨rfl, b2⟩
    have HB2 := Lib.hid (HB1.out.trans (b2.mono (by omega)))
    have HC2 := Lib.hid (HC1.out.below b2 (by omega))
    clear b2 k1 k2 k3 k4 k5 k6
    have k7 := HC2.out 7 _ rfl
    have k9 := HC2.out 9 _ rfl
    have k10 := HC2.out 10 _ rfl
    go_wp2_with (fail)
    go_ret
    exact ⟨rfl, HB2.out⟩
theorem lcheck_any (nm : ByteArray) (y mo da ho mi se me cr pk sz : Int) (gw gl : Bool) (w : World) (hA : Amb w) : Calls Tryd.prog 10 #[.agg #[.string nm, .int .i64 y, .int .i64 mo, .int .i64 da, .int .i64 ho, .int .i64 mi, .int .i64 se, .int .i64 me, .int .u32 cr, .int .i64 pk, .int .i64 sz, .bool gw, .bool gl]] w (CQ (.int .i64 (lcode (chk nm) (Dos.rightB y mo da ho mi se) me pk sz)) w) :=
  lcheck_core nm y mo da ho mi se me cr pk sz gw gl _ (chk nm) (Dos.rightB y mo da ho mi se) w (lcode_LC _ _ _ _ _) (Lib.hid fun W hb => check_any nm W (hA.below hb)) (Lib.hid fun W => Dos.right_any y mo da ho mi se W)
set_option maxHeartbeats 4000000 in
theorem refLcheck_core (nm : ByteArray) (y mo da ho mi se me cr pk sz : Int) (gw gl : Bool) (c : Int) (b r : Bool) (w : World) (h : LC b r me pk sz c)
    (HN : Hid (∀ W, Below w.heap.size w W → Calls Tryd.prog 23 #[.string nm] W fun e w' => e = .returned (.bool b) ∧ Below W.heap.size W w'))
    (HR : Hid (∀ W, Calls Tryd.prog 24 #[.agg #[.int .i64 y, .int .i64 mo, .int .i64 da, .int .i64 ho, .int .i64 mi, .int .i64 se]] W fun e w' => e = .returned (.bool r) ∧ Below W.heap.size W w')) : Calls Tryd.prog 8 #[.agg #[.string nm, .int .i64 y, .int .i64 mo, .int .i64 da, .int .i64 ho, .int .i64 mi, .int .i64 se, .int .i64 me, .int .u32 cr, .int .i64 pk, .int .i64 sz, .bool gw, .bool gl]] w (CQ (.int .i64 c) w) := by
  have HB := Lib.hid ((Below.refl w.heap.size w).alloc (Nat.le_refl _) (.cells #[.string nm, .int .i64 y, .int .i64 mo, .int .i64 da, .int .i64 ho, .int .i64 mi, .int .i64 se, .int .i64 me, .int .u32 cr, .int .i64 pk, .int .i64 sz, .bool gw, .bool gl] 28))
  have HC := Lib.hid (Cells.new_at w [.string nm, .int .i64 y, .int .i64 mo, .int .i64 da, .int .i64 ho, .int .i64 mi, .int .i64 se, .int .i64 me, .int .u32 cr, .int .i64 pk, .int .i64 sz, .bool gw, .bool gl] 28 w.heap.size rfl)
  unfold LC at h
  rcases h with ⟨rfl, rfl⟩ | ⟨rfl, rfl, rfl⟩ | ⟨rfl, rfl, ⟨m1, m2⟩, rfl⟩ | ⟨rfl, rfl, m1, m2, rfl⟩ | ⟨rfl, rfl, rfl, ⟨m1, m2, m3, m4⟩, m5, rfl⟩ | ⟨rfl, rfl, rfl, ⟨m1, m2⟩, rfl, rfl⟩ | ⟨rfl, rfl, rfl, ⟨m1, m2, m3, m4⟩, rfl⟩
  · go_enter Tryd.func8, Tryd.ntmps8
    go_wp2_with (fail)
    refine (HN.out _ HB.out).mono ?_
    rintro e w1 ⟨rfl, b1⟩
    have HB1 := Lib.hid (HB.out.trans (b1.mono (by simp)))
    have HC1 := Lib.hid (HC.out.below b1 (by simp))
    have hz1 := b1.size
    simp only [World.size_alloc] at hz1
    clear b1
    go_wp2_with (fail)
    go_ret
    exact ⟨rfl, HB1.out⟩
  · go_enter Tryd.func8, Tryd.ntmps8
    go_wp2_with (fail)
    refine (HN.out _ HB.out).mono ?_
    rintro e w1 ⟨rfl, b1⟩
    have HB1 := Lib.hid (HB.out.trans (b1.mono (by simp)))
    have HC1 := Lib.hid (HC.out.below b1 (by simp))
    have hz1 := b1.size
    simp only [World.size_alloc] at hz1
    clear b1
    have k1 := HC1.out 1 _ rfl
    have k2 := HC1.out 2 _ rfl
    have k3 := HC1.out 3 _ rfl
    have k4 := HC1.out 4 _ rfl
    have k5 := HC1.out 5 _ rfl
    have k6 := HC1.out 6 _ rfl
    go_wp2_with (fail)
    refine (HR.out _).mono ?_
    rintro e w2 ⟨rfl, b2⟩
    have HB2 := Lib.hid (HB1.out.trans (b2.mono (by omega)))
    have HC2 := Lib.hid (HC1.out.below b2 (by omega))
    clear b2 k1 k2 k3 k4 k5 k6
    go_wp2_with (fail)
    go_ret
    exact ⟨rfl, HB2.out⟩
  · have m1b : (me != 0) = true := by simpa using m1
    have m2b : (me != 8) = true := by simpa using m2
    go_enter Tryd.func8, Tryd.ntmps8
    go_wp2_with (fail)
    refine (HN.out _ HB.out).mono ?_
    rintro e w1 ⟨rfl, b1⟩
    have HB1 := Lib.hid (HB.out.trans (b1.mono (by simp)))
    have HC1 := Lib.hid (HC.out.below b1 (by simp))
    have hz1 := b1.size
    simp only [World.size_alloc] at hz1
    clear b1
    have k1 := HC1.out 1 _ rfl
    have k2 := HC1.out 2 _ rfl
    have k3 := HC1.out 3 _ rfl
    have k4 := HC1.out 4 _ rfl
    have k5 := HC1.out 5 _ rfl
    have k6 := HC1.out 6 _ rfl
    go_wp2_with (fail)
    refine (HR.out _).mono ?_
    rintro e w2 ⟨rfl, b2⟩
    have HB2 := Lib.hid (HB1.out.trans (b2.mono (by omega)))
    have HC2 := Lib.hid (HC1.out.below b2 (by omega))
    clear b2 k1 k2 k3 k4 k5 k6
    have k7 := HC2.out 7 _ rfl
    have k9 := HC2.out 9 _ rfl
    have k10 := HC2.out 10 _ rfl
    go_wp2_with (fail)
    go_ret
    exact ⟨rfl, HB2.out⟩
  · rcases m1 with rfl | rfl <;> rcases m2 with m2 | ⟨m2, m3 | ⟨m3, m4 | ⟨m4, m5⟩⟩⟩
    all_goals
      go_enter Tryd.func8, Tryd.ntmps8
      go_wp2_with (fail)
      refine (HN.out _ HB.out).mono ?_
      rintro e w1 ⟨rfl, b1⟩
      have HB1 := Lib.hid (HB.out.trans (b1.mono (by simp)))
      have HC1 := Lib.hid (HC.out.below b1 (by simp))
      have hz1 := b1.size
      simp only [World.size_alloc] at hz1
      clear b1
      have k1 := HC1.out 1 _ rfl
      have k2 := HC1.out 2 _ rfl
      have k3 := HC1.out 3 _ rfl
      have k4 := HC1.out 4 _ rfl
      have k5 := HC1.out 5 _ rfl
      have k6 := HC1.out 6 _ rfl
      go_wp2_with (fail)
      refine (HR.out _).mono ?_
      rintro e w2 ⟨rfl, b2⟩
      have HB2 := Lib.hid (HB1.out.trans (b2.mono (by omega)))
      have HC2 := Lib.hid (HC1.out.below b2 (by omega))
      clear b2 k1 k2 k3 k4 k5 k6
      have k7 := HC2.out 7 _ rfl
      have k9 := HC2.out 9 _ rfl
      have k10 := HC2.out 10 _ rfl
      go_wp2_with (fail)
      go_ret
      exact ⟨rfl, HB2.out⟩
  · have m5b : (sz != pk) = true := by simp; omega
    go_enter Tryd.func8, Tryd.ntmps8
    go_wp2_with (fail)
    refine (HN.out _ HB.out).mono ?_
    rintro e w1 ⟨rfl, b1⟩
    have HB1 := Lib.hid (HB.out.trans (b1.mono (by simp)))
    have HC1 := Lib.hid (HC.out.below b1 (by simp))
    have hz1 := b1.size
    simp only [World.size_alloc] at hz1
    clear b1
    have k1 := HC1.out 1 _ rfl
    have k2 := HC1.out 2 _ rfl
    have k3 := HC1.out 3 _ rfl
    have k4 := HC1.out 4 _ rfl
    have k5 := HC1.out 5 _ rfl
    have k6 := HC1.out 6 _ rfl
    go_wp2_with (fail)
    refine (HR.out _).mono ?_
    rintro e w2 ⟨rfl, b2⟩
    have HB2 := Lib.hid (HB1.out.trans (b2.mono (by omega)))
    have HC2 := Lib.hid (HC1.out.below b2 (by omega))
    clear b2 k1 k2 k3 k4 k5 k6
    have k7 := HC2.out 7 _ rfl
    have k9 := HC2.out 9 _ rfl
    have k10 := HC2.out 10 _ rfl
    go_wp2_with (fail)
    go_ret
    exact ⟨rfl, HB2.out⟩
  · have m5b : (pk != pk) = false := by simp
    go_enter Tryd.func8, Tryd.ntmps8
    go_wp2_with (fail)
    refine (HN.out _ HB.out).mono ?_
    rintro e w1 ⟨rfl, b1⟩
    have HB1 := Lib.hid (HB.out.trans (b1.mono (by simp)))
    have HC1 := Lib.hid (HC.out.below b1 (by simp))
    have hz1 := b1.size
    simp only [World.size_alloc] at hz1
    clear b1
    have k1 := HC1.out 1 _ rfl
    have k2 := HC1.out 2 _ rfl
    have k3 := HC1.out 3 _ rfl
    have k4 := HC1.out 4 _ rfl
    have k5 := HC1.out 5 _ rfl
    have k6 := HC1.out 6 _ rfl
    go_wp2_with (fail)
    refine (HR.out _).mono ?_
    rintro e w2 ⟨rfl, b2⟩
    have HB2 := Lib.hid (HB1.out.trans (b2.mono (by omega)))
    have HC2 := Lib.hid (HC1.out.below b2 (by omega))
    clear b2 k1 k2 k3 k4 k5 k6
    have k7 := HC2.out 7 _ rfl
    have k9 := HC2.out 9 _ rfl
    have k10 := HC2.out 10 _ rfl
    go_wp2_with (fail)
    go_ret
    exact ⟨rfl, HB2.out⟩
  · go_enter Tryd.func8, Tryd.ntmps8
    go_wp2_with (fail)
    refine (HN.out _ HB.out).mono ?_
    rintro e w1 ⟨rfl, b1⟩
    have HB1 := Lib.hid (HB.out.trans (b1.mono (by simp)))
    have HC1 := Lib.hid (HC.out.below b1 (by simp))
    have hz1 := b1.size
    simp only [World.size_alloc] at hz1
    clear b1
    have k1 := HC1.out 1 _ rfl
    have k2 := HC1.out 2 _ rfl
    have k3 := HC1.out 3 _ rfl
    have k4 := HC1.out 4 _ rfl
    have k5 := HC1.out 5 _ rfl
    have k6 := HC1.out 6 _ rfl
    go_wp2_with (fail)
    refine (HR.out _).mono ?_
    rintro e w2 ⟨rfl, b2⟩
    have HB2 := Lib.hid (HB1.out.trans (b2.mono (by omega)))
    have HC2 := Lib.hid (HC1.out.below b2 (by omega))
    clear b2 k1 k2 k3 k4 k5 k6
    have k7 := HC2.out 7 _ rfl
    have k9 := HC2.out 9 _ rfl
    have k10 := HC2.out 10 _ rfl
    go_wp2_with (fail)
    go_ret
    exact ⟨rfl, HB2.out⟩
theorem refLcheck_any (nm : ByteArray) (y mo da ho mi se me cr pk sz : Int) (gw gl : Bool) (w : World) : Calls Tryd.prog 8 #[.agg #[.string nm, .int .i64 y, .int .i64 mo, .int .i64 da, .int .i64 ho, .int .i64 mi, .int .i64 se, .int .i64 me, .int .u32 cr, .int .i64 pk, .int .i64 sz, .bool gw, .bool gl]] w (CQ (.int .i64 (lcode (chk nm) (Dos.rightB y mo da ho mi se) me pk sz)) w) :=
  refLcheck_core nm y mo da ho mi se me cr pk sz gw gl _ (chk nm) (Dos.rightB y mo da ho mi se) w (lcode_LC _ _ _ _ _) (Lib.hid fun W _ => refCheck_any nm W) (Lib.hid fun W => Dos.refRight_any y mo da ho mi se W)
end Go.Proofs.YtcpojpgdjjmfbaaDoor
