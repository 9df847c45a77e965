/- The spans of all chains by their places. -/
import Derived.Test.YtfnaoekkdgndkaaCpF
import Derived.Test.YtfnaoekkdgndkaaSrI
namespace Go.Proofs.Ytfnaoekkdgndkaa
set_option maxRecDepth 100000
set_option linter.unusedVariables false
set_option linter.unusedSimpArgs false
open Go.RowKit
def cmpN (a b : Nat) : Int := if a < b then -1 else if b < a then 1 else 0
theorem isNaN_any (a : Int) (w : World) : Calls Try.prog 28 #[.int .i64 a] w fun e w' => e = .returned (.bool false) ∧ w' = w := by
  have d : (a != a) = false := by simp
  go_enter Try.func28, Try.ntmps28
  go_wp2_with (fail)
  go_ret
  exact ⟨by rfl, rfl⟩
set_option maxHeartbeats 1000000 in
theorem compare_any (a b : Nat) (w : World) : Calls Try.prog 26 #[.int .i64 (a : Nat), .int .i64 (b : Nat)] w fun e w' => e = .returned (.int .i64 (cmpN a b)) ∧ w' = w := by
  have H1 := Lib.hid (fun W : World => isNaN_any (a : Nat) W)
  have H2 := Lib.hid (fun W : World => isNaN_any (b : Nat) W)
  have step : ∀ c : Int, cmpN a b = c → ∀ (d1 : decide (a < b) = decide (a < b)), True := fun _ _ _ => trivial
  clear step
  go_enter Try.func26, Try.ntmps26
  go_wp2_with (fail)
  refine (H1.out _).mono ?_
  rintro e w' ⟨rfl, rfl⟩
  go_wp2_with (fail)
  refine (H2.out _).mono ?_
  rintro e w' ⟨rfl, rfl⟩
  rcases Nat.lt_trichotomy a b with h | h | h
  · have d1 : decide ((a : Int) < (b : Int)) = true := decide_eq_true (by omega)
    have d2 : decide (a < b) = true := decide_eq_true h
    have HE : Hid (cmpN a b = -1) := Lib.hid (by unfold cmpN; rw [if_pos h])
    clear h
    go_wp2_with (fail)
    go_ret
    exact ⟨by rw [HE.out]; rfl, rfl⟩
  · subst h
    have d1 : decide ((a : Int) < (a : Int)) = false := decide_eq_false (by omega)
    have d2 : decide (a < a) = false := decide_eq_false (by omega)
    have HE : Hid (cmpN a a = 0) := Lib.hid (by unfold cmpN; rw [if_neg (by omega), if_neg (by omega)])
    go_wp2_with (fail)
    go_ret
    exact ⟨by rw [HE.out]; rfl, rfl⟩
  · have d1 : decide ((a : Int) < (b : Int)) = false := decide_eq_false (by omega)
    have d2 : decide (a < b) = false := decide_eq_false (by omega)
    have d3 : decide ((b : Int) < (a : Int)) = true := decide_eq_true (by omega)
    have d4 : decide (b < a) = true := decide_eq_true h
    have HE : Hid (cmpN a b = 1) := Lib.hid (by unfold cmpN; rw [if_neg (by omega), if_pos h])
    clear h
    go_wp2_with (fail)
    go_ret
    exact ⟨by rw [HE.out]; rfl, rfl⟩
def cmpP (x y : El) : Int := cmpN x.a y.a
theorem cmpP_le (x y : El) : cmpP x y < 0 ↔ ¬ leA y x := by
  unfold cmpP cmpN leA
  split
  · simp; omega
  · split
    · simp; omega
    · simp; omega
theorem cmp_enter (args : Array Value) (W : World) : (callFunc 25 args).run Try.prog W = .ok (.enter 25 args) W := by kernel_rfl
set_option maxHeartbeats 1000000 in
theorem cmp_any (x y : El) (w : World) : Calls Try.prog 25 #[enc x, enc y] w fun e w' => e = .returned (.int .i64 (cmpP x y)) ∧ Below w.heap.size w w' := by
  unfold enc
  have H1 := Lib.hid (fun W : World => compare_any x.a y.a W)
  have HP : Hid (cmpP x y = cmpN x.a y.a) := Lib.hid rfl
  obtain ⟨a1, l1, o1, i1⟩ := x
  obtain ⟨a2, l2, o2, i2⟩ := y
  simp only at H1 HP ⊢
  have hb := ((Below.refl w.heap.size w).alloc (Nat.le_refl _) (.cells #[.int .i64 (a1 : Nat), .int .i64 (l1 : Nat), .int .i64 (o1 : Nat), .int .i64 (i1 : Nat)] 66)).alloc (by simp) (.cells #[.int .i64 (a2 : Nat), .int .i64 (l2 : Nat), .int .i64 (o2 : Nat), .int .i64 (i2 : Nat)] 66)
  have HB := Lib.hid hb
  clear hb
  go_enter Try.func25, Try.ntmps25
  go_wp2_with (fail)
  refine (H1.out _).mono ?_
  rintro e w' ⟨rfl, rfl⟩
  go_wp2_with (fail)
  go_ret
  exact ⟨by rw [HP.out]; rfl, HB.out⟩
theorem cmp_ok (b : Nat) (w : World) : CmpOK 25 #[] cmpP b w := by
  intro W _ x y
  exact cmp_any x y W
end Go.Proofs.Ytfnaoekkdgndkaa
