/- NameChecks: the walk. -/
import Derived.Test.YtjklhkananjijaaDoorNmN
set_option linter.unusedVariables false
set_option linter.unusedSimpArgs false
namespace Go.Proofs.YtjklhkananjijaaDoor
open Go.RowKit
theorem CQ.step {v : Value} {w w1 : World} {e : Ending} {w' : World} (h : CQ v w1 e w') (hb : Below w.heap.size w w1) : CQ v w e w' := ⟨h.1, hb.trans (h.2.mono hb.size)⟩
set_option maxHeartbeats 1000000 in
theorem checks_long (s : ByteArray) (w : World) (hA : Amb w) (hs : 1000 < s.size) (hm : s.size ≤ 9223372036854775807) : Calls Tryd.prog 5 #[.string s] w (CQ (.bool true) w) := by
  have K1 := Lib.hid (awake_any w hA)
  clear hA
  go_enter Tryd.func5, Tryd.ntmps5
  go_wp2_with (fail)
  refine K1.out.mono ?_
  rintro e w1 ⟨rfl, b1⟩
  have B1 := Lib.hid b1
  clear b1 K1
  go_wp2_with (fail)
  go_ret
  exact ⟨rfl, B1.out⟩
set_option maxHeartbeats 2000000 in
theorem checks_go (s : ByteArray) (w : World) (hA : Amb w) (hs : s.size ≤ 1000) : Calls Tryd.prog 5 #[.string s] w (CQ (.bool true) w) := by
  have K1 := Lib.hid (awake_any w hA)
  have HC : Hid (∀ w, Amb w → Calls Tryd.prog 13 #[.string s] w fun e w' => e = .returned (.int .i64 (cond (chk s) 0 10)) ∧ Below w.heap.size w w') := Lib.hid (fun w h => check_any s w h)
  have HR : Hid (∀ w, Calls Tryd.prog 17 #[.string s] w fun e w' => e = .returned (.bool (chk s)) ∧ Below w.heap.size w w') := Lib.hid (fun w => refCheck_any s w)
  have HU : Hid (∀ w, Amb w → Calls Tryd.prog 14 #[.string s] w fun e w' => e = .returned (.bool (u8 s)) ∧ Below w.heap.size w w') := Lib.hid (fun w h => utf8_any s w h (by omega))
  have HV : Hid (∀ w, Calls Tryd.prog 15 #[.string s] w fun e w' => e = .returned (.bool (u8 s)) ∧ Below w.heap.size w w') := Lib.hid (fun w => refUtf8_any s w (by omega))
  have HI : Hid (∀ w, Calls Tryd.prog 16 #[.string s] w fun e w' => e = .returned (.bool (asc s)) ∧ w = w') := Lib.hid (fun w => ascii_any s w (by omega))
  have HE : Hid (∀ k, k = s.size → ascT s k = asc s) := Lib.hid (fun k h => by rw [h]; rfl)
  have HS : Hid (∀ k (h : k < s.size), ascT s (k + 1) = (ascT s k && decide ((s[k]).toNat ≤ 126))) := Lib.hid (ascT_step s)
  have H0 : Hid (ascT s 0 = true) := Lib.hid rfl
  have HA := Lib.hid hA
  clear hA
  generalize chk s = c at *
  generalize u8 s = u at *
  generalize asc s = x at *
  generalize ascT s = f at *
  go_enter Tryd.func5, Tryd.ntmps5
  go_wp2_with (fail)
  refine K1.out.mono ?_
  rintro e w1 ⟨rfl, b1⟩
  have B1 := Lib.hid b1
  clear b1 K1
  go_wp2_with (fail)
  go_loop [3, 4, 11, 12, 13, 14, 15, 16, 17, 18, 19, 20, 21, 22, 23] (fun b i _ _ _ _ _ _ _ _ _ _ _ _ _ => ∃ k : Nat, i = .int .i64 k ∧ k ≤ s.size ∧ ∃ y, b = .bool y ∧ Hid (y = f k)) (fun _ i _ _ _ _ _ _ _ _ _ _ _ _ _ => s.size - (intOf i).toNat)
  case atStart => exact ⟨0, rfl, by omega, true, rfl, Lib.hid H0.out.symm⟩
  case round =>
    obtain ⟨k, rfl, hk, y, rfl, HF⟩ := hrel
    by_cases hlt : k < s.size
    · have HX := Lib.hid (HS.out k hlt)
      cases y with
      | true =>
        have q : (decide ((s[k]).toNat ≤ 126)) = decide (((s[k]).toNat : Int) ≤ 126) := by rw [Bool.eq_iff_iff]; simp; omega
        have Q := Lib.hid q
        clear q
        go_wp2_with (fail)
        go_round
        case rel => exact ⟨k + 1, by go_num, by omega, _, rfl, Lib.hid (by rw [HX.out, ← HF.out, Q.out]; rfl)⟩
        case measure => simp [intOf]; omega
      | false =>
        go_wp2_with (fail)
        go_round
        case rel => exact ⟨k + 1, by go_num, by omega, _, rfl, Lib.hid (by rw [HX.out, ← HF.out]; rfl)⟩
        case measure => simp [intOf]; omega
    · have HX := Lib.hid (HF.out.trans (HE.out k (by omega)))
      go_wp2_with (fail)
      refine (HC.out w1 (HA.out.below B1.out)).mono ?_
      rintro e w2 ⟨rfl, b2⟩
      have B2 := Lib.hid (B1.out.trans (b2.mono B1.out.size))
      clear b2
      go_wp2_with (fail)
      refine (HU.out w2 (HA.out.below B2.out)).mono ?_
      rintro e w3 ⟨rfl, b2⟩
      have B3 := Lib.hid (B2.out.trans (b2.mono B2.out.size))
      clear b2
      go_wp2_with (fail)
      refine (HV.out w3).mono ?_
      rintro e w4 ⟨rfl, b2⟩
      have B4 := Lib.hid (B3.out.trans (b2.mono B3.out.size))
      clear b2
      have hu : (u == u) = true := by cases u <;> rfl
      obtain rfl := HX.out
      have hy : (y == y) = true := by cases y <;> rfl
      go_wp2_with (fail)
      refine (HI.out w4).mono ?_
      rintro e w5 ⟨rfl, rfl⟩
      go_wp2_with (fail)
      refine (HR.out w4).mono ?_
      rintro e w5 ⟨rfl, b2⟩
      have B5 := Lib.hid (B4.out.trans (b2.mono B4.out.size))
      clear b2
      cases c
      all_goals
        go_wp2_with (fail)
        go_ret
        exact ⟨rfl, B5.out⟩
theorem checks_walk (s : ByteArray) (w : World) (hA : Amb w) (hm : s.size ≤ 9223372036854775807) : Calls Tryd.prog 5 #[.string s] w (CQ (.bool true) w) := by
  by_cases h : 1000 < s.size
  · exact checks_long s w hA h hm
  · exact checks_go s w hA (by omega)
end Go.Proofs.YtjklhkananjijaaDoor
