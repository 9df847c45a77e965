/- name.Less and the reference's Less. -/
import Derived.Test.YtjklhkananjijaaDoorNmJ
import Derived.Deep.QuietTactic
import Derived.BigQuiet
set_option linter.unusedVariables false
set_option linter.unusedSimpArgs false
namespace Go.Proofs.YtjklhkananjijaaDoor
open Go.RowKit
theorem bl_drewN {B : Nat} {a w : World} (h : Below B a w) (n : Nat) : Below B a (w.drewN n) := ⟨h.os, h.tape, h.output, h.size, h.block⟩
/-- Part by part. -/
def lessL : List ByteArray → List ByteArray → Bool
  | [], [] => false
  | [], _ :: _ => true
  | _ :: _, [] => false
  | a :: x, b :: y => if a.toList == b.toList then lessL x y else Op.bytesLess a.toList b.toList
theorem lessL_end (x y : List ByteArray) (k : Nat) (h : x.length ≤ k ∨ y.length ≤ k) (hx : k ≤ x.length) (hy : k ≤ y.length) : lessL (x.drop k) (y.drop k) = decide (x.length < y.length) := by
  rcases h with h | h
  · rw [List.drop_eq_nil_of_le h]
    by_cases c : k < y.length
    · rw [List.drop_eq_getElem_cons c]
      show true = _
      rw [decide_eq_true (by omega)]
    · rw [List.drop_eq_nil_of_le (by omega)]
      show false = _
      rw [decide_eq_false (by omega)]
  · rw [List.drop_eq_nil_of_le h]
    by_cases c : k < x.length
    · rw [List.drop_eq_getElem_cons c]
      show false = _
      rw [decide_eq_false (by omega)]
    · rw [List.drop_eq_nil_of_le (by omega)]
      show false = _
      rw [decide_eq_false (by omega)]
theorem lessL_same (x y : List ByteArray) (k : Nat) (hx : k < x.length) (hy : k < y.length) (h : ((x[k]).toList == (y[k]).toList) = true) : lessL (x.drop (k + 1)) (y.drop (k + 1)) = lessL (x.drop k) (y.drop k) := by
  rw [List.drop_eq_getElem_cons hx, List.drop_eq_getElem_cons hy, lessL, if_pos h]
theorem lessL_ne (x y : List ByteArray) (k : Nat) (hx : k < x.length) (hy : k < y.length) (h : ((x[k]).toList == (y[k]).toList) = false) : lessL (x.drop k) (y.drop k) = Op.bytesLess (x[k]).toList (y[k]).toList := by
  rw [List.drop_eq_getElem_cons hx, List.drop_eq_getElem_cons hy, lessL, if_neg (by rw [h]; exact Bool.false_ne_true)]
def LQ (a b : ByteArray) (w : World) (e : Ending) (w' : World) : Prop := e = .returned (.bool (lessL (pieces a) (pieces b))) ∧ Below w.heap.size w w'
set_option maxHeartbeats 1000000 in
theorem less_any (a b : ByteArray) (w : World) (hA : Amb w) (ha : a.size < 4294967281) (hb : b.size < 4294967281) : Calls Tryd.prog 11 #[.string a, .string b] w (LQ a b w) := by
  have la := pieces_le a
  have lb := pieces_le b
  have HA := Lib.hid hA
  clear hA
  have Q1 := Lib.hid (parts_any a w HA.out ha)
  unfold LQ
  unfold PQ at Q1
  have Q2 : ∀ w1, Below w.heap.size w w1 → Hid (Calls Tryd.prog 18 #[.string b] w1 fun e w' => ∃ v, e = .returned v ∧ Strs w' v (pieces b) ∧ Below w1.heap.size w1 w') := fun w1 h1 => Lib.hid (parts_any b w1 (HA.out.below h1) hb)
  have Q2 := Lib.hid Q2
  generalize pieces a = x at *
  generalize pieces b = y at *
  go_enter Tryd.func11, Tryd.ntmps11
  go_wp2_with (fail)
  refine Q1.out.mono ?_
  rintro e w1 ⟨v1, rfl, s1, b1⟩
  have B1 := Lib.hid b1
  have S1 := Lib.hid s1
  clear b1 s1
  go_wp2_with (fail)
  refine (Q2.out w1 B1.out).out.mono ?_
  rintro e w2 ⟨v2, rfl, s2, b2⟩
  have B2 := Lib.hid (B1.out.trans (b2.mono B1.out.size))
  have s1' := S1.out.below b2
  clear b2 S1 Q1 Q2
  obtain ⟨bx, ox, cx, rfl, hbx, cellx⟩ := s1'
  obtain ⟨b_y, oy, cy, rfl, hby, celly⟩ := s2
  have CX := Lib.hid cellx
  have CY := Lib.hid celly
  have ZX := Lib.hid hbx
  have ZY := Lib.hid hby
  clear cellx celly hbx hby
  go_wp2_with (fail)
  go_loopw [7, 17] (fun _ i wr => ∃ k : Nat, i = .int .i64 k ∧ k ≤ x.length ∧ k ≤ y.length ∧ Hid (lessL (x.drop k) (y.drop k) = lessL x y) ∧ Hid (∃ n, wr = w2.drewN n)) (fun _ i _ => x.length - (intOf i).toNat)
  case atStart => exact ⟨0, rfl, by omega, by omega, Lib.hid rfl, Lib.hid ⟨0, rfl⟩⟩
  case round =>
    obtain ⟨k, rfl, hkx, hky, HL, HW⟩ := hrel
    obtain ⟨n0, hw0⟩ := HW.out
    have HW0 := Lib.hid hw0
    clear HW hw0
    by_cases hlt : k < x.length ∧ k < y.length
    · obtain ⟨h1, h2⟩ := hlt
      have g1 : wr.cell? ⟨bx, ox + k, none⟩ = some (.string x[k]) := by rw [HW0.out]; exact CX.out k h1
      have g2 : wr.cell? ⟨b_y, oy + k, none⟩ = some (.string y[k]) := by rw [HW0.out]; exact CY.out k h2
      cases hq : ((x[k]).toList == (y[k]).toList) with
      | true =>
        have HN := Lib.hid (lessL_same x y k h1 h2 hq)
        go_wp2_with (fail)
        go_quiet (fail)
        go_wp2_with (fail)
        go_roundw
        case rel => exact ⟨k + 1, by go_num, by omega, by omega, Lib.hid (HN.out.trans HL.out), Lib.hid ⟨_, by rw [HW0.out, World.drewN_drewN]⟩⟩
        case measure => simp [intOf]; omega
      | false =>
        have HN := Lib.hid (lessL_ne x y k h1 h2 hq)
        go_wp2_with (fail)
        go_quiet (fail)
        go_wp2_with (fail)
        go_quiet (fail)
        go_wp2_with (fail)
        go_ret
        exact ⟨by rw [← HL.out, HN.out]; rfl, by rw [HW0.out]; exact bl_drewN (bl_drewN (bl_drewN B2.out _) _) _⟩
    · have HE := Lib.hid (lessL_end x y k (by omega) hkx hky)
      have hlt2 : x.length ≤ k ∨ y.length ≤ k := by omega
      clear hlt
      have hm : ¬ ((k : Int) < min (x.length : Int) (y.length : Int)) := by omega
      clear hlt2
      go_wp2_with (fail)
      go_ret
      exact ⟨by rw [← HL.out, HE.out]; rfl, by rw [HW0.out]; exact bl_drewN B2.out _⟩
set_option maxHeartbeats 1000000 in
theorem refLess_any (a b : ByteArray) (w : World) (ha : a.size < 4294967281) (hb : b.size < 4294967281) : Calls Tryd.prog 12 #[.string a, .string b] w (LQ a b w) := by
  have la := pieces_le a
  have lb := pieces_le b
  have Q1 := Lib.hid (refParts_any a w ha)
  unfold LQ
  unfold PQ at Q1
  have Q2 : ∀ w1, Below w.heap.size w w1 → Hid (Calls Tryd.prog 19 #[.string b] w1 fun e w' => ∃ v, e = .returned v ∧ Strs w' v (pieces b) ∧ Below w1.heap.size w1 w') := fun w1 h1 => Lib.hid (refParts_any b w1 hb)
  have Q2 := Lib.hid Q2
  generalize pieces a = x at *
  generalize pieces b = y at *
  go_enter Tryd.func12, Tryd.ntmps12
  go_wp2_with (fail)
  refine Q1.out.mono ?_
  rintro e w1 ⟨v1, rfl, s1, b1⟩
  have B1 := Lib.hid b1
  have S1 := Lib.hid s1
  clear b1 s1
  go_wp2_with (fail)
  refine (Q2.out w1 B1.out).out.mono ?_
  rintro e w2 ⟨v2, rfl, s2, b2⟩
  have B2 := Lib.hid (B1.out.trans (b2.mono B1.out.size))
  have s1' := S1.out.below b2
  clear b2 S1 Q1 Q2
  obtain ⟨bx, ox, cx, rfl, hbx, cellx⟩ := s1'
  obtain ⟨b_y, oy, cy, rfl, hby, celly⟩ := s2
  have CX := Lib.hid cellx
  have CY := Lib.hid celly
  have ZX := Lib.hid hbx
  have ZY := Lib.hid hby
  clear cellx celly hbx hby
  go_wp2_with (fail)
  go_loopw [7] (fun i wr => ∃ k : Nat, i = .int .i64 k ∧ k ≤ x.length ∧ k ≤ y.length ∧ Hid (lessL (x.drop k) (y.drop k) = lessL x y) ∧ Hid (∃ n, wr = w2.drewN n)) (fun i _ => x.length - (intOf i).toNat)
  case atStart => exact ⟨0, rfl, by omega, by omega, Lib.hid rfl, Lib.hid ⟨0, rfl⟩⟩
  case round =>
    obtain ⟨k, rfl, hkx, hky, HL, HW⟩ := hrel
    obtain ⟨n0, hw0⟩ := HW.out
    have HW0 := Lib.hid hw0
    clear HW hw0
    by_cases hlt : k < x.length ∧ k < y.length
    · obtain ⟨h1, h2⟩ := hlt
      have g1 : wr.cell? ⟨bx, ox + k, none⟩ = some (.string x[k]) := by rw [HW0.out]; exact CX.out k h1
      have g2 : wr.cell? ⟨b_y, oy + k, none⟩ = some (.string y[k]) := by rw [HW0.out]; exact CY.out k h2
      cases hq : ((x[k]).toList == (y[k]).toList) with
      | true =>
        have HN := Lib.hid (lessL_same x y k h1 h2 hq)
        go_wp2_with (fail)
        go_quiet (fail)
        go_wp2_with (fail)
        go_roundw
        case rel => exact ⟨k + 1, by go_num, by omega, by omega, Lib.hid (HN.out.trans HL.out), Lib.hid ⟨_, by rw [HW0.out, World.drewN_drewN]⟩⟩
        case measure => simp [intOf]; omega
      | false =>
        have HN := Lib.hid (lessL_ne x y k h1 h2 hq)
        go_wp2_with (fail)
        go_quiet (fail)
        go_wp2_with (fail)
        go_quiet (fail)
        go_wp2_with (fail)
        go_ret
        exact ⟨by rw [← HL.out, HN.out]; rfl, by rw [HW0.out]; exact bl_drewN (bl_drewN (bl_drewN B2.out _) _) _⟩
    · have HE := Lib.hid (lessL_end x y k (by omega) hkx hky)
      have hlt2 : x.length ≤ k ∨ y.length ≤ k := by omega
      clear hlt
      by_cases c1 : k < x.length
      · have c2 : ¬ k < y.length := by omega
        clear hlt2
        go_wp2_with (fail)
        go_ret
        exact ⟨by rw [← HL.out, HE.out]; rfl, by rw [HW0.out]; exact bl_drewN B2.out _⟩
      · clear hlt2
        go_wp2_with (fail)
        go_ret
        exact ⟨by rw [← HL.out, HE.out]; rfl, by rw [HW0.out]; exact bl_drewN B2.out _⟩
end Go.Proofs.YtjklhkananjijaaDoor
