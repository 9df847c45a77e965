/- NameParts: the walk's core and the plain law. -/
import Derived.Test.YtjklhkananjijaaDoorNmS
set_option linter.unusedVariables false
set_option linter.unusedSimpArgs false
namespace Go.Proofs.YtjklhkananjijaaDoor
open Go.RowKit
set_option maxHeartbeats 1000000 in
theorem nparts_long (s : ByteArray) (w : World) (hA : Amb w) (hs : 1000 < s.size) (hm : s.size ≤ 9223372036854775807) : Calls Tryd.prog 6 #[.string s] w (CQ (.bool true) w) := by
  have K1 := Lib.hid (awake_any w hA)
  clear hA
  go_enter Tryd.func6, Tryd.ntmps6
  go_wp2_with (fail)
  refine K1.out.mono ?_
  rintro e w1 ⟨rfl, b1⟩
  have B1 := Lib.hid b1
  clear b1 K1
  go_wp2_with (fail)
  go_ret
  exact ⟨rfl, B1.out⟩
def PX (x : List ByteArray) (w : World) (e : Ending) (w' : World) : Prop := ∃ v, e = .returned v ∧ Strs w' v x ∧ Below w.heap.size w w'
set_option maxHeartbeats 4000000 in
theorem nparts_core (s base : ByteArray) (x : List ByteArray) (D : Nat → ByteArray) (w : World) (hA : Amb w) (hs : s.size ≤ 1000) (hn : 1 ≤ x.length) (hn2 : x.length ≤ 1001) (hbs : base.size ≤ 1000)
    (H1 : Hid (∀ w, Amb w → Calls Tryd.prog 18 #[.string s] w (PX x w))) (H2 : Hid (∀ w, Calls Tryd.prog 19 #[.string s] w (PX x w)))
    (H3 : Hid (∀ w, Calls Tryd.prog 20 #[.string s] w fun e w' => e = .returned (.string base) ∧ w = w')) (H4 : Hid (∀ w, Calls Tryd.prog 21 #[.string s] w fun e w' => e = .returned (.string (D (x.length - 1))) ∧ w = w'))
    (D0 : Hid (D 0 = ⟨#[]⟩)) (D1 : Hid (∀ h : 1 < x.length, (⟨#[]⟩ : ByteArray) ++ x[0] = D 1)) (D2 : Hid (∀ k (h : k + 1 < x.length), 0 < k → (D k ++ ⟨#[47]⟩) ++ x[k] = D (k + 1)))
    (DZ : Hid (∀ k, (D k).size ≤ 1000)) (XZ : Hid (∀ k (h : k < x.length), (x[k]).size ≤ 1000)) (E1 : Hid (∀ h : x.length - 1 < x.length, (base.toList == (x[x.length - 1]).toList) = true))
    (E2 : Hid (x.length = 1 ∧ (base.toList == s.toList) = true ∨ 1 < x.length ∧ (((D (x.length - 1) ++ ⟨#[47]⟩) ++ base).toList == s.toList) = true)) : Calls Tryd.prog 6 #[.string s] w (CQ (.bool true) w) := by
  have K1 := Lib.hid (awake_any w hA)
  have HA := Lib.hid hA
  clear hA
  unfold PX at *
  go_enter Tryd.func6, Tryd.ntmps6
  go_wp2_with (fail)
  refine K1.out.mono ?_
  rintro e w1 ⟨rfl, b1⟩
  have B1 := Lib.hid b1
  clear b1 K1
  go_wp2_with (fail)
  refine (H1.out w1 (HA.out.below B1.out)).mono ?_
  rintro e w2 ⟨v1, rfl, s1, b2⟩
  have B2 := Lib.hid (B1.out.trans (b2.mono B1.out.size))
  have S1 := Lib.hid s1
  clear b2 s1
  go_wp2_with (fail)
  refine (H2.out w2).mono ?_
  rintro e w3 ⟨v2, rfl, s2, b2⟩
  have B3 := Lib.hid (B2.out.trans (b2.mono B2.out.size))
  have s1' := S1.out.below b2
  clear b2 S1 H1 H2
  obtain ⟨bx, ox, cx, rfl, hbx, cellx⟩ := s1'
  obtain ⟨b_y, oy, cy, rfl, hby, celly⟩ := s2
  have CX := Lib.hid cellx
  have CY := Lib.hid celly
  clear cellx celly hbx hby
  go_wp2_with (fail)
  go_loopw [5, 6] (fun d i wr => ∃ k : Nat, i = .int .i64 k ∧ k ≤ x.length ∧ (∃ t, d = .string t ∧ Hid (t = D (min k (x.length - 1)))) ∧ Hid (∃ n, wr = w3.drewN n)) (fun _ i _ => x.length - (intOf i).toNat)
  case atStart => exact ⟨0, rfl, by omega, ⟨_, rfl, Lib.hid (by rw [Nat.zero_min]; exact D0.out.symm)⟩, Lib.hid ⟨0, rfl⟩⟩
  case round =>
    obtain ⟨k, rfl, hk, ⟨t, rfl, HT⟩, HW⟩ := hrel
    obtain ⟨n0, hw0⟩ := HW.out
    have HW0 := Lib.hid hw0
    clear HW hw0
    have hts : t.size ≤ 1000 := by rw [HT.out]; exact DZ.out _
    by_cases hlt : k < x.length
    · have g1 : wr.cell? ⟨bx, ox + k, none⟩ = some (.string x[k]) := by rw [HW0.out]; exact CX.out k hlt
      have g2 : wr.cell? ⟨b_y, oy + k, none⟩ = some (.string x[k]) := by rw [HW0.out]; exact CY.out k hlt
      have hq : ((x[k]).toList == (x[k]).toList) = true := by simp
      have hq2 : ((x[k]).toList != (x[k]).toList) = false := by simp
      have hxs := XZ.out k hlt
      by_cases hl : k + 1 < x.length
      · by_cases h0 : k = 0
        · subst h0
          simp only [Nat.add_zero] at g1 g2
          have HD := Lib.hid (D1.out hl)
          have HE : Hid (t = ⟨#[]⟩) := Lib.hid (by rw [HT.out, Nat.zero_min]; exact D0.out)
          obtain rfl := HE.out
          generalize x[0] = y at *
          go_wp2_with (fail)
          go_quiet (fail)
          go_wp2_with (fail)
          go_roundw
          case rel => exact ⟨1, rfl, by omega, ⟨_, rfl, Lib.hid (by rw [show min 1 (x.length - 1) = 1 by omega]; exact HD.out)⟩, Lib.hid ⟨_, by rw [HW0.out, World.drewN_drewN]⟩⟩
          case measure => simp [intOf]; omega
        · have HD := Lib.hid (D2.out k hl (by omega))
          have HE : Hid (t = D k) := Lib.hid (by rw [HT.out, show min k (x.length - 1) = k by omega])
          have hk0 : 0 < k := by omega
          have hk1 : (k : Int) < (x.length : Int) - 1 := by omega
          clear h0
          generalize x[k] = y at *
          go_wp2_with (fail)
          go_quiet (fail)
          go_wp2_with (fail)
          go_roundw
          case rel => exact ⟨k + 1, by go_num, by omega, ⟨_, rfl, Lib.hid (by rw [show min (k + 1) (x.length - 1) = k + 1 by omega, HE.out]; exact HD.out)⟩, Lib.hid ⟨_, by rw [HW0.out, World.drewN_drewN]⟩⟩
          case measure => simp [intOf]; omega
      · have HE : Hid (t = D (x.length - 1)) := Lib.hid (by rw [HT.out, show min k (x.length - 1) = x.length - 1 by omega])
        have hk1 : ¬ (k : Int) < (x.length : Int) - 1 := by omega
        generalize x[k] = y at *
        by_cases h0 : 0 < k
        all_goals
          go_wp2_with (fail)
          go_quiet (fail)
          go_wp2_with (fail)
          go_roundw
          case rel => exact ⟨k + 1, by go_num, by omega, ⟨_, rfl, Lib.hid (by rw [show min (k + 1) (x.length - 1) = x.length - 1 by omega]; exact HE.out)⟩, Lib.hid ⟨_, by rw [HW0.out, World.drewN_drewN]⟩⟩
          case measure => simp [intOf]; omega
    · have HE : Hid (t = D (x.length - 1)) := Lib.hid (by rw [HT.out, show min k (x.length - 1) = x.length - 1 by omega])
      obtain rfl := HE.out
      have g2 : wr.cell? ⟨b_y, oy + (x.length - 1), none⟩ = some (.string (x[x.length - 1]'(by omega))) := by rw [HW0.out]; exact CY.out _ (by omega)
      have q1 := E1.out (by omega)
      have q2 : ((D (x.length - 1)).toList == (D (x.length - 1)).toList) = true := by simp
      have hE2 := E2.out
      generalize x[x.length - 1]'(by omega) = y at *
      generalize D (x.length - 1) = dd at *
      go_wp2_with (fail)
      refine (H3.out wr).mono ?_
      rintro e w4 ⟨rfl, rfl⟩
      go_wp2_with (fail)
      refine (H4.out wr).mono ?_
      rintro e w4 ⟨rfl, rfl⟩
      rcases hE2 with ⟨e1, e2⟩ | ⟨e1, e2⟩
      · have e3 : ((x.length : Int) == 1) = true := by rw [e1]; rfl
        have X1 := Lib.hid e1
        clear e1
        go_wp2_with (fail)
        go_ret
        exact ⟨rfl, by rw [HW0.out]; exact bl_drewN B3.out _⟩
      · have e3 : ((x.length : Int) == 1) = false := by simp; omega
        go_wp2_with (fail)
        go_ret
        exact ⟨rfl, by rw [HW0.out]; exact bl_drewN B3.out _⟩
end Go.Proofs.YtjklhkananjijaaDoor
