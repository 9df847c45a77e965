/- NameLess: the walk. -/
import Derived.Test.YtjklhkananjijaaDoorNmO
import Derived.Test.YtjklhkananjijaaDoorNmR
set_option linter.unusedVariables false
set_option linter.unusedSimpArgs false
namespace Go.Proofs.YtjklhkananjijaaDoor
open Go.RowKit
set_option maxHeartbeats 1000000 in
theorem nless_long (a b c : ByteArray) (w : World) (hA : Amb w) (ha : a.size ≤ 9223372036854775807) (hb : b.size ≤ 9223372036854775807) (hc : c.size ≤ 9223372036854775807) (h : 300 < a.size ∨ a.size ≤ 300 ∧ (300 < b.size ∨ b.size ≤ 300 ∧ 300 < c.size)) : Calls Tryd.prog 4 #[.string a, .string b, .string c] w (CQ (.bool true) w) := by
  have K1 := Lib.hid (awake_any w hA)
  clear hA
  rcases h with h | ⟨h, h2 | ⟨h2, h3⟩⟩
  all_goals
    go_enter Tryd.func4, Tryd.ntmps4
    go_wp2_with (fail)
    refine K1.out.mono ?_
    rintro e w1 ⟨rfl, b1⟩
    have B1 := Lib.hid b1
    clear b1 K1
    go_wp2_with (fail)
    go_ret
    exact ⟨rfl, B1.out⟩
def LB (p : Bool) (w : World) (e : Ending) (w' : World) : Prop := e = .returned (.bool p) ∧ Below w.heap.size w w'
set_option maxHeartbeats 1000000 in
theorem nless_tf (a b c : ByteArray) (w : World) (hA : Amb w) (ha : a.size ≤ 300) (hb : b.size ≤ 300) (hc : c.size ≤ 300) (he : (a.toList == b.toList) = false)
    (H1 : Hid (∀ w, Amb w → Calls Tryd.prog 11 #[.string a, .string b] w (LB true w))) (H2 : Hid (∀ w, Amb w → Calls Tryd.prog 11 #[.string b, .string a] w (LB false w))) (H3 : Hid (∀ w, Calls Tryd.prog 12 #[.string a, .string b] w (LB true w))) (H4 : Hid (∀ w, Amb w → Calls Tryd.prog 11 #[.string b, .string c] w (LB false w))) : Calls Tryd.prog 4 #[.string a, .string b, .string c] w (CQ (.bool true) w) := by
  have K1 := Lib.hid (awake_any w hA)
  have HA := Lib.hid hA
  have hn : (a.toList != b.toList) = true := by rw [bne, he]; rfl
  clear hA
  unfold LB at *
  go_enter Tryd.func4, Tryd.ntmps4
  go_wp2_with (fail)
  refine K1.out.mono ?_
  rintro e w1 ⟨rfl, b1⟩
  have B1 := Lib.hid b1
  clear b1 K1
  go_wp2_with (fail)
  refine (H1.out w1 (HA.out.below B1.out)).mono ?_
  rintro e w2 ⟨rfl, b2⟩
  have B2 := Lib.hid (B1.out.trans (b2.mono B1.out.size))
  clear b2
  go_wp2_with (fail)
  refine (H2.out w2 (HA.out.below B2.out)).mono ?_
  rintro e w3 ⟨rfl, b2⟩
  have B3 := Lib.hid (B2.out.trans (b2.mono B2.out.size))
  clear b2
  go_wp2_with (fail)
  refine (H3.out w3).mono ?_
  rintro e w4 ⟨rfl, b2⟩
  have B4 := Lib.hid (B3.out.trans (b2.mono B3.out.size))
  clear b2
  go_wp2_with (fail)
  refine (H4.out w4 (HA.out.below B4.out)).mono ?_
  rintro e w5 ⟨rfl, b2⟩
  have B5 := Lib.hid (B4.out.trans (b2.mono B4.out.size))
  clear b2
  go_wp2_with (fail)
  go_ret
  exact ⟨rfl, B5.out⟩
set_option maxHeartbeats 1000000 in
theorem nless_tt (a b c : ByteArray) (w : World) (hA : Amb w) (ha : a.size ≤ 300) (hb : b.size ≤ 300) (hc : c.size ≤ 300) (he : (a.toList == b.toList) = false)
    (H1 : Hid (∀ w, Amb w → Calls Tryd.prog 11 #[.string a, .string b] w (LB true w))) (H2 : Hid (∀ w, Amb w → Calls Tryd.prog 11 #[.string b, .string a] w (LB false w))) (H3 : Hid (∀ w, Calls Tryd.prog 12 #[.string a, .string b] w (LB true w))) (H4 : Hid (∀ w, Amb w → Calls Tryd.prog 11 #[.string b, .string c] w (LB true w))) (H5 : Hid (∀ w, Amb w → Calls Tryd.prog 11 #[.string a, .string c] w (LB true w))) : Calls Tryd.prog 4 #[.string a, .string b, .string c] w (CQ (.bool true) w) := by
  have K1 := Lib.hid (awake_any w hA)
  have HA := Lib.hid hA
  have hn : (a.toList != b.toList) = true := by rw [bne, he]; rfl
  clear hA
  unfold LB at *
  go_enter Tryd.func4, Tryd.ntmps4
  go_wp2_with (fail)
  refine K1.out.mono ?_
  rintro e w1 ⟨rfl, b1⟩
  have B1 := Lib.hid b1
  clear b1 K1
  go_wp2_with (fail)
  refine (H1.out w1 (HA.out.below B1.out)).mono ?_
  rintro e w2 ⟨rfl, b2⟩
  have B2 := Lib.hid (B1.out.trans (b2.mono B1.out.size))
  clear b2
  go_wp2_with (fail)
  refine (H2.out w2 (HA.out.below B2.out)).mono ?_
  rintro e w3 ⟨rfl, b2⟩
  have B3 := Lib.hid (B2.out.trans (b2.mono B2.out.size))
  clear b2
  go_wp2_with (fail)
  refine (H3.out w3).mono ?_
  rintro e w4 ⟨rfl, b2⟩
  have B4 := Lib.hid (B3.out.trans (b2.mono B3.out.size))
  clear b2
  go_wp2_with (fail)
  refine (H4.out w4 (HA.out.below B4.out)).mono ?_
  rintro e w5 ⟨rfl, b2⟩
  have B5 := Lib.hid (B4.out.trans (b2.mono B4.out.size))
  clear b2
  go_wp2_with (fail)
  refine (H5.out w5 (HA.out.below B5.out)).mono ?_
  rintro e w6 ⟨rfl, b2⟩
  have B6 := Lib.hid (B5.out.trans (b2.mono B5.out.size))
  clear b2
  go_wp2_with (fail)
  go_ret
  exact ⟨rfl, B6.out⟩
set_option maxHeartbeats 1000000 in
theorem nless_ft (a b c : ByteArray) (w : World) (hA : Amb w) (ha : a.size ≤ 300) (hb : b.size ≤ 300) (hc : c.size ≤ 300) (he : (a.toList == b.toList) = false)
    (H1 : Hid (∀ w, Amb w → Calls Tryd.prog 11 #[.string a, .string b] w (LB false w))) (H2 : Hid (∀ w, Amb w → Calls Tryd.prog 11 #[.string b, .string a] w (LB true w))) (H3 : Hid (∀ w, Calls Tryd.prog 12 #[.string a, .string b] w (LB false w))) : Calls Tryd.prog 4 #[.string a, .string b, .string c] w (CQ (.bool true) w) := by
  have K1 := Lib.hid (awake_any w hA)
  have HA := Lib.hid hA
  have hn : (a.toList != b.toList) = true := by rw [bne, he]; rfl
  clear hA
  unfold LB at *
  go_enter Tryd.func4, Tryd.ntmps4
  go_wp2_with (fail)
  refine K1.out.mono ?_
  rintro e w1 ⟨rfl, b1⟩
  have B1 := Lib.hid b1
  clear b1 K1
  go_wp2_with (fail)
  refine (H1.out w1 (HA.out.below B1.out)).mono ?_
  rintro e w2 ⟨rfl, b2⟩
  have B2 := Lib.hid (B1.out.trans (b2.mono B1.out.size))
  clear b2
  go_wp2_with (fail)
  refine (H2.out w2 (HA.out.below B2.out)).mono ?_
  rintro e w3 ⟨rfl, b2⟩
  have B3 := Lib.hid (B2.out.trans (b2.mono B2.out.size))
  clear b2
  go_wp2_with (fail)
  refine (H3.out w3).mono ?_
  rintro e w4 ⟨rfl, b2⟩
  have B4 := Lib.hid (B3.out.trans (b2.mono B3.out.size))
  clear b2
  go_wp2_with (fail)
  go_ret
  exact ⟨rfl, B4.out⟩
set_option maxHeartbeats 1000000 in
theorem nless_ff (a b c : ByteArray) (w : World) (hA : Amb w) (ha : a.size ≤ 300) (hb : b.size ≤ 300) (hc : c.size ≤ 300) (he : (a.toList == b.toList) = true)
    (H1 : Hid (∀ w, Amb w → Calls Tryd.prog 11 #[.string a, .string b] w (LB false w))) (H2 : Hid (∀ w, Amb w → Calls Tryd.prog 11 #[.string b, .string a] w (LB false w))) (H3 : Hid (∀ w, Calls Tryd.prog 12 #[.string a, .string b] w (LB false w))) : Calls Tryd.prog 4 #[.string a, .string b, .string c] w (CQ (.bool true) w) := by
  have K1 := Lib.hid (awake_any w hA)
  have HA := Lib.hid hA
  have hn : (a.toList != b.toList) = false := by rw [bne, he]; rfl
  clear hA
  unfold LB at *
  go_enter Tryd.func4, Tryd.ntmps4
  go_wp2_with (fail)
  refine K1.out.mono ?_
  rintro e w1 ⟨rfl, b1⟩
  have B1 := Lib.hid b1
  clear b1 K1
  go_wp2_with (fail)
  refine (H1.out w1 (HA.out.below B1.out)).mono ?_
  rintro e w2 ⟨rfl, b2⟩
  have B2 := Lib.hid (B1.out.trans (b2.mono B1.out.size))
  clear b2
  go_wp2_with (fail)
  refine (H2.out w2 (HA.out.below B2.out)).mono ?_
  rintro e w3 ⟨rfl, b2⟩
  have B3 := Lib.hid (B2.out.trans (b2.mono B2.out.size))
  clear b2
  go_wp2_with (fail)
  refine (H3.out w3).mono ?_
  rintro e w4 ⟨rfl, b2⟩
  have B4 := Lib.hid (B3.out.trans (b2.mono B3.out.size))
  clear b2
  go_wp2_with (fail)
  go_ret
  exact ⟨rfl, B4.out⟩
theorem lb_of (a b : ByteArray) (p : Bool) (ha : a.size ≤ 300) (hb : b.size ≤ 300) (h : lessL (pieces a) (pieces b) = p) : Hid (∀ w, Amb w → Calls Tryd.prog 11 #[.string a, .string b] w (LB p w)) := by
  subst h
  exact Lib.hid fun w hA => less_any a b w hA (by omega) (by omega)
theorem rlb_of (a b : ByteArray) (p : Bool) (ha : a.size ≤ 300) (hb : b.size ≤ 300) (h : lessL (pieces a) (pieces b) = p) : Hid (∀ w, Calls Tryd.prog 12 #[.string a, .string b] w (LB p w)) := by
  subst h
  exact Lib.hid fun w => refLess_any a b w (by omega) (by omega)
theorem nless_walk (a b c : ByteArray) (w : World) (hA : Amb w) (ha : a.size ≤ maxLen) (hb : b.size ≤ maxLen) (hc : c.size ≤ maxLen) : Calls Tryd.prog 4 #[.string a, .string b, .string c] w (CQ (.bool true) w) := by
  unfold maxLen at *
  by_cases h : a.size ≤ 300 ∧ b.size ≤ 300 ∧ c.size ≤ 300
  · obtain ⟨h1, h2, h3⟩ := h
    cases hp : lessL (pieces a) (pieces b) with
    | true =>
      have hq : lessL (pieces b) (pieces a) = false := by
        cases hq : lessL (pieces b) (pieces a) with
        | false => rfl
        | true => exact (lessL_asymm _ _ hp hq).elim
      have he : (a.toList == b.toList) = false := by
        cases he : (a.toList == b.toList) with
        | false => rfl
        | true =>
          rw [ba_beq.1 he, less_irr] at hp
          cases hp
      cases hr : lessL (pieces b) (pieces c) with
      | false => exact nless_tf a b c w hA h1 h2 h3 he (lb_of _ _ _ h1 h2 hp) (lb_of _ _ _ h2 h1 hq) (rlb_of _ _ _ h1 h2 hp) (lb_of _ _ _ h2 h3 hr)
      | true => exact nless_tt a b c w hA h1 h2 h3 he (lb_of _ _ _ h1 h2 hp) (lb_of _ _ _ h2 h1 hq) (rlb_of _ _ _ h1 h2 hp) (lb_of _ _ _ h2 h3 hr) (lb_of _ _ _ h1 h3 (lessL_trans _ _ _ hp hr))
    | false =>
      cases he : (a.toList == b.toList) with
      | true =>
        have e := ba_beq.1 he
        have hq : lessL (pieces b) (pieces a) = false := by rw [e]; exact less_irr b
        exact nless_ff a b c w hA h1 h2 h3 he (lb_of _ _ _ h1 h2 hp) (lb_of _ _ _ h2 h1 hq) (rlb_of _ _ _ h1 h2 hp)
      | false =>
        have hq : lessL (pieces b) (pieces a) = true := by
          rcases lessL_total (pieces a) (pieces b) (fun q => by
            have := pieces_inj q
            rw [ba_beq.2 this] at he
            cases he) with q | q
          · rw [hp] at q; cases q
          · exact q
        exact nless_ft a b c w hA h1 h2 h3 he (lb_of _ _ _ h1 h2 hp) (lb_of _ _ _ h2 h1 hq) (rlb_of _ _ _ h1 h2 hp)
  · exact nless_long a b c w hA ha hb hc (by omega)
end Go.Proofs.YtjklhkananjijaaDoor
