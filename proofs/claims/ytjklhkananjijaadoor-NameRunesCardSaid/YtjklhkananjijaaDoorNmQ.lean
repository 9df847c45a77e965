/- NameRunes: the walk. -/
import Derived.Test.YtjklhkananjijaaDoorNmO
import Derived.Test.YtjklhkananjijaaDoorNmP
set_option linter.unusedVariables false
set_option linter.unusedSimpArgs false
namespace Go.Proofs.YtjklhkananjijaaDoor
open Go.RowKit
theorem decodeN_bd (n b0 b1 b2 b3 : Nat) : (Lib.decodeN n b0 b1 b2 b3).1 ≤ 1114111 := by
  unfold Lib.decodeN
  repeat' split
  all_goals simp
  all_goals omega
theorem rn_bd (s : ByteArray) : (rn s).1 ≤ 1114111 := by
  by_cases h : s.size = 0
  · rw [rn_empty s h]; simp
  · rw [rn_N s (by omega)]
    unfold rnN
    split
    · simp
    · exact decodeN_bd _ _ _ _ _
set_option maxHeartbeats 1000000 in
theorem runes_long (s : ByteArray) (c : Int) (w : World) (hA : Amb w) (hs : 1000 < s.size) (hm : s.size ≤ 9223372036854775807) : Calls Tryd.prog 3 #[.string s, .int .i32 c] w (CQ (.bool true) w) := by
  have K1 := Lib.hid (awake_any w hA)
  clear hA
  go_enter Tryd.func3, Tryd.ntmps3
  go_wp2_with (fail)
  refine K1.out.mono ?_
  rintro e w1 ⟨rfl, b1⟩
  have B1 := Lib.hid b1
  clear b1 K1
  go_wp2_with (fail)
  go_ret
  exact ⟨rfl, B1.out⟩
/-- What is told of a text's first sign. -/
def RT (r1 r2 : Nat) (d : Bool) (w : World) (e : Ending) (w' : World) : Prop := e = .returned (.tuple #[.int .i32 (r1 : Nat), .int .i64 (r2 : Nat), .bool d]) ∧ Below w.heap.size w w'
def RU (r1 r2 : Nat) (w : World) (e : Ending) (w' : World) : Prop := e = .returned (.tuple #[.int .i64 (r1 : Nat), .int .i64 (r2 : Nat)]) ∧ Below w.heap.size w w'
set_option maxHeartbeats 2000000 in
theorem runes_none (s : ByteArray) (c : Int) (l : List UInt8) (r1 r2 q1 q2 : Nat) (d dq : Bool) (w : World) (hA : Amb w) (hs : s.size ≤ 1000) (hc0 : -2147483648 ≤ c) (hc1 : c ≤ 2147483647)
    (hr : r1 ≤ 1114111) (hl : l.length ≤ 4) (hd : d = true ∧ 0 < r2 ∨ d = false ∧ r2 = 0)
    (H1 : Hid (∀ w, Amb w → Calls Tryd.prog 8 #[.string s] w (RT r1 r2 d w))) (H2 : Hid (∀ w, Calls Tryd.prog 9 #[.string s] w (RU r1 r2 w)))
    (H3 : Hid (∀ w, Calls Tryd.prog 10 #[.int .i64 c] w (ByQ l w))) (H4 : Hid (∀ w, Amb w → Calls Tryd.prog 8 #[.string (str l ++ s)] w (RT q1 q2 dq w)))
    (H5 : ((l.length : Int) == 0) = true) : Calls Tryd.prog 3 #[.string s, .int .i32 c] w (CQ (.bool true) w) := by
  have K1 := Lib.hid (awake_any w hA)
  have HA := Lib.hid hA
  have hsz : (str l).size ≤ 4 := hl
  clear hA
  unfold RT RU ByQ at *
  rcases hd with ⟨rfl, h2⟩ | ⟨rfl, rfl⟩
  all_goals
    go_enter Tryd.func3, Tryd.ntmps3
    go_wp2_with (fail)
    refine K1.out.mono ?_
    rintro e w1 ⟨rfl, b1⟩
    have B1 := Lib.hid b1
    clear b1 K1
    go_wp2_with (fail)
    refine (H1.out w1 (HA.out.below B1.out)).mono ?_
    rintro e w2 ⟨rfl, b2⟩
    have B2 := Lib.hid (B1.out.trans (b2.mono B1.out.size))
    clear b2
    go_wp2_with (fail)
    refine (H2.out w2).mono ?_
    rintro e w3 ⟨rfl, b2⟩
    have B3 := Lib.hid (B2.out.trans (b2.mono B2.out.size))
    clear b2
    go_wp2_with (fail)
    refine (H3.out w3).mono ?_
    rintro e w4 ⟨v, rfl, hy, b2⟩
    have B4 := Lib.hid (B3.out.trans (b2.mono B3.out.size))
    clear b2
    obtain ⟨a, cap, rfl⟩ := hy.slice
    have cv := convert_byt Tryd.underlying27 Tryd.underlying5 Tryd.underlying9 hy
    clear hy
    go_wp2_with (fail)
    refine (H4.out w4 (HA.out.below B4.out)).mono ?_
    rintro e w5 ⟨rfl, b2⟩
    have B5 := Lib.hid (B4.out.trans (b2.mono B4.out.size))
    clear b2
    go_wp2_with (fail)
    go_ret
    exact ⟨rfl, B5.out⟩
set_option maxHeartbeats 2000000 in
theorem runes_some (s : ByteArray) (c : Nat) (l : List UInt8) (r1 r2 : Nat) (d : Bool) (w : World) (hA : Amb w) (hs : s.size ≤ 1000) (hc1 : c ≤ 2147483647)
    (hr : r1 ≤ 1114111) (hl : l.length ≤ 4) (hd : d = true ∧ 0 < r2 ∨ d = false ∧ r2 = 0)
    (H1 : Hid (∀ w, Amb w → Calls Tryd.prog 8 #[.string s] w (RT r1 r2 d w))) (H2 : Hid (∀ w, Calls Tryd.prog 9 #[.string s] w (RU r1 r2 w)))
    (H3 : Hid (∀ w, Calls Tryd.prog 10 #[.int .i64 c] w (ByQ l w))) (H4 : Hid (∀ w, Amb w → Calls Tryd.prog 8 #[.string (str l ++ s)] w (RT c l.length true w)))
    (H5 : ((l.length : Int) == 0) = false) : Calls Tryd.prog 3 #[.string s, .int .i32 c] w (CQ (.bool true) w) := by
  have K1 := Lib.hid (awake_any w hA)
  have HA := Lib.hid hA
  have hsz : (str l).size ≤ 4 := hl
  clear hA
  unfold RT RU ByQ at *
  rcases hd with ⟨rfl, h2⟩ | ⟨rfl, rfl⟩
  all_goals
    go_enter Tryd.func3, Tryd.ntmps3
    go_wp2_with (fail)
    refine K1.out.mono ?_
    rintro e w1 ⟨rfl, b1⟩
    have B1 := Lib.hid b1
    clear b1 K1
    go_wp2_with (fail)
    refine (H1.out w1 (HA.out.below B1.out)).mono ?_
    rintro e w2 ⟨rfl, b2⟩
    have B2 := Lib.hid (B1.out.trans (b2.mono B1.out.size))
    clear b2
    go_wp2_with (fail)
    refine (H2.out w2).mono ?_
    rintro e w3 ⟨rfl, b2⟩
    have B3 := Lib.hid (B2.out.trans (b2.mono B2.out.size))
    clear b2
    go_wp2_with (fail)
    refine (H3.out w3).mono ?_
    rintro e w4 ⟨v, rfl, hy, b2⟩
    have B4 := Lib.hid (B3.out.trans (b2.mono B3.out.size))
    clear b2
    obtain ⟨a, cap, rfl⟩ := hy.slice
    have cv := convert_byt Tryd.underlying27 Tryd.underlying5 Tryd.underlying9 hy
    clear hy
    go_wp2_with (fail)
    refine (H4.out w4 (HA.out.below B4.out)).mono ?_
    rintro e w5 ⟨rfl, b2⟩
    have B5 := Lib.hid (B4.out.trans (b2.mono B4.out.size))
    clear b2
    go_wp2_with (fail)
    go_ret
    exact ⟨rfl, B5.out⟩
theorem runes_walk (s : ByteArray) (c : Int) (w : World) (hA : Amb w) (hm : s.size ≤ maxLen) (wc : (Lit.int .i32 c).wf = true) : Calls Tryd.prog 3 #[.string s, .int .i32 c] w (CQ (.bool true) w) := by
  have hc : -2147483648 ≤ c ∧ c ≤ 2147483647 := by
    simp [Lit.wf, IntKind.min, IntKind.max, IntKind.signed, IntKind.bits] at wc
    omega
  unfold maxLen at hm
  by_cases h : 1000 < s.size
  · exact runes_long s c w hA h hm
  · have hd : decide (0 < (rn s).2) = true ∧ 0 < (rn s).2 ∨ decide (0 < (rn s).2) = false ∧ (rn s).2 = 0 := by
      by_cases h : 0 < (rn s).2
      · left; exact ⟨decide_eq_true h, h⟩
      · right; exact ⟨decide_eq_false h, by omega⟩
    have hl := (utfI_len c).1
    by_cases he : utfI c = []
    · exact runes_none s c (utfI c) _ _ _ _ _ _ w hA (by omega) hc.1 hc.2 (rn_bd s) hl hd (Lib.hid fun w h => rune_any s w h) (Lib.hid fun w => refRune_any s w (by omega)) (Lib.hid fun w => utf_any c w) (Lib.hid fun w h => rune_any _ w h) (by rw [he]; rfl)
    · obtain ⟨e1, h0⟩ := rn_utf c s he
      obtain ⟨k, rfl⟩ : ∃ k : Nat, c = k := ⟨c.toNat, by omega⟩
      have hp : 0 < (utfI (k : Int)).length := List.length_pos_iff.2 he
      refine runes_some s k (utfI k) _ _ _ w hA (by omega) (by omega) (rn_bd s) hl hd (Lib.hid fun w h => rune_any s w h) (Lib.hid fun w => refRune_any s w (by omega)) (Lib.hid fun w => utf_any k w) (Lib.hid fun w h => ?_) (by simp; exact he)
      have := rune_any (str (utfI k) ++ s) w h
      rw [e1] at this
      simp only [hp, decide_true, Int.toNat_natCast] at this
      exact this
end Go.Proofs.YtjklhkananjijaaDoor
