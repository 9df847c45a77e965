/- The reference's Check. -/
import Derived.Test.YtcpojpgdjjmfbaaDoorNmL
namespace Go.Proofs.YtcpojpgdjjmfbaaDoor
set_option linter.unusedVariables false
set_option linter.unusedSimpArgs false
set_option maxRecDepth 100000
open Go.RowKit
set_option maxHeartbeats 1000000 in
theorem refCheck_no1 (s : ByteArray) (w : World) (h : s.size = 0) : Calls Tryd.prog 23 #[.string s] w (CQ (.bool false) w) := by
  have h' : s.size < 1 := by omega
  clear h
  go_enter Tryd.func23, Tryd.ntmps23
  go_wp2_with (fail)
  go_ret
  exact ⟨rfl, Below.refl _ _⟩
set_option maxHeartbeats 1000000 in
theorem refCheck_no2 (s : ByteArray) (w : World) (h : 255 < s.size) : Calls Tryd.prog 23 #[.string s] w (CQ (.bool false) w) := by
  obtain ⟨e1, e2⟩ := nonempty_facts s (by omega)
  go_enter Tryd.func23, Tryd.ntmps23
  go_wp2_with (fail)
  go_ret
  exact ⟨rfl, Below.refl _ _⟩
set_option maxHeartbeats 1000000 in
theorem refCheck_no3 (s : ByteArray) (w : World) (h1 : 1 ≤ s.size) (h2 : s.size ≤ 255) (h3 : u8 s = false) : Calls Tryd.prog 23 #[.string s] w (CQ (.bool false) w) := by
  obtain ⟨e1, e2⟩ := nonempty_facts s (by omega)
  have HU := refUtf8_any s w (by omega)
  unfold U8 at HU
  rw [h3] at HU
  have HU := Lib.hid HU
  clear h3
  go_enter Tryd.func23, Tryd.ntmps23
  go_wp2_with (first | (go_at_call 46; refine HU.out.mono ?_; rintro e w1 ⟨rfl, b1⟩; have B1 := Lib.hid b1; clear b1))
  go_ret
  exact ⟨rfl, B1.out⟩
set_option maxHeartbeats 2000000 in
theorem refCheck_go (s : ByteArray) (w : World) (h1 : 1 ≤ s.size) (h2 : s.size ≤ 255) (h3 : u8 s = true) : Calls Tryd.prog 23 #[.string s] w (CQ (.bool (chk s)) w) := by
  obtain ⟨e1, e2⟩ := nonempty_facts s (by omega)
  have HU := refUtf8_any s w (by omega)
  unfold U8 at HU
  rw [h3] at HU
  have KU := Lib.hid HU
  have H3 := Lib.hid h3
  have lp := pieces_le s
  clear h3 HU
  go_enter Tryd.func23, Tryd.ntmps23
  go_wp2_with (first | (go_at_call 46; refine KU.out.mono ?_; rintro e w1 ⟨rfl, b1⟩; have B1 := Lib.hid b1; clear b1))
  go_loopw [3] (fun i wr => ∃ k : Nat, i = .int .i64 k ∧ k ≤ s.size ∧ wr = w1 ∧ Hid (∀ j (h : j < s.size), j < k → badB (s[j]).toNat = false)) (fun i _ => s.size - (intOf i).toNat)
  case atStart => exact ⟨0, rfl, by omega, rfl, Lib.hid (fun j h hk => by omega)⟩
  case round =>
    obtain ⟨k, rfl, hk, rfl, HK⟩ := hrel
    by_cases hlt : k < s.size
    · rcases bad_cases (s[k]).toNat with ⟨hb, hc⟩ | ⟨hb, c1, c2, c3, c4⟩
      · have HX := Lib.hid (chk_byte s k hlt hb)
        clear hb
        rcases hc with c1 | ⟨c1, c2 | ⟨c2, c3 | ⟨c3, c4⟩⟩⟩
        all_goals
          go_wp2_with (fail)
          go_ret
          exact ⟨by rw [HX.out]; rfl, B1.out⟩
      · have HX := Lib.hid hb
        clear hb
        go_wp2_with (fail)
        go_roundw
        case rel => exact ⟨k + 1, by go_num, by omega, trivial, Lib.hid (fun j h hj => by
          by_cases e : j = k
          · subst e; exact HX.out
          · exact HK.out j h (by omega))⟩
        case measure => simp [intOf]; omega
    · have HB := Lib.hid (fun j (h : j < s.size) => HK.out j h (by omega))
      clear HK
      have Q1 := Lib.hid (refParts_any s wr (by omega))
      unfold PQ at Q1
      have HP : Hid (∀ (j : Nat) (h : j < (pieces s).length), okP (pieces s)[j] = false → chk s = false) := Lib.hid (fun j h => chk_part s j h)
      have HY : Hid ((∀ (j : Nat) (h : j < (pieces s).length), okP (pieces s)[j] = true) → chk s = true) := Lib.hid (fun h => chk_yes s h1 h2 H3.out HB.out h)
      generalize pieces s = x at *
      generalize chk s = c at *
      go_wp2_with (fail)
      refine Q1.out.mono ?_
      rintro e w2 ⟨v1, rfl, s1, b2⟩
      have B2 := Lib.hid (B1.out.trans (b2.mono B1.out.size))
      obtain ⟨bx, ox, cx, rfl, hbx, cellx⟩ := s1
      have CX := Lib.hid cellx
      clear cellx hbx b2 Q1
      go_wp2_with (fail)
      go_loopw [5] (fun i wr => ∃ k : Nat, i = .int .i64 k ∧ k ≤ x.length ∧ wr = w2 ∧ Hid (∀ j (h : j < x.length), j < k → okP x[j] = true)) (fun i _ => x.length - (intOf i).toNat)
      case atStart => exact ⟨0, rfl, by omega, rfl, Lib.hid (fun j h hk => by omega)⟩
      case round =>
        obtain ⟨m, rfl, hm, rfl, HK⟩ := hrel
        by_cases hl : m < x.length
        · have g1 := CX.out m hl
          rcases ok_cases x[m] with ⟨hb, hc⟩ | ⟨hb, c1, c2, c3⟩
          · have HX := Lib.hid (HP.out m hl hb)
            clear hb
            generalize x[m] = p at *
            rcases hc with c1 | ⟨c1, c2 | ⟨c2, c3⟩⟩
            all_goals
              go_wp2_with (fail)
              go_ret
              exact ⟨by rw [HX.out]; rfl, B2.out⟩
          · have HX := Lib.hid hb
            clear hb
            go_wp2_with (fail)
            go_roundw
            case rel => exact ⟨m + 1, by go_num, by omega, trivial, Lib.hid (fun j h hj => by
              by_cases e : j = m
              · subst e; exact HX.out
              · exact HK.out j h (by omega))⟩
            case measure => simp [intOf]; omega
        · have HC := Lib.hid (HY.out (fun j h => HK.out j h (by omega)))
          clear HK
          go_wp2_with (fail)
          go_ret
          exact ⟨by rw [HC.out]; rfl, B2.out⟩
end Go.Proofs.YtcpojpgdjjmfbaaDoor
