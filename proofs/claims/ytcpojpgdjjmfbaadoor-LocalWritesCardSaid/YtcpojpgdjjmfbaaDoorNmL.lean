/- name.Check and the reference's Check. -/
import Derived.Test.YtcpojpgdjjmfbaaDoorNmK
import Derived.Test.YtcpojpgdjjmfbaaDoorNmH
namespace Go.Proofs.YtcpojpgdjjmfbaaDoor
set_option linter.unusedVariables false
set_option linter.unusedSimpArgs false
set_option maxRecDepth 100000
open Go.RowKit
def badB (n : Nat) : Bool := decide (n < 32) || n == 127 || n == 58 || n == 92
def okP (p : ByteArray) : Bool := !(p.toList == [] || p.toList == [46] || p.toList == [46, 46])
/-- May it be a name? -/
def chk (s : ByteArray) : Bool := decide (1 ≤ s.size) && decide (s.size ≤ 255) && u8 s && s.data.toList.all (fun b => !badB b.toNat) && (pieces s).all okP
theorem chk_short (s : ByteArray) (h : s.size = 0) : chk s = false := by unfold chk; rw [decide_eq_false (show ¬ 1 ≤ s.size by omega)]; rfl
theorem chk_long (s : ByteArray) (h : 255 < s.size) : chk s = false := by unfold chk; rw [decide_eq_false (show ¬ s.size ≤ 255 by omega)]; simp
theorem chk_utf (s : ByteArray) (h : u8 s = false) : chk s = false := by unfold chk; rw [h]; simp
theorem chk_byte (s : ByteArray) (j : Nat) (hj : j < s.size) (h : badB (s[j]).toNat = true) : chk s = false := by
  have e : s.data.toList.all (fun b => !badB b.toNat) = false := by
    rw [List.all_eq_false]
    exact ⟨s[j], by simp [ByteArray.getElem_eq_getElem_data], by simp [h]⟩
  unfold chk; rw [e]; simp
theorem chk_part (s : ByteArray) (j : Nat) (hj : j < (pieces s).length) (h : okP (pieces s)[j] = false) : chk s = false := by
  have e : (pieces s).all okP = false := by
    rw [List.all_eq_false]
    exact ⟨(pieces s)[j], List.getElem_mem _, by simp [h]⟩
  unfold chk; rw [e]; simp
theorem chk_yes (s : ByteArray) (h1 : 1 ≤ s.size) (h2 : s.size ≤ 255) (h3 : u8 s = true) (h4 : ∀ j (h : j < s.size), badB (s[j]).toNat = false) (h5 : ∀ j (h : j < (pieces s).length), okP (pieces s)[j] = true) : chk s = true := by
  unfold chk
  rw [decide_eq_true h1, decide_eq_true h2, h3]
  simp only [Bool.true_and, Bool.and_eq_true, List.all_eq_true]
  refine ⟨fun b hb => ?_, fun p hp => ?_⟩
  · obtain ⟨j, hj, e⟩ := List.getElem_of_mem hb
    have := h4 j (by simpa using hj)
    rw [← e]
    rw [ByteArray.getElem_eq_getElem_data] at this
    simp at this ⊢
    exact this
  · obtain ⟨j, hj, e⟩ := List.getElem_of_mem hp
    rw [← e]; exact h5 j hj
theorem bad_cases (n : Nat) : badB n = true ∧ (decide ((n : Int) < 32) = true ∨ decide ((n : Int) < 32) = false ∧ (((n : Int) == 127) = true ∨ ((n : Int) == 127) = false ∧ (((n : Int) == 58) = true ∨ ((n : Int) == 58) = false ∧ ((n : Int) == 92) = true))) ∨
    badB n = false ∧ decide ((n : Int) < 32) = false ∧ ((n : Int) == 127) = false ∧ ((n : Int) == 58) = false ∧ ((n : Int) == 92) = false := by
  unfold badB
  by_cases h1 : n < 32
  · left; simp [h1]; omega
  · by_cases h2 : n = 127
    · left; subst h2; simp
    · by_cases h3 : n = 58
      · left; subst h3; simp
      · by_cases h4 : n = 92
        · left; subst h4; simp
        · right; simp [h1, h2, h3, h4]; omega
theorem ok_cases (p : ByteArray) : okP p = false ∧ ((p.toList == []) = true ∨ (p.toList == []) = false ∧ ((p.toList == [46]) = true ∨ (p.toList == [46]) = false ∧ (p.toList == [46, 46]) = true)) ∨
    okP p = true ∧ (p.toList == []) = false ∧ (p.toList == [46]) = false ∧ (p.toList == [46, 46]) = false := by
  unfold okP
  cases (p.toList == []) <;> cases (p.toList == [46]) <;> cases (p.toList == [46, 46]) <;> simp
theorem empty_facts (s : ByteArray) (h : s.size = 0) : s.toList = [] := by
  rw [ByteArray.toList_eq]
  exact List.eq_nil_of_length_eq_zero (by simpa using h)
theorem nonempty_facts (s : ByteArray) (h : 0 < s.size) : s.toList.isEmpty = false ∧ s.toList ≠ [] := by
  have : s.toList ≠ [] := by
    rw [ByteArray.toList_eq]
    intro e
    have h2 := congrArg List.length e
    rw [Array.length_toList] at h2
    have q : s.data.size = s.size := rfl
    have q2 : ([] : List UInt8).length = 0 := rfl
    omega
  exact ⟨by simpa using this, this⟩
def CQ (v : Value) (w : World) (e : Ending) (w' : World) : Prop := e = .returned v ∧ Below w.heap.size w w'
set_option maxHeartbeats 1000000 in
theorem check_no1 (s : ByteArray) (w : World) (h : s.size = 0) : Calls Tryd.prog 27 #[.string s] w (CQ (.int .i64 10) w) := by
  have e := empty_facts s h
  have e2 : s.toList.isEmpty = true := by rw [e]; rfl
  clear h
  go_enter Tryd.func27, Tryd.ntmps27
  go_wp2_with (fail)
  go_ret
  exact ⟨rfl, Below.refl _ _⟩
set_option maxHeartbeats 1000000 in
theorem check_no2 (s : ByteArray) (w : World) (h : 255 < s.size) : Calls Tryd.prog 27 #[.string s] w (CQ (.int .i64 10) w) := by
  obtain ⟨e1, e2⟩ := nonempty_facts s (by omega)
  go_enter Tryd.func27, Tryd.ntmps27
  go_wp2_with (fail)
  go_ret
  exact ⟨rfl, Below.refl _ _⟩
set_option maxHeartbeats 1000000 in
theorem check_no3 (s : ByteArray) (w : World) (hA : Amb w) (h1 : 1 ≤ s.size) (h2 : s.size ≤ 255) (h3 : u8 s = false) : Calls Tryd.prog 27 #[.string s] w (CQ (.int .i64 10) w) := by
  obtain ⟨e1, e2⟩ := nonempty_facts s (by omega)
  have HU := utf8_any s w hA (by omega)
  unfold U8 at HU
  rw [h3] at HU
  have HU := Lib.hid HU
  clear h3 hA
  go_enter Tryd.func27, Tryd.ntmps27
  go_wp2_with (first | (go_at_call 51; refine HU.out.mono ?_; rintro e w1 ⟨rfl, b1⟩; have B1 := Lib.hid b1; clear b1))
  go_ret
  exact ⟨rfl, B1.out⟩
set_option maxHeartbeats 2000000 in
theorem check_go (s : ByteArray) (w : World) (hA : Amb w) (h1 : 1 ≤ s.size) (h2 : s.size ≤ 255) (h3 : u8 s = true) : Calls Tryd.prog 27 #[.string s] w (CQ (.int .i64 (cond (chk s) 0 10)) w) := by
  obtain ⟨e1, e2⟩ := nonempty_facts s (by omega)
  have HU := utf8_any s w hA (by omega)
  unfold U8 at HU
  rw [h3] at HU
  have KU := Lib.hid HU
  have HA := Lib.hid hA
  have H3 := Lib.hid h3
  have lp := pieces_le s
  clear h3 hA HU
  go_enter Tryd.func27, Tryd.ntmps27
  go_wp2_with (first | (go_at_call 51; refine KU.out.mono ?_; rintro e w1 ⟨rfl, b1⟩; have B1 := Lib.hid b1; clear b1))
  go_loopw [3, 4, 21] (fun _ _ i wr => ∃ k : Nat, i = .int .i64 k ∧ k ≤ s.size ∧ wr = w1 ∧ Hid (∀ j (h : j < s.size), j < k → badB (s[j]).toNat = false)) (fun _ _ i _ => s.size - (intOf i).toNat)
  case atStart => exact ⟨0, rfl, by omega, rfl, Lib.hid (fun j h hk => by omega)⟩
  case round =>
    obtain ⟨k, rfl, hk, rfl, HK⟩ := hrel
    by_cases hlt : k < s.size
    · rcases bad_cases (s[k]).toNat with ⟨hb, hc⟩ | ⟨hb, c1, c2, c3, c4⟩
      · have HX := Lib.hid (chk_byte s k hlt hb)
        clear hb
        rcases hc with c1 | ⟨c1, c2 | ⟨c2, c3 | ⟨c3, c4⟩⟩⟩
        all_goals
          go_wp2_with (fail)
          go_ret
          exact ⟨by rw [HX.out]; rfl, B1.out⟩
      · have HX := Lib.hid hb
        clear hb
        go_wp2_with (fail)
        go_roundw
        case rel => exact ⟨k + 1, by go_num, by omega, trivial, Lib.hid (fun j h hj => by
          by_cases e : j = k
          · subst e; exact HX.out
          · exact HK.out j h (by omega))⟩
        case measure => simp [intOf]; omega
    · have HB := Lib.hid (fun j (h : j < s.size) => HK.out j h (by omega))
      clear HK
      have Q1 := Lib.hid (parts_any s wr (HA.out.below B1.out) (by omega))
      unfold PQ at Q1
      have HP : Hid (∀ (j : Nat) (h : j < (pieces s).length), okP (pieces s)[j] = false → chk s = false) := Lib.hid (fun j h => chk_part s j h)
      have HY : Hid ((∀ (j : Nat) (h : j < (pieces s).length), okP (pieces s)[j] = true) → chk s = true) := Lib.hid (fun h => chk_yes s h1 h2 H3.out HB.out h)
      generalize pieces s = x at *
      generalize chk s = c at *
      go_wp2_with (fail)
      refine Q1.out.mono ?_
      rintro e w2 ⟨v1, rfl, s1, b2⟩
      have B2 := Lib.hid (B1.out.trans (b2.mono B1.out.size))
      obtain ⟨bx, ox, cx, rfl, hbx, cellx⟩ := s1
      have CX := Lib.hid cellx
      clear cellx hbx b2 Q1
      go_wp2_with (fail)
      go_loopw [6, 45] (fun _ i wr => ∃ k : Nat, i = .int .i64 k ∧ k ≤ x.length ∧ wr = w2 ∧ Hid (∀ j (h : j < x.length), j < k → okP x[j] = true)) (fun _ i _ => x.length - (intOf i).toNat)
      case atStart => exact ⟨0, rfl, by omega, rfl, Lib.hid (fun j h hk => by omega)⟩
      case round =>
        obtain ⟨m, rfl, hm, rfl, HK⟩ := hrel
        by_cases hl : m < x.length
        · have g1 := CX.out m hl
          rcases ok_cases x[m] with ⟨hb, hc⟩ | ⟨hb, c1, c2, c3⟩
          · have HX := Lib.hid (HP.out m hl hb)
            clear hb
            generalize x[m] = p at *
            rcases hc with c1 | ⟨c1, c2 | ⟨c2, c3⟩⟩
            all_goals
              go_wp2_with (fail)
              go_ret
              exact ⟨by rw [HX.out]; rfl, B2.out⟩
          · have HX := Lib.hid hb
            clear hb
            go_wp2_with (fail)
            go_roundw
            case rel => exact ⟨m + 1, by go_num, by omega, trivial, Lib.hid (fun j h hj => by
              by_cases e : j = m
              · subst e; exact HX.out
              · exact HK.out j h (by omega))⟩
            case measure => simp [intOf]; omega
        · have HC := Lib.hid (HY.out (fun j h => HK.out j h (by omega)))
          clear HK
          go_wp2_with (fail)
          go_ret
          exact ⟨by rw [HC.out]; rfl, B2.out⟩
end Go.Proofs.YtcpojpgdjjmfbaaDoor
