/- The reference's Rune. -/
import Derived.Test.YtcpojpgdjjmfbaaDoorNmC
import Derived.Test.YtcpojpgdjjmfbaaDoorMono
namespace Go.Proofs.YtcpojpgdjjmfbaaDoor
set_option linter.unusedVariables false
set_option linter.unusedSimpArgs false
open Go.RowKit
def RuQ (r : Nat × Nat) (w : World) (e : Ending) (w' : World) : Prop := e = .returned (.tuple #[.int .i64 (r.1 : Nat), .int .i64 (r.2 : Nat)]) ∧ Below w.heap.size w w'
theorem refRune_empty (s : ByteArray) (w : World) (h : s.size = 0) : Calls Tryd.prog 62 #[.string s] w (RuQ (0, 0) w) := by
  have h0 : ((s.size : Int) == 0) = true := by simp [h]
  have h1 : (s.size == 0) = true := by simp [h]
  clear h
  go_enter Tryd.func62, Tryd.ntmps62
  go_wp2
  go_ret2
  exact ⟨rfl, Below.refl _ _⟩
set_option maxHeartbeats 1000000 in
theorem refRune_short2 (s : ByteArray) (w : World) (b0 : Nat) (hs : s.size ≤ 9223372036854775807) (hn : 0 < s.size ∧ s.size < 2) (hb0 : (s[0]'(by omega)).toNat = b0) (a0 : 192 ≤ b0) (a1 : b0 ≤ 223) : Calls Tryd.prog 62 #[.string s] w (RuQ (0, 0) w) := by
  have h0 : ((s.size : Int) == 0) = false := by rw [beq_eq_false_iff_ne]; omega
  have h1 : (s.size == 0) = false := by rw [beq_eq_false_iff_ne]; omega
  have g240 : decide (240 ≤ (b0 : Int)) = false := decide_eq_false (by omega)
  have g224 : decide (224 ≤ (b0 : Int)) = false := decide_eq_false (by omega)
  have g192 : decide (192 ≤ (b0 : Int)) = true := decide_eq_true (by omega)
  have gs : decide ((s.size : Int) < 2) = true := decide_eq_true (by omega)
  have gs2 : decide (s.size < 2) = true := decide_eq_true (by omega)
  obtain ⟨hn, hn2⟩ := hn
  go_enter Tryd.func62, Tryd.ntmps62
  go_wp2
  go_ret2
  exact ⟨rfl, Below.refl _ _⟩
set_option maxHeartbeats 1000000 in
theorem refRune_bad21 (s : ByteArray) (w : World) (b0 b1 : Nat) (hs : s.size ≤ 9223372036854775807) (hn : 2 ≤ s.size) (hb0 : (s[0]'(by omega)).toNat = b0) (hb1 : (s[1]'(by omega)).toNat = b1) (a0 : 192 ≤ b0) (a1 : b0 ≤ 223) (hbad : b1 < 128 ∨ 191 < b1) : Calls Tryd.prog 62 #[.string s] w (RuQ (0, 0) w) := by
  have h0 : ((s.size : Int) == 0) = false := by rw [beq_eq_false_iff_ne]; omega
  have h1 : (s.size == 0) = false := by rw [beq_eq_false_iff_ne]; omega
  have g240 : decide (240 ≤ (b0 : Int)) = false := decide_eq_false (by omega)
  have g224 : decide (224 ≤ (b0 : Int)) = false := decide_eq_false (by omega)
  have g192 : decide (192 ≤ (b0 : Int)) = true := decide_eq_true (by omega)
  have gs : decide ((s.size : Int) < 2) = false := decide_eq_false (by omega)
  rcases hbad with hbad | hbad
  rotate_left
  have pz : decide ((b1 : Int) < 128) = false := decide_eq_false (by omega)
  have qz : decide (191 < (b1 : Int)) = true := decide_eq_true (by omega)
  rotate_left
  have pz : decide ((b1 : Int) < 128) = true := decide_eq_true (by omega)
  all_goals
    go_enter Tryd.func62, Tryd.ntmps62
    go_wp2
    refine wp_loop_rounds 1 ?_
    rw [rounds_succ]
    go_wp2
    go_ret2
    exact ⟨rfl, Below.refl _ _⟩
set_option maxHeartbeats 1000000 in
theorem refRune_short3 (s : ByteArray) (w : World) (b0 : Nat) (hs : s.size ≤ 9223372036854775807) (hn : 0 < s.size ∧ s.size < 3) (hb0 : (s[0]'(by omega)).toNat = b0) (a0 : 224 ≤ b0) (a1 : b0 ≤ 239) : Calls Tryd.prog 62 #[.string s] w (RuQ (0, 0) w) := by
  have h0 : ((s.size : Int) == 0) = false := by rw [beq_eq_false_iff_ne]; omega
  have h1 : (s.size == 0) = false := by rw [beq_eq_false_iff_ne]; omega
  have g240 : decide (240 ≤ (b0 : Int)) = false := decide_eq_false (by omega)
  have g224 : decide (224 ≤ (b0 : Int)) = true := decide_eq_true (by omega)
  have gs : decide ((s.size : Int) < 3) = true := decide_eq_true (by omega)
  have gs2 : decide (s.size < 3) = true := decide_eq_true (by omega)
  obtain ⟨hn, hn2⟩ := hn
  go_enter Tryd.func62, Tryd.ntmps62
  go_wp2
  go_ret2
  exact ⟨rfl, Below.refl _ _⟩
set_option maxHeartbeats 1000000 in
theorem refRune_bad31 (s : ByteArray) (w : World) (b0 b1 : Nat) (hs : s.size ≤ 9223372036854775807) (hn : 3 ≤ s.size) (hb0 : (s[0]'(by omega)).toNat = b0) (hb1 : (s[1]'(by omega)).toNat = b1) (a0 : 224 ≤ b0) (a1 : b0 ≤ 239) (hbad : b1 < 128 ∨ 191 < b1) : Calls Tryd.prog 62 #[.string s] w (RuQ (0, 0) w) := by
  have h0 : ((s.size : Int) == 0) = false := by rw [beq_eq_false_iff_ne]; omega
  have h1 : (s.size == 0) = false := by rw [beq_eq_false_iff_ne]; omega
  have g240 : decide (240 ≤ (b0 : Int)) = false := decide_eq_false (by omega)
  have g224 : decide (224 ≤ (b0 : Int)) = true := decide_eq_true (by omega)
  have gs : decide ((s.size : Int) < 3) = false := decide_eq_false (by omega)
  rcases hbad with hbad | hbad
  rotate_left
  have pz : decide ((b1 : Int) < 128) = false := decide_eq_false (by omega)
  have qz : decide (191 < (b1 : Int)) = true := decide_eq_true (by omega)
  rotate_left
  have pz : decide ((b1 : Int) < 128) = true := decide_eq_true (by omega)
  all_goals
    go_enter Tryd.func62, Tryd.ntmps62
    go_wp2
    refine wp_loop_rounds 1 ?_
    rw [rounds_succ]
    go_wp2
    go_ret2
    exact ⟨rfl, Below.refl _ _⟩
set_option maxHeartbeats 1000000 in
theorem refRune_bad32 (s : ByteArray) (w : World) (b0 b1 b2 : Nat) (hs : s.size ≤ 9223372036854775807) (hn : 3 ≤ s.size) (hb0 : (s[0]'(by omega)).toNat = b0) (hb1 : (s[1]'(by omega)).toNat = b1) (hb2 : (s[2]'(by omega)).toNat = b2) (a0 : 224 ≤ b0) (a1 : b0 ≤ 239) (c1 : 128 ≤ b1) (c1' : b1 ≤ 191) (hbad : b2 < 128 ∨ 191 < b2) : Calls Tryd.prog 62 #[.string s] w (RuQ (0, 0) w) := by
  have h0 : ((s.size : Int) == 0) = false := by rw [beq_eq_false_iff_ne]; omega
  have h1 : (s.size == 0) = false := by rw [beq_eq_false_iff_ne]; omega
  have g240 : decide (240 ≤ (b0 : Int)) = false := decide_eq_false (by omega)
  have g224 : decide (224 ≤ (b0 : Int)) = true := decide_eq_true (by omega)
  have gs : decide ((s.size : Int) < 3) = false := decide_eq_false (by omega)
  have p1 : decide ((b1 : Int) < 128) = false := decide_eq_false (by omega)
  have q1 : decide (191 < (b1 : Int)) = false := decide_eq_false (by omega)
  rcases hbad with hbad | hbad
  rotate_left
  have pz : decide ((b2 : Int) < 128) = false := decide_eq_false (by omega)
  have qz : decide (191 < (b2 : Int)) = true := decide_eq_true (by omega)
  rotate_left
  have pz : decide ((b2 : Int) < 128) = true := decide_eq_true (by omega)
  all_goals
    go_enter Tryd.func62, Tryd.ntmps62
    go_wp2
    refine wp_loop_rounds 2 ?_
    rw [rounds_succ]
    go_wp2
    rw [rounds_succ]
    go_wp2
    go_ret2
    exact ⟨rfl, Below.refl _ _⟩
set_option maxHeartbeats 1000000 in
theorem refRune_short4 (s : ByteArray) (w : World) (b0 : Nat) (hs : s.size ≤ 9223372036854775807) (hn : 0 < s.size ∧ s.size < 4) (hb0 : (s[0]'(by omega)).toNat = b0) (a0 : 240 ≤ b0) (a1 : b0 ≤ 255) : Calls Tryd.prog 62 #[.string s] w (RuQ (0, 0) w) := by
  have h0 : ((s.size : Int) == 0) = false := by rw [beq_eq_false_iff_ne]; omega
  have h1 : (s.size == 0) = false := by rw [beq_eq_false_iff_ne]; omega
  have g240 : decide (240 ≤ (b0 : Int)) = true := decide_eq_true (by omega)
  have gs : decide ((s.size : Int) < 4) = true := decide_eq_true (by omega)
  have gs2 : decide (s.size < 4) = true := decide_eq_true (by omega)
  obtain ⟨hn, hn2⟩ := hn
  go_enter Tryd.func62, Tryd.ntmps62
  go_wp2
  go_ret2
  exact ⟨rfl, Below.refl _ _⟩
set_option maxHeartbeats 1000000 in
theorem refRune_bad41 (s : ByteArray) (w : World) (b0 b1 : Nat) (hs : s.size ≤ 9223372036854775807) (hn : 4 ≤ s.size) (hb0 : (s[0]'(by omega)).toNat = b0) (hb1 : (s[1]'(by omega)).toNat = b1) (a0 : 240 ≤ b0) (a1 : b0 ≤ 255) (hbad : b1 < 128 ∨ 191 < b1) : Calls Tryd.prog 62 #[.string s] w (RuQ (0, 0) w) := by
  have h0 : ((s.size : Int) == 0) = false := by rw [beq_eq_false_iff_ne]; omega
  have h1 : (s.size == 0) = false := by rw [beq_eq_false_iff_ne]; omega
  have g240 : decide (240 ≤ (b0 : Int)) = true := decide_eq_true (by omega)
  have gs : decide ((s.size : Int) < 4) = false := decide_eq_false (by omega)
  rcases hbad with hbad | hbad
  rotate_left
  have pz : decide ((b1 : Int) < 128) = false := decide_eq_false (by omega)
  have qz : decide (191 < (b1 : Int)) = true := decide_eq_true (by omega)
  rotate_left
  have pz : decide ((b1 : Int) < 128) = true := decide_eq_true (by omega)
  all_goals
    go_enter Tryd.func62, Tryd.ntmps62
    go_wp2
    refine wp_loop_rounds 1 ?_
    rw [rounds_succ]
    go_wp2
    go_ret2
    exact ⟨rfl, Below.refl _ _⟩
set_option maxHeartbeats 1000000 in
theorem refRune_bad42 (s : ByteArray) (w : World) (b0 b1 b2 : Nat) (hs : s.size ≤ 9223372036854775807) (hn : 4 ≤ s.size) (hb0 : (s[0]'(by omega)).toNat = b0) (hb1 : (s[1]'(by omega)).toNat = b1) (hb2 : (s[2]'(by omega)).toNat = b2) (a0 : 240 ≤ b0) (a1 : b0 ≤ 255) (c1 : 128 ≤ b1) (c1' : b1 ≤ 191) (hbad : b2 < 128 ∨ 191 < b2) : Calls Tryd.prog 62 #[.string s] w (RuQ (0, 0) w) := by
  have h0 : ((s.size : Int) == 0) = false := by rw [beq_eq_false_iff_ne]; omega
  have h1 : (s.size == 0) = false := by rw [beq_eq_false_iff_ne]; omega
  have g240 : decide (240 ≤ (b0 : Int)) = true := decide_eq_true (by omega)
  have gs : decide ((s.size : Int) < 4) = false := decide_eq_false (by omega)
  have p1 : decide ((b1 : Int) < 128) = false := decide_eq_false (by omega)
  have q1 : decide (191 < (b1 : Int)) = false := decide_eq_false (by omega)
  rcases hbad with hbad | hbad
  rotate_left
  have pz : decide ((b2 : Int) < 128) = false := decide_eq_false (by omega)
  have qz : decide (191 < (b2 : Int)) = true := decide_eq_true (by omega)
  rotate_left
  have pz : decide ((b2 : Int) < 128) = true := decide_eq_true (by omega)
  all_goals
    go_enter Tryd.func62, Tryd.ntmps62
    go_wp2
    refine wp_loop_rounds 2 ?_
    rw [rounds_succ]
    go_wp2
    rw [rounds_succ]
    go_wp2
    go_ret2
    exact ⟨rfl, Below.refl _ _⟩
set_option maxHeartbeats 1000000 in
theorem refRune_bad43 (s : ByteArray) (w : World) (b0 b1 b2 b3 : Nat) (hs : s.size ≤ 9223372036854775807) (hn : 4 ≤ s.size) (hb0 : (s[0]'(by omega)).toNat = b0) (hb1 : (s[1]'(by omega)).toNat = b1) (hb2 : (s[2]'(by omega)).toNat = b2) (hb3 : (s[3]'(by omega)).toNat = b3) (a0 : 240 ≤ b0) (a1 : b0 ≤ 255) (c1 : 128 ≤ b1) (c1' : b1 ≤ 191) (c2 : 128 ≤ b2) (c2' : b2 ≤ 191) (hbad : b3 < 128 ∨ 191 < b3) : Calls Tryd.prog 62 #[.string s] w (RuQ (0, 0) w) := by
  have h0 : ((s.size : Int) == 0) = false := by rw [beq_eq_false_iff_ne]; omega
  have h1 : (s.size == 0) = false := by rw [beq_eq_false_iff_ne]; omega
  have g240 : decide (240 ≤ (b0 : Int)) = true := decide_eq_true (by omega)
  have gs : decide ((s.size : Int) < 4) = false := decide_eq_false (by omega)
  have p1 : decide ((b1 : Int) < 128) = false := decide_eq_false (by omega)
  have q1 : decide (191 < (b1 : Int)) = false := decide_eq_false (by omega)
  have p2 : decide ((b2 : Int) < 128) = false := decide_eq_false (by omega)
  have q2 : decide (191 < (b2 : Int)) = false := decide_eq_false (by omega)
  rcases hbad with hbad | hbad
  rotate_left
  have pz : decide ((b3 : Int) < 128) = false := decide_eq_false (by omega)
  have qz : decide (191 < (b3 : Int)) = true := decide_eq_true (by omega)
  rotate_left
  have pz : decide ((b3 : Int) < 128) = true := decide_eq_true (by omega)
  all_goals
    go_enter Tryd.func62, Tryd.ntmps62
    go_wp2
    refine wp_loop_rounds 3 ?_
    rw [rounds_succ]
    go_wp2
    rw [rounds_succ]
    go_wp2
    rw [rounds_succ]
    go_wp2
    go_ret2
    exact ⟨rfl, Below.refl _ _⟩
end Go.Proofs.YtcpojpgdjjmfbaaDoor
