/- The library's variables; name.Rune and name.UTF8. -/
import Derived.Test.YtcpojpgdjjmfbaaDoorRows
import Derived.Test.YtcpojpgdjjmfbaaDoorShelf
import Derived.WalkKit
import Derived.WalkSpells
import Derived.WalkLawsBesides
import Derived.Lib.Hide
import Derived.Lib.DecodeN
import Derived.Outline
namespace Go.Proofs.YtcpojpgdjjmfbaaDoor
set_option linter.unusedVariables false
set_option linter.unusedSimpArgs false
open Go.RowKit
/-- What the code finds of the library's own variables. -/
def Amb (w : World) : Prop := 3 ≤ w.heap.size ∧ Lib.Utf8Tabs 0 1 w ∧ ∃ m, w.cell? ⟨2, 0, none⟩ = some (.int .i64 m)
theorem Amb.below {w w' : World} (h : Amb w) (hb : Below w.heap.size w w') : Amb w' := by
  obtain ⟨h0, ⟨h1, h2⟩, m, h3⟩ := h
  refine ⟨Nat.le_trans h0 hb.size, ⟨fun c hc => ?_, fun i hi => ⟨?_, ?_⟩⟩, m, ?_⟩
  · exact (hb.cell (p := ⟨0, c, none⟩) (show 0 < w.heap.size by omega)).trans (h1 c hc)
  · exact (hb.cell (p := ⟨1, 2 * i, none⟩) (show 1 < w.heap.size by omega)).trans (h2 i hi).1
  · exact (hb.cell (p := ⟨1, 2 * i + 1, none⟩) (show 1 < w.heap.size by omega)).trans (h2 i hi).2
  · exact (hb.cell (p := ⟨2, 0, none⟩) (show 2 < w.heap.size by omega)).trans h3
/-- The sign that a text begins with, and its bytes; (0, 0): there is none. -/
def rn (s : ByteArray) : Nat × Nat := if (Lib.decodeGo s).1 = 65533 ∧ (Lib.decodeGo s).2 < 2 then (0, 0) else Lib.decodeGo s
theorem decodeN_le (n b0 b1 b2 b3 : Nat) (h : 1 ≤ n) : (Lib.decodeN n b0 b1 b2 b3).2 ≤ n := by
  unfold Lib.decodeN
  repeat' split
  all_goals simp
  all_goals omega
theorem decodeN_one (n b0 b1 b2 b3 : Nat) : 1 ≤ (Lib.decodeN n b0 b1 b2 b3).2 := by
  unfold Lib.decodeN
  repeat' split
  all_goals simp
theorem decodeGo_le (s : ByteArray) : (Lib.decodeGo s).2 ≤ s.size := by
  unfold Lib.decodeGo
  split
  · simp
  · rw [Lib.decode_at]
    exact decodeN_le _ _ _ _ _ (by omega)
theorem rn_le (s : ByteArray) : (rn s).2 ≤ s.size := by
  unfold rn
  split
  · simp
  · exact decodeGo_le s
theorem rune_any (s : ByteArray) (w : World) (hA : Amb w) : Calls Tryd.prog 63 #[.string s] w fun e w' =>
    e = .returned (.tuple #[.int .i32 ((rn s).1 : Nat), .int .i64 ((rn s).2 : Nat), .bool (decide (0 < (rn s).2))]) ∧ Below w.heap.size w w' := by
  have hq : (((Lib.decodeGo s).1 : Int) == 65533) = true ∧ decide ((((Lib.decodeGo s).2 : Nat) : Int) < 2) = true ∧ rn s = (0, 0) ∨ ((((Lib.decodeGo s).1 : Int) == 65533) = false ∨ (((Lib.decodeGo s).1 : Int) == 65533) = true ∧ decide ((((Lib.decodeGo s).2 : Nat) : Int) < 2) = false) ∧ rn s = Lib.decodeGo s ∧ decide (0 < (Lib.decodeGo s).2) = true := by
    unfold rn
    by_cases c1 : (Lib.decodeGo s).1 = 65533
    · by_cases c2 : (Lib.decodeGo s).2 < 2
      · left; simp [c1]; omega
      · right; rw [if_neg (by omega)]; simp [c1]; omega
    · right
      rw [if_neg (fun h => c1 h.1)]
      have : 0 < (Lib.decodeGo s).2 := by
        unfold Lib.decodeGo at *
        split at c1
        · simp at c1
        · rename_i h; rw [if_neg h, Lib.decode_at]; exact decodeN_one _ _ _ _ _
      simp [this]; omega
  have HD := Lib.hid (Tryd.utf8_DecodeRuneInString s w hA.2.1)
  generalize Lib.decodeGo s = d at *
  obtain ⟨d1, d2⟩ := d
  simp only at hq HD
  rcases hq with ⟨h1, h2, h3⟩ | ⟨h1, h3, h4⟩
  · rw [h3]
    clear h3
    go_enter Tryd.func63, Tryd.ntmps63
    go_wp2_with (first | (go_at_call 66; refine HD.out.mono ?_; rintro e w' ⟨rfl, hb⟩; have HB := Lib.hid hb; clear hb))
    go_ret3
    exact ⟨rfl, HB.out⟩
  · rw [h3]
    simp only [h4]
    clear h3 h4
    rcases h1 with h1 | ⟨h1, h2⟩
    all_goals
      go_enter Tryd.func63, Tryd.ntmps63
      go_wp2_with (first | (go_at_call 66; refine HD.out.mono ?_; rintro e w' ⟨rfl, hb⟩; have HB := Lib.hid hb; clear hb))
      go_ret3
      exact ⟨rfl, HB.out⟩
/-- Is all of it signs? -/
def u8f : Nat → ByteArray → Bool
  | 0, _ => true
  | f + 1, s => if s.size = 0 then true else if (rn s).2 = 0 then false else u8f f (s.extract (rn s).2 s.size)
def u8 (s : ByteArray) : Bool := u8f s.size s
end Go.Proofs.YtcpojpgdjjmfbaaDoor
