/- The page's Parse of layer 27. -/
import Derived.Test.YtjkmgakgjoojfaaDoorLocZ
import Derived.Test.YtjkmgakgjoojfaaDoorMonoT
import Derived.Deep.QuietTactic
import Derived.BigQuiet
namespace Go.Proofs.YtjkmgakgjoojfaaDoor
set_option maxRecDepth 100000
set_option linter.unusedVariables false
set_option linter.unusedSimpArgs false
open Go.RowKit
/-- A piece of bytes from one place to another. -/
theorem cut_byt {w : World} {B : Nat} {ad : Option Addr} {c : Nat} {l : List UInt8} (h : Byt w B (.slice ad l.length c) l) (hc : l.length ≤ c) (lo hi : Nat) (h1 : lo ≤ hi) (h2 : hi ≤ l.length) :
    ∃ a' c', (∀ W : World, (Instr.slice 33 (.slice ad l.length c) (some (.int .i64 (lo : Nat))) (some (.int .i64 (hi : Nat))) none).run Tryd.prog W = .ok (.slice a' (hi - lo) c') W) ∧ hi - lo ≤ c' ∧ Byt w B (.slice a' (hi - lo) c') ((l.drop lo).take (hi - lo)) := by
  have hsl := fun W => slice_lh (t := 33) (e := 5) (size := 1) Tryd.underlying33 size_u8 ad l.length c (lo : Int) (hi : Int) (by omega) (by omega) (by omega) W
  have hsb := sub_byt h lo (hi - lo) (by omega)
  simp only [Int.toNat_natCast] at hsl
  exact ⟨_, _, hsl, by omega, hsb⟩
theorem cut_end {w : World} {B : Nat} {ad : Option Addr} {c : Nat} {l : List UInt8} (h : Byt w B (.slice ad l.length c) l) (hc : l.length ≤ c) (lo : Nat) (h1 : lo ≤ l.length) :
    ∃ a' c', (∀ W : World, (Instr.slice 33 (.slice ad l.length c) (some (.int .i64 (lo : Nat))) none none).run Tryd.prog W = .ok (.slice a' (l.length - lo) c') W) ∧ l.length - lo ≤ c' ∧ Byt w B (.slice a' (l.length - lo) c') (l.drop lo) := by
  have hsl := fun W => slice_l (t := 33) (e := 5) (size := 1) Tryd.underlying33 size_u8 ad l.length c (lo : Int) (by omega) (by omega) W
  have hsb := sub_byt h lo (l.length - lo) (by omega)
  simp only [Int.toNat_natCast] at hsl
  rw [List.take_of_length_le (by rw [List.length_drop]; omega)] at hsb
  exact ⟨_, _, hsl, by omega, hsb⟩
theorem cut_head {w : World} {B : Nat} {ad : Option Addr} {c : Nat} {l : List UInt8} (h : Byt w B (.slice ad l.length c) l) (hc : l.length ≤ c) (hi : Nat) (h1 : hi ≤ l.length) :
    ∃ a' c', (∀ W : World, (Instr.slice 33 (.slice ad l.length c) none (some (.int .i64 (hi : Nat))) none).run Tryd.prog W = .ok (.slice a' hi c') W) ∧ hi ≤ c' ∧ Byt w B (.slice a' hi c') (l.take hi) := by
  have hsl := fun W => slice_h (t := 33) (e := 5) (size := 1) Tryd.underlying33 size_u8 ad l.length c (hi : Int) (by omega) (by omega) W
  have hsb := sub_byt h 0 hi (by omega)
  simp only [Int.toNat_natCast, Nat.sub_zero] at hsl
  rw [List.drop_zero] at hsb
  simp only [Nat.sub_zero] at hsb
  exact ⟨_, _, hsl, by omega, hsb⟩
end Go.Proofs.YtjkmgakgjoojfaaDoor
