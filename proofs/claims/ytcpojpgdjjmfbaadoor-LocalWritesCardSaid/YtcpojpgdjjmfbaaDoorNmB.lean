/- name.UTF8 and the reference's UTF8, over the contracts of the two Rune functions. -/
import Derived.Test.YtcpojpgdjjmfbaaDoorNmA
namespace Go.Proofs.YtcpojpgdjjmfbaaDoor
set_option linter.unusedVariables false
set_option linter.unusedSimpArgs false
open Go.RowKit
def szOf : Value → Nat | .string t => t.size | _ => 0
theorem ext_size (s : ByteArray) (k : Nat) : (s.extract k s.size).size = s.size - k := by
  simp [ByteArray.size_extract]
theorem u8f_zero (f : Nat) (s : ByteArray) (h : s.size = 0) : u8f f s = true := by
  cases f with
  | zero => rfl
  | succ f => unfold u8f; rw [if_pos h]
theorem u8f_bad (f : Nat) (s : ByteArray) (h : 0 < s.size) (hf : s.size ≤ f) (hz : (rn s).2 = 0) : u8f f s = false := by
  cases f with
  | zero => omega
  | succ f => unfold u8f; rw [if_neg (by omega), if_pos hz]
theorem u8f_step (f : Nat) (s : ByteArray) (h : 0 < s.size) (hf : s.size ≤ f) (hz : 0 < (rn s).2) : (s.extract (rn s).2 s.size).size ≤ f - 1 ∧ u8f (f - 1) (s.extract (rn s).2 s.size) = u8f f s := by
  cases f with
  | zero => omega
  | succ f =>
    have := rn_le s
    rw [ext_size]
    refine ⟨by omega, ?_⟩
    show u8f f _ = u8f (f + 1) s
    rw [show u8f (f + 1) s = (if s.size = 0 then true else if (rn s).2 = 0 then false else u8f f (s.extract (rn s).2 s.size)) from rfl, if_neg (by omega), if_neg (by omega)]
def U8 (s : ByteArray) (w : World) (e : Ending) (w' : World) : Prop := e = .returned (.bool (u8 s)) ∧ Below w.heap.size w w'
set_option maxHeartbeats 1000000 in
theorem utf8_any (s : ByteArray) (w : World) (hA : Amb w) (hs : s.size ≤ 9223372036854775807) : Calls Tryd.prog 51 #[.string s] w (U8 s w) := by
  have HA := Lib.hid hA
  clear hA
  go_enter Tryd.func51, Tryd.ntmps51
  go_wp2
  go_loopw [0] (fun v wr => ∃ (f : Nat) (t : ByteArray), v = .string t ∧ t.size ≤ 9223372036854775807 ∧ Hid (t.size ≤ f ∧ u8f f t = u8 s) ∧ Hid (Below w.heap.size w wr ∧ Amb wr)) (fun v _ => szOf v)
  case atStart => exact ⟨s.size, s, rfl, hs, Lib.hid ⟨Nat.le_refl _, rfl⟩, Lib.hid ⟨Below.refl _ _, HA.out⟩⟩
  case round =>
    obtain ⟨f, t, rfl, ht, HT, HW⟩ := hrel
    by_cases hz : t.size = 0
    · have h0 : decide (0 < t.size) = false := decide_eq_false (by omega)
      have h1 : decide ((0 : Int) < (t.size : Int)) = false := decide_eq_false (by omega)
      have HZ := Lib.hid hz
      clear hz
      go_wp2
      go_ret
      exact ⟨by rw [← HT.out.2, u8f_zero f t HZ.out]; rfl, HW.out.1⟩
    · have h0 : 0 < t.size := by omega
      have hle := rn_le t
      have HR := Lib.hid (rune_any t wr HW.out.2)
      by_cases hk : (rn t).2 = 0
      · have HF := Lib.hid (u8f_bad f t h0 HT.out.1 hk)
        have hd : decide (0 < (rn t).2) = false := by simp; omega
        rw [hd] at HR
        clear hk hd
        generalize rn t = r at *
        obtain ⟨r1, r2⟩ := r
        simp only at *
        go_wp2_with (first | (go_at_call 63; refine HR.out.mono ?_; rintro e w' ⟨rfl, hb⟩; have HB := Lib.hid hb; clear hb))
        go_ret
        exact ⟨by rw [← HT.out.2, HF.out]; rfl, HW.out.1.trans (HB.out.mono HW.out.1.size)⟩
      · have HF := Lib.hid (u8f_step f t h0 HT.out.1 (by omega))
        have hd : decide (0 < (rn t).2) = true := by simp; omega
        have hsz := ext_size t (rn t).2
        have hpos : 0 < (rn t).2 := by omega
        rw [hd] at HR
        have HSZ := Lib.hid hsz
        clear hk hd hsz hz
        generalize rn t = r at *
        obtain ⟨r1, r2⟩ := r
        simp only at *
        go_wp2_with (first | (go_at_call 63; refine HR.out.mono ?_; rintro e w' ⟨rfl, hb⟩; have HB := Lib.hid hb; clear hb))
        go_roundw
        case rel => exact ⟨f - 1, _, rfl, by rw [HSZ.out]; omega, Lib.hid ⟨HF.out.1, HF.out.2.trans HT.out.2⟩, Lib.hid ⟨HW.out.1.trans (HB.out.mono HW.out.1.size), HW.out.2.below HB.out⟩⟩
        case measure => show (t.extract r2 t.size).size < t.size; rw [HSZ.out]; omega
end Go.Proofs.YtcpojpgdjjmfbaaDoor
