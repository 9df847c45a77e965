/- The reference's UTF8. -/
import Derived.Test.YtcpojpgdjjmfbaaDoorNmG
namespace Go.Proofs.YtcpojpgdjjmfbaaDoor
set_option linter.unusedVariables false
set_option linter.unusedSimpArgs false
open Go.RowKit
set_option maxHeartbeats 1000000 in
theorem refUtf8_any (s : ByteArray) (w : World) (hs : s.size ≤ 9223372036854775807) : Calls Tryd.prog 46 #[.string s] w (U8 s w) := by
  go_enter Tryd.func46, Tryd.ntmps46
  go_wp2
  go_loopw [0] (fun v wr => ∃ (f : Nat) (t : ByteArray), v = .string t ∧ t.size ≤ 9223372036854775807 ∧ Hid (t.size ≤ f ∧ u8f f t = u8 s) ∧ Hid (Below w.heap.size w wr)) (fun v _ => szOf v)
  case atStart => exact ⟨s.size, s, rfl, hs, Lib.hid ⟨Nat.le_refl _, rfl⟩, Lib.hid (Below.refl _ _)⟩
  case round =>
    obtain ⟨f, t, rfl, ht, HT, HW⟩ := hrel
    by_cases hz : t.size = 0
    · have h0 : decide (0 < t.size) = false := decide_eq_false (by omega)
      have h1 : decide ((0 : Int) < (t.size : Int)) = false := decide_eq_false (by omega)
      have HZ := Lib.hid hz
      clear hz
      go_wp2
      go_ret
      exact ⟨by rw [← HT.out.2, u8f_zero f t HZ.out]; rfl, HW.out⟩
    · have h0 : 0 < t.size := by omega
      have hle := rn_le t
      have HR := Lib.hid (refRune_any t wr ht)
      by_cases hk : (rn t).2 = 0
      · have HF := Lib.hid (u8f_bad f t h0 HT.out.1 hk)
        have hd : (((rn t).2 : Int) == 0) = true := by simp [hk]
        clear hk
        unfold RuQ at HR
        generalize rn t = r at *
        obtain ⟨r1, r2⟩ := r
        simp only at *
        go_wp2_with (first | (go_at_call 62; refine HR.out.mono ?_; rintro e w' ⟨rfl, hb⟩; have HB := Lib.hid hb; clear hb))
        go_ret
        exact ⟨by rw [← HT.out.2, HF.out]; rfl, HW.out.trans (HB.out.mono HW.out.size)⟩
      · have HF := Lib.hid (u8f_step f t h0 HT.out.1 (by omega))
        have hd : (((rn t).2 : Int) == 0) = false := by rw [beq_eq_false_iff_ne]; omega
        have hd2 : ((rn t).2 == 0) = false := by rw [beq_eq_false_iff_ne]; omega
        have hsz := ext_size t (rn t).2
        have hpos : 0 < (rn t).2 := by omega
        have HSZ := Lib.hid hsz
        clear hk hsz hz
        unfold RuQ at HR
        generalize rn t = r at *
        obtain ⟨r1, r2⟩ := r
        simp only at *
        go_wp2_with (first | (go_at_call 62; refine HR.out.mono ?_; rintro e w' ⟨rfl, hb⟩; have HB := Lib.hid hb; clear hb))
        go_roundw
        case rel => exact ⟨f - 1, _, rfl, by rw [HSZ.out]; omega, Lib.hid ⟨HF.out.1, HF.out.2.trans HT.out.2⟩, Lib.hid (HW.out.trans (HB.out.mono HW.out.size))⟩
        case measure => show (t.extract r2 t.size).size < t.size; rw [HSZ.out]; omega
end Go.Proofs.YtcpojpgdjjmfbaaDoor
