/- name.Check and the reference's Check, each in one contract; name.ASCII; the law's awake. -/
import Derived.Test.YtcpojpgdjjmfbaaDoorNmM
namespace Go.Proofs.YtcpojpgdjjmfbaaDoor
set_option linter.unusedVariables false
set_option linter.unusedSimpArgs false
set_option maxRecDepth 100000
open Go.RowKit
theorem check_any (s : ByteArray) (w : World) (hA : Amb w) : Calls Tryd.prog 27 #[.string s] w (CQ (.int .i64 (cond (chk s) 0 10)) w) := by
  by_cases h1 : s.size = 0
  · rw [chk_short s h1]; exact check_no1 s w h1
  · by_cases h2 : 255 < s.size
    · rw [chk_long s h2]; exact check_no2 s w h2
    · cases h3 : u8 s with
      | false => rw [chk_utf s h3]; exact check_no3 s w hA (by omega) (by omega) h3
      | true => exact check_go s w hA (by omega) (by omega) h3
theorem refCheck_any (s : ByteArray) (w : World) : Calls Tryd.prog 23 #[.string s] w (CQ (.bool (chk s)) w) := by
  by_cases h1 : s.size = 0
  · rw [chk_short s h1]; exact refCheck_no1 s w h1
  · by_cases h2 : 255 < s.size
    · rw [chk_long s h2]; exact refCheck_no2 s w h2
    · cases h3 : u8 s with
      | false => rw [chk_utf s h3]; exact refCheck_no3 s w (by omega) (by omega) h3
      | true => exact refCheck_go s w (by omega) (by omega) h3
/-- Has it no byte above 126, up to a place? -/
def ascT (s : ByteArray) (k : Nat) : Bool := (s.data.toList.take k).all fun b => decide (b.toNat ≤ 126)
def asc (s : ByteArray) : Bool := ascT s s.size
theorem ascT_step (s : ByteArray) (k : Nat) (h : k < s.size) : ascT s (k + 1) = (ascT s k && decide ((s[k]).toNat ≤ 126)) := by
  unfold ascT
  rw [take_snoc s k h, List.all_append]
  simp
theorem ascT_no (s : ByteArray) (k : Nat) (h : k < s.size) (hb : 126 < (s[k]).toNat) : asc s = false := by
  unfold asc ascT
  rw [List.all_eq_false]
  refine ⟨s[k], ?_, by simpa using hb⟩
  rw [List.take_of_length_le (by simp)]
  simp [ByteArray.getElem_eq_getElem_data]
theorem ascii_any (s : ByteArray) (w : World) (hs : s.size ≤ 9223372036854775807) : Calls Tryd.prog 29 #[.string s] w fun e w' => e = .returned (.bool (asc s)) ∧ w = w' := by
  have HN : Hid (∀ k (h : k < s.size), 126 < (s[k]).toNat → asc s = false) := Lib.hid (fun k h hb => ascT_no s k h hb)
  have HE : Hid (∀ k, k = s.size → ascT s k = asc s) := Lib.hid (fun k h => by rw [h]; rfl)
  have HS : Hid (∀ k (h : k < s.size), ascT s (k + 1) = (ascT s k && decide ((s[k]).toNat ≤ 126))) := Lib.hid (ascT_step s)
  have H0 : Hid (ascT s 0 = true) := Lib.hid rfl
  generalize asc s = c at *
  generalize ascT s = f at *
  go_enter Tryd.func29, Tryd.ntmps29
  go_wp2_with (fail)
  go_loop [3, 6] (fun _ i => ∃ k : Nat, i = .int .i64 k ∧ k ≤ s.size ∧ Hid (f k = true)) (fun _ i => s.size - (intOf i).toNat)
  case atStart => exact ⟨0, rfl, by omega, H0⟩
  case round =>
    obtain ⟨k, rfl, hk, HF⟩ := hrel
    by_cases hlt : k < s.size
    · by_cases hb : 126 < (s[k]).toNat
      · have HX := Lib.hid (HN.out k hlt hb)
        have hb' : decide ((126 : Int) < ((s[k]).toNat : Int)) = true := decide_eq_true (by omega)
        clear hb
        go_wp2_with (fail)
        go_ret
        exact ⟨by rw [HX.out]; rfl, rfl⟩
      · have HX := Lib.hid (HS.out k hlt)
        have hb' : decide ((126 : Int) < ((s[k]).toNat : Int)) = false := decide_eq_false (by omega)
        have hb2 := Lib.hid hb
        clear hb
        go_wp2_with (fail)
        go_round
        case rel => exact ⟨k + 1, by go_num, by omega, Lib.hid (by rw [HX.out, HF.out]; have := hb2.out; simp; omega)⟩
        case measure => simp [intOf]; omega
    · have HX := Lib.hid (HE.out k (by omega))
      go_wp2_with (fail)
      go_ret
      exact ⟨by rw [← HX.out, HF.out]; rfl, rfl⟩
end Go.Proofs.YtcpojpgdjjmfbaaDoor
