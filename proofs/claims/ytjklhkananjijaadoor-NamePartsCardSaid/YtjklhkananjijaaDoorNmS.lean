/- NameParts: name.Base, name.Dir; the walk. -/
import Derived.Test.YtjklhkananjijaaDoorNmO
import Derived.Test.YtjklhkananjijaaDoorNmR
set_option linter.unusedVariables false
set_option linter.unusedSimpArgs false
namespace Go.Proofs.YtjklhkananjijaaDoor
open Go.RowKit
theorem last_none (s : ByteArray) (h : ∀ x ∈ s.data.toList, x ≠ 47) : Lib.lastIndexByte s 47 = -1 := by
  rcases Lib.lastIdx_spec s 47 s.size with ⟨h1, _⟩ | ⟨i, hi, _, h2, _⟩
  · exact h1
  · exfalso
    have hi' : i < s.data.size := hi
    rw [getElem!_pos s.data i hi'] at h2
    refine h s.data[i] (by simp) (UInt8.toNat_inj.1 ?_)
    show _ = 47
    omega
theorem last_some (s : ByteArray) (p r : List UInt8) (h : s.data.toList = p ++ 47 :: r) (hr : ∀ x ∈ r, x ≠ 47) : Lib.lastIndexByte s 47 = p.length := by
  have hlen : s.data.size = p.length + 1 + r.length := by
    have := congrArg List.length h
    rw [Array.length_toList, List.length_append, List.length_cons] at this
    omega
  have hat : ∀ j, j < s.data.size → s.data[j]! = (p ++ 47 :: r)[j]! := by
    intro j hj
    rw [getElem!_pos s.data j hj, ← h, getElem!_pos s.data.toList j (by simpa using hj)]
    simp
  rcases Lib.lastIdx_spec s 47 s.size with ⟨_, h2⟩ | ⟨i, hi, h1, h2, h3⟩
  · exfalso
    refine h2 p.length (show p.length < s.data.size by omega) ?_
    rw [hat _ (by omega)]
    simp
  · have hi' : i < s.data.size := hi
    have e1 : i = p.length := by
      by_cases c : i < p.length
      · exfalso
        refine h3 p.length c (show p.length < s.data.size by omega) ?_
        rw [hat _ (by omega)]
        simp
      · by_cases c2 : p.length < i
        · exfalso
          rw [hat _ hi', getElem!_pos _ i (by simp; omega)] at h2
          have hm : (p ++ 47 :: r)[i]'(by simp; omega) ∈ r := by
            rw [List.getElem_append_right (by omega), List.getElem_cons]
            rw [dif_neg (by omega)]
            exact List.getElem_mem _
          refine hr _ hm (UInt8.toNat_inj.1 ?_)
          show _ = 47
          omega
        · omega
    rw [← e1]
    exact h1
theorem base_none (s : ByteArray) (w : World) (hs : s.size ≤ 1000) (h : Lib.lastIndexByte s 47 = -1) : Calls Tryd.prog 20 #[.string s] w fun e w' => e = .returned (.string s) ∧ w = w' := by
  have HC := Lib.hid (Tryd.strings_LastIndexByte s 47 (by omega) w)
  rw [h] at HC
  clear h
  go_enter Tryd.func20, Tryd.ntmps20
  go_wp2_with (first | (go_at_call 24; refine HC.out.mono ?_; rintro e w' ⟨rfl, rfl⟩))
  go_ret
  exact ⟨rfl, rfl⟩
theorem base_some (s : ByteArray) (k : Nat) (w : World) (hs : s.size ≤ 1000) (hk : k < s.size) (h : Lib.lastIndexByte s 47 = k) : Calls Tryd.prog 20 #[.string s] w fun e w' => e = .returned (.string (s.extract (k + 1) s.size)) ∧ w = w' := by
  have HC := Lib.hid (Tryd.strings_LastIndexByte s 47 (by omega) w)
  rw [h] at HC
  clear h
  go_enter Tryd.func20, Tryd.ntmps20
  go_wp2_with (first | (go_at_call 24; refine HC.out.mono ?_; rintro e w' ⟨rfl, rfl⟩))
  go_ret
  exact ⟨rfl, rfl⟩
theorem dir_none (s : ByteArray) (w : World) (hs : s.size ≤ 1000) (h : Lib.lastIndexByte s 47 = -1) : Calls Tryd.prog 21 #[.string s] w fun e w' => e = .returned (.string (s.extract 0 0)) ∧ w = w' := by
  have HC := Lib.hid (Tryd.strings_LastIndexByte s 47 (by omega) w)
  rw [h] at HC
  clear h
  go_enter Tryd.func21, Tryd.ntmps21
  go_wp2_with (first | (go_at_call 24; refine HC.out.mono ?_; rintro e w' ⟨rfl, rfl⟩))
  go_ret
  exact ⟨rfl, rfl⟩
theorem dir_some (s : ByteArray) (k : Nat) (w : World) (hs : s.size ≤ 1000) (hk : k < s.size) (h : Lib.lastIndexByte s 47 = k) : Calls Tryd.prog 21 #[.string s] w fun e w' => e = .returned (.string (s.extract 0 k)) ∧ w = w' := by
  have HC := Lib.hid (Tryd.strings_LastIndexByte s 47 (by omega) w)
  rw [h] at HC
  have hm : max (k : Int) 0 = k := by omega
  clear h
  go_enter Tryd.func21, Tryd.ntmps21
  go_wp2_with (first | (go_at_call 24; refine HC.out.mono ?_; rintro e w' ⟨rfl, rfl⟩))
  go_ret
  exact ⟨rfl, rfl⟩
end Go.Proofs.YtjklhkananjijaaDoor
