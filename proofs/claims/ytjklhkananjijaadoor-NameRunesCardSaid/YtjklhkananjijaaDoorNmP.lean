/- A sign's bytes begin with that sign, whatever follows. -/
import Derived.Test.YtjklhkananjijaaDoorNmG
set_option linter.unusedVariables false
set_option linter.unusedSimpArgs false
namespace Go.Proofs.YtjklhkananjijaaDoor
open Go.RowKit
theorem app_size (l : List UInt8) (s : ByteArray) : (str l ++ s).size = l.length + s.size := by
  rw [ByteArray.size_append]; rfl
theorem app_get (l : List UInt8) (s : ByteArray) (k : Nat) (x : UInt8) (h : l[k]? = some x) : (str l ++ s).get! k = x := by
  have hk : k < l.length := (List.getElem?_eq_some_iff.1 h).1
  have e := (List.getElem?_eq_some_iff.1 h).2
  rw [get_at _ _ (by rw [app_size]; omega)]
  rw [ByteArray.getElem_append_left (show k < (str l).size from hk)]
  rw [← e]
  rfl
theorem u8n_nat (n : Int) (h0 : 0 ≤ n) (h1 : n ≤ 255) : ((u8n n).toNat : Int) = n := u8n_int n h0 h1
theorem pair_eq {a b c d : Nat} (h1 : a = c) (h2 : b = d) : (a, b) = (c, d) := by rw [h1, h2]
theorem rn_utf (c : Int) (s : ByteArray) (h : utfI c ≠ []) : rn (str (utfI c) ++ s) = (c.toNat, (utfI c).length) ∧ 0 ≤ c := by
  have hl := utfI_len c
  have hne : 0 < (utfI c).length := List.length_pos_iff.2 h
  have h4 : (utfI c).length = 1 ∨ (utfI c).length = 2 ∨ (utfI c).length = 3 ∨ (utfI c).length = 4 := by omega
  have hN := rn_N (str (utfI c) ++ s) (by rw [app_size]; omega)
  rw [hN, app_size]
  rcases h4 with e | e | e | e
  · obtain ⟨a, b⟩ := hl.2.1 e
    have q := utfI_1 c a b
    have g0 := u8n_nat c (by omega) (by omega)
    rw [app_get (utfI c) s 0 _ (by rw [q]; rfl), rnN_1 _ _ _ _ _ (by omega), e]
    exact ⟨pair_eq (by omega) rfl, a⟩
  · obtain ⟨a, b⟩ := hl.2.2.1 e
    have q := utfI_2 c a b
    have g0 := u8n_nat (192 + c / 64) (by omega) (by omega)
    have g1 := u8n_nat (128 + c % 64) (by omega) (by omega)
    rw [app_get (utfI c) s 0 _ (by rw [q]; rfl), app_get (utfI c) s 1 _ (by rw [q]; rfl), rnN_2 _ _ _ _ _ (by omega) (by omega) ⟨by omega, by omega⟩ (by omega), e]
    exact ⟨pair_eq (by omega) rfl, by omega⟩
  · obtain ⟨a, b, d⟩ := hl.2.2.2.1 e
    have q := utfI_3 c a b d
    have g0 := u8n_nat (224 + c / 4096) (by omega) (by omega)
    have g1 := u8n_nat (128 + c / 64 % 64) (by omega) (by omega)
    have g2 := u8n_nat (128 + c % 64) (by omega) (by omega)
    rw [app_get (utfI c) s 0 _ (by rw [q]; rfl), app_get (utfI c) s 1 _ (by rw [q]; rfl), app_get (utfI c) s 2 _ (by rw [q]; rfl), rnN_3 _ _ _ _ _ (by omega) (by omega) ⟨⟨by omega, by omega⟩, by omega, by omega⟩ (by unfold ok3; omega), e]
    exact ⟨pair_eq (by omega) rfl, by omega⟩
  · obtain ⟨a, b⟩ := hl.2.2.2.2 e
    have q := utfI_4 c a b
    have g0 := u8n_nat (240 + c / 262144) (by omega) (by omega)
    have g1 := u8n_nat (128 + c / 4096 % 64) (by omega) (by omega)
    have g2 := u8n_nat (128 + c / 64 % 64) (by omega) (by omega)
    have g3 := u8n_nat (128 + c % 64) (by omega) (by omega)
    rw [app_get (utfI c) s 0 _ (by rw [q]; rfl), app_get (utfI c) s 1 _ (by rw [q]; rfl), app_get (utfI c) s 2 _ (by rw [q]; rfl), app_get (utfI c) s 3 _ (by rw [q]; rfl), rnN_4 _ _ _ _ _ (by omega) (by omega) ⟨⟨by omega, by omega⟩, ⟨by omega, by omega⟩, by omega, by omega⟩ (by unfold ok4; omega), e]
    exact ⟨pair_eq (by omega) rfl, by omega⟩
end Go.Proofs.YtjklhkananjijaaDoor
