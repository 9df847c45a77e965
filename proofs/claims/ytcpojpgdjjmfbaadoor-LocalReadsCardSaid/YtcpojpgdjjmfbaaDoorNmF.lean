/- The reference's Rune finds the same sign. -/
import Derived.Test.YtcpojpgdjjmfbaaDoorNmE
namespace Go.Proofs.YtcpojpgdjjmfbaaDoor
set_option linter.unusedVariables false
set_option linter.unusedSimpArgs false
open Go.RowKit
def rnN (n b0 b1 b2 b3 : Nat) : Nat × Nat := if (Lib.decodeN n b0 b1 b2 b3).1 = 65533 ∧ (Lib.decodeN n b0 b1 b2 b3).2 < 2 then (0, 0) else Lib.decodeN n b0 b1 b2 b3
theorem rn_N (s : ByteArray) (h : 0 < s.size) : rn s = rnN s.size (s.get! 0).toNat (s.get! 1).toNat (s.get! 2).toNat (s.get! 3).toNat := by
  have e : Lib.decodeGo s = Lib.decodeN s.size (s.get! 0).toNat (s.get! 1).toNat (s.get! 2).toNat (s.get! 3).toNat := by
    unfold Lib.decodeGo
    rw [if_neg (by omega), Lib.decode_at]
    rfl
  unfold rn rnN
  rw [e]
theorem rnN_1 (n b0 b1 b2 b3 : Nat) (h : b0 < 128) : rnN n b0 b1 b2 b3 = (b0, 1) := by
  have e : Lib.decodeN n b0 b1 b2 b3 = (b0, 1) := by
    unfold Lib.decodeN
    rw [if_pos h]
  unfold rnN
  rw [e, if_neg (by simp; omega)]
theorem rnN_1n (n b0 b1 b2 b3 : Nat) (h : 128 ≤ b0) (h' : b0 < 192) : rnN n b0 b1 b2 b3 = (0, 0) := by
  have e : Lib.decodeN n b0 b1 b2 b3 = (65533, 1) := by
    unfold Lib.decodeN
    rw [if_neg (by omega), if_neg (by omega), if_neg (by omega), if_neg (by omega)]
  unfold rnN
  rw [e]
  rfl
theorem rnN_2n (n b0 b1 b2 b3 : Nat) (h : 192 ≤ b0) (h' : b0 ≤ 223) (hb : ¬ (1 < n ∧ b1 / 64 = 2) ∨ b0 % 32 * 64 + b1 % 64 < 128) : rnN n b0 b1 b2 b3 = (0, 0) := by
  have e : Lib.decodeN n b0 b1 b2 b3 = (65533, 1) := by
    unfold Lib.decodeN
    rw [if_neg (by omega)]
    split
    · rw [if_neg (by omega)]
    · rw [if_neg (by omega), if_neg (by omega)]
  unfold rnN
  rw [e]
  rfl
theorem rnN_2 (n b0 b1 b2 b3 : Nat) (h : 192 ≤ b0) (h' : b0 ≤ 223) (hb : 1 < n ∧ b1 / 64 = 2) (hv : 128 ≤ b0 % 32 * 64 + b1 % 64) : rnN n b0 b1 b2 b3 = (b0 % 32 * 64 + b1 % 64, 2) := by
  have e : Lib.decodeN n b0 b1 b2 b3 = (b0 % 32 * 64 + b1 % 64, 2) := by
    unfold Lib.decodeN
    rw [if_neg (by omega), if_pos ⟨by omega, hb⟩, if_pos hv]
  unfold rnN
  rw [e, if_neg (by simp)]
def ok3 (v : Nat) : Prop := v ≥ 2048 ∧ (v < 55296 ∨ (57344 ≤ v ∧ v ≤ 1114111))
def ok4 (v : Nat) : Prop := v ≥ 65536 ∧ (v < 55296 ∨ (57344 ≤ v ∧ v ≤ 1114111))
theorem rnN_3n (n b0 b1 b2 b3 : Nat) (h : 224 ≤ b0) (h' : b0 ≤ 239) (hb : ¬ ((1 < n ∧ b1 / 64 = 2) ∧ (2 < n ∧ b2 / 64 = 2)) ∨ ¬ ok3 (b0 % 16 * 4096 + b1 % 64 * 64 + b2 % 64)) : rnN n b0 b1 b2 b3 = (0, 0) := by
  have e : Lib.decodeN n b0 b1 b2 b3 = (65533, 1) := by
    unfold Lib.decodeN
    rw [if_neg (by omega), if_neg (by omega)]
    split
    · rename_i c
      rw [if_neg]
      rcases hb with hb | hb
      · exact absurd c.2 hb
      · exact hb
    · rw [if_neg (by omega)]
  unfold rnN
  rw [e]
  rfl
theorem rnN_3 (n b0 b1 b2 b3 : Nat) (h : 224 ≤ b0) (h' : b0 ≤ 239) (hb : (1 < n ∧ b1 / 64 = 2) ∧ (2 < n ∧ b2 / 64 = 2)) (hv : ok3 (b0 % 16 * 4096 + b1 % 64 * 64 + b2 % 64)) : rnN n b0 b1 b2 b3 = (b0 % 16 * 4096 + b1 % 64 * 64 + b2 % 64, 3) := by
  have e : Lib.decodeN n b0 b1 b2 b3 = (b0 % 16 * 4096 + b1 % 64 * 64 + b2 % 64, 3) := by
    unfold Lib.decodeN
    rw [if_neg (by omega), if_neg (by omega), if_pos ⟨by omega, hb⟩, if_pos (by unfold ok3 at hv; exact hv)]
  unfold rnN
  rw [e, if_neg (by simp)]
theorem rnN_4n (n b0 b1 b2 b3 : Nat) (h : 240 ≤ b0) (hb : ¬ ((1 < n ∧ b1 / 64 = 2) ∧ (2 < n ∧ b2 / 64 = 2) ∧ (3 < n ∧ b3 / 64 = 2)) ∨ 248 ≤ b0 ∨ ¬ ok4 (b0 % 8 * 262144 + b1 % 64 * 4096 + b2 % 64 * 64 + b3 % 64)) (h' : b0 ≤ 255) : rnN n b0 b1 b2 b3 = (0, 0) := by
  have e : Lib.decodeN n b0 b1 b2 b3 = (65533, 1) := by
    unfold Lib.decodeN
    rw [if_neg (by omega), if_neg (by omega), if_neg (by omega)]
    split
    · rename_i c
      rw [if_neg]
      rcases hb with hb | hb | hb
      · exact absurd c.2 hb
      · omega
      · exact hb
    · rfl
  unfold rnN
  rw [e]
  rfl
theorem rnN_4 (n b0 b1 b2 b3 : Nat) (h : 240 ≤ b0) (h' : b0 ≤ 247) (hb : (1 < n ∧ b1 / 64 = 2) ∧ (2 < n ∧ b2 / 64 = 2) ∧ (3 < n ∧ b3 / 64 = 2)) (hv : ok4 (b0 % 8 * 262144 + b1 % 64 * 4096 + b2 % 64 * 64 + b3 % 64)) : rnN n b0 b1 b2 b3 = (b0 % 8 * 262144 + b1 % 64 * 4096 + b2 % 64 * 64 + b3 % 64, 4) := by
  have e : Lib.decodeN n b0 b1 b2 b3 = (b0 % 8 * 262144 + b1 % 64 * 4096 + b2 % 64 * 64 + b3 % 64, 4) := by
    unfold Lib.decodeN
    rw [if_neg (by omega), if_neg (by omega), if_neg (by omega), if_pos ⟨by omega, hb⟩, if_pos (by unfold ok4 at hv; exact hv)]
  unfold rnN
  rw [e, if_neg (by simp)]
theorem take_snoc (s : ByteArray) (k : Nat) (h : k < s.size) : s.data.toList.take (k + 1) = s.data.toList.take k ++ [s[k]] := by
  rw [List.take_succ_eq_append_getElem (by simpa using h)]; rfl
theorem ext_take (s : ByteArray) (n : Nat) : (s.extract 0 n).toList = s.data.toList.take n := by
  rw [Lib.toList_data, Lib.extract_data]; simp
theorem ext_1 (s : ByteArray) (h : 1 ≤ s.size) : (s.extract 0 1).toList = [s[0]] := by
  rw [ext_take, take_snoc s 0 (by omega)]; simp
theorem ext_2 (s : ByteArray) (h : 2 ≤ s.size) : (s.extract 0 2).toList = [s[0], s[1]] := by
  rw [ext_take, take_snoc s 1 (by omega), take_snoc s 0 (by omega)]; simp
theorem ext_3 (s : ByteArray) (h : 3 ≤ s.size) : (s.extract 0 3).toList = [s[0], s[1], s[2]] := by
  rw [ext_take, take_snoc s 2 (by omega), take_snoc s 1 (by omega), take_snoc s 0 (by omega)]; simp
theorem ext_4 (s : ByteArray) (h : 4 ≤ s.size) : (s.extract 0 4).toList = [s[0], s[1], s[2], s[3]] := by
  rw [ext_take, take_snoc s 3 (by omega), take_snoc s 2 (by omega), take_snoc s 1 (by omega), take_snoc s 0 (by omega)]; simp
theorem str_list (l : List UInt8) : (str l).toList = l := ByteArray.toList_mk l
theorem u8n_eq (c : Int) (x : UInt8) (h0 : 0 ≤ c) (h1 : c ≤ 255) : u8n c = x ↔ c = x.toNat := by
  have := u8n_int c h0 h1
  constructor
  · intro e; rw [← e]; exact this.symm
  · intro e
    apply UInt8.toNat_inj.1
    omega
theorem get_at (s : ByteArray) (k : Nat) (h : k < s.size) : s.get! k = s[k] := by
  simp [ByteArray.get!, getElem!_pos, h]
  rfl
end Go.Proofs.YtcpojpgdjjmfbaaDoor
