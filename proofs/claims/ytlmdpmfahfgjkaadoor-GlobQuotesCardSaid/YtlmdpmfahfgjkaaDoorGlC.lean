/- The signs of a text, byte by byte: plain. -/
import Derived.Test.YtlmdpmfahfgjkaaDoorNmG
import Derived.Test.YtlmdpmfahfgjkaaDoorGlB
namespace Go.Proofs.YtlmdpmfahfgjkaaDoor
set_option maxRecDepth 100000
set_option linter.unusedVariables false
set_option linter.unusedSimpArgs false
open Go.RowKit
def b4 (l : List UInt8) (k : Nat) : Nat := (l.getD k 0).toNat
/-- The sign that bytes begin with, and how many these are; (0, 0): there is none. -/
def dl (l : List UInt8) : Nat × Nat := if l.length = 0 then (0, 0) else rnN l.length (b4 l 0) (b4 l 1) (b4 l 2) (b4 l 3)
theorem get_b4 (s : ByteArray) (k : Nat) : (s.get! k).toNat = b4 s.data.toList k := by
  unfold b4
  by_cases h : k < s.size
  · have h' : k < s.data.toList.length := by simpa using h
    rw [get_at s k h, List.getD_eq_getElem?_getD, List.getElem?_eq_getElem h']
    simp
    rfl
  · have h' : ¬ k < s.data.size := h
    have h2 : s.data[k]? = none := Array.getElem?_eq_none (by omega)
    simp [ByteArray.get!, getElem!_def, h2]
    rfl
theorem rn_dl (s : ByteArray) : rn s = dl s.data.toList := by
  unfold dl
  have e : s.data.toList.length = s.size := Array.length_toList
  rw [e]
  by_cases h : s.size = 0
  · rw [if_pos h, rn_empty s h]
  · rw [if_neg h, rn_N s (by omega), get_b4, get_b4, get_b4, get_b4]
theorem rnN_le (n b0 b1 b2 b3 : Nat) (h : 1 ≤ n) : (rnN n b0 b1 b2 b3).2 ≤ n := by
  unfold rnN
  split
  · simp
  · exact decodeN_le _ _ _ _ _ h
theorem dl_le (l : List UInt8) : (dl l).2 ≤ l.length := by
  unfold dl
  split
  · simp
  · exact rnN_le _ _ _ _ _ (by omega)
/-- The signs, so many at most. -/
def sgF : Nat → List UInt8 → Option (List Int)
  | 0, _ => some []
  | f + 1, l => if l.length = 0 then some [] else if (dl l).2 = 0 then none else (sgF f (l.drop (dl l).2)).map fun r => ((dl l).1 : Int) :: r
theorem sgF_more : ∀ (f g : Nat) (l : List UInt8), l.length ≤ f → l.length ≤ g → sgF f l = sgF g l
  | 0, 0, _, _, _ => rfl
  | 0, g + 1, l, h, _ => by rw [sgF, sgF, if_pos (by omega)]
  | f + 1, 0, l, _, h => by rw [sgF, sgF, if_pos (by omega)]
  | f + 1, g + 1, l, hf, hg => by
    rw [sgF, sgF]
    split
    · rfl
    · split
      · rfl
      · rw [sgF_more f g (l.drop (dl l).2) (by rw [List.length_drop]; omega) (by rw [List.length_drop]; omega)]
/-- All signs of a text; none: it has others. -/
def sg (l : List UInt8) : Option (List Int) := sgF l.length l
theorem sg_nil : sg [] = some [] := rfl
theorem sg_eq (l : List UInt8) (h : l.length ≠ 0) : sg l = if (dl l).2 = 0 then none else (sg (l.drop (dl l).2)).map fun r => ((dl l).1 : Int) :: r := by
  unfold sg
  obtain ⟨n, hn⟩ : ∃ n, l.length = n + 1 := ⟨l.length - 1, by omega⟩
  rw [hn, sgF, if_neg h]
  split
  · rfl
  · have hd := dl_le l
    rw [sgF_more n _ (l.drop (dl l).2) (by rw [List.length_drop]; omega) (Nat.le_refl _)]
theorem sg_bad {l : List UInt8} (h : l.length ≠ 0) (hd : (dl l).2 = 0) : sg l = none := by rw [sg_eq l h, if_pos hd]
theorem sg_go {l : List UInt8} (h : l.length ≠ 0) (hd : (dl l).2 ≠ 0) : sg l = (sg (l.drop (dl l).2)).map fun r => ((dl l).1 : Int) :: r := by rw [sg_eq l h, if_neg hd]
theorem sg_len : ∀ (f : Nat) (l : List UInt8) (c : List Int), sgF f l = some c → c.length ≤ l.length
  | 0, _, c, h => by injection h with h; subst h; simp
  | f + 1, l, c, h => by
    rw [sgF] at h
    split at h
    · injection h with h; subst h; simp
    · split at h
      · cases h
      · rw [Option.map_eq_some_iff] at h
        obtain ⟨r, h1, h2⟩ := h
        have := sg_len f _ r h1
        rw [List.length_drop] at this
        subst h2
        simp
        omega
theorem sg_length {l : List UInt8} {c : List Int} (h : sg l = some c) : c.length ≤ l.length := sg_len _ l c h
theorem ext_drop (s : ByteArray) (k : Nat) : (s.extract k s.size).data.toList = s.data.toList.drop k := by
  have e : s.data.toList.length = s.size := Array.length_toList
  rw [ByteArray.data_extract, Array.toList_extract, List.extract_eq_take_drop]
  exact List.take_of_length_le (by rw [List.length_drop, e]; omega)
theorem u8f_sgF : ∀ (f : Nat) (s : ByteArray), u8f f s = (sgF f s.data.toList).isSome
  | 0, _ => rfl
  | f + 1, s => by
    rw [u8f, sgF, rn_dl]
    have e : s.data.toList.length = s.size := Array.length_toList
    rw [e]
    split
    · rfl
    · split
      · rfl
      · rw [u8f_sgF f, Option.isSome_map, ext_drop]
theorem u8_sg (s : ByteArray) : u8 s = (sg s.data.toList).isSome := u8f_sgF _ s
theorem str_data (s : ByteArray) : str s.data.toList = s := by
  unfold str; rfl
set_option maxRecDepth 100000 in
/-- The signs lie in the range of runes. -/
theorem rnN_bd (n b0 b1 b2 b3 : Nat) (h : b0 < 256) : (rnN n b0 b1 b2 b3).1 ≤ 1114111 := by
  unfold rnN Lib.decodeN
  repeat' split
  all_goals dsimp only
  all_goals omega
theorem dl_bd (l : List UInt8) : (dl l).1 ≤ 1114111 := by
  unfold dl
  split
  · simp
  · exact rnN_bd _ _ _ _ _ (UInt8.toNat_lt _)
theorem sgF_bd : ∀ (f : Nat) (l : List UInt8) (c : List Int), sgF f l = some c → ∀ x ∈ c, 0 ≤ x ∧ x ≤ 1114111
  | 0, _, c, h => by injection h with h; subst h; simp
  | f + 1, l, c, h => by
    rw [sgF] at h
    split at h
    · injection h with h; subst h; simp
    · split at h
      · cases h
      · rw [Option.map_eq_some_iff] at h
        obtain ⟨r, h1, h2⟩ := h
        subst h2
        intro x hx
        rcases List.mem_cons.1 hx with rfl | hx
        · have := dl_bd l; omega
        · exact sgF_bd f _ r h1 x hx
theorem sg_bd {l : List UInt8} {c : List Int} (h : sg l = some c) : ∀ x ∈ c, 0 ≤ x ∧ x ≤ 1114111 := sgF_bd _ l c h
/-- What the model makes of a text's bytes. -/
theorem decode_dl (s : ByteArray) (i : Nat) (hi : i < s.size) (h : (dl (s.data.toList.drop i)).2 ≠ 0) : Utf8.decode s i = dl (s.data.toList.drop i) := by
  have e : s.data.toList.length = s.size := Array.length_toList
  have hb : ∀ k, (s.get! (i + k)).toNat = b4 (s.data.toList.drop i) k := by
    intro k
    rw [get_b4]
    unfold b4
    congr 1
    simp [List.getD_eq_getElem?_getD, List.getElem?_drop]
  have hl : (s.data.toList.drop i).length = s.size - i := by rw [List.length_drop, e]
  have hd : dl (s.data.toList.drop i) = rnN (s.size - i) (b4 (s.data.toList.drop i) 0) (b4 (s.data.toList.drop i) 1) (b4 (s.data.toList.drop i) 2) (b4 (s.data.toList.drop i) 3) := by
    rw [dl, hl, if_neg (by omega)]
  rw [Lib.decode_at, hd]
  rw [hd] at h
  have := hb 0
  rw [Nat.add_zero] at this
  rw [this, hb 1, hb 2, hb 3]
  unfold rnN at h ⊢
  split at h
  · exact absurd rfl h
  · rename_i c
    rw [if_neg c]
theorem runes_sgF (s : ByteArray) : ∀ (f g i : Nat) (acc : Array Value) (c : List Int), s.size - i ≤ f → s.size - i ≤ g → sgF g (s.data.toList.drop i) = some c → Conv.runesFrom s f i acc = acc ++ (c.map fun x => Value.int .i32 x).toArray
  | 0, g, i, acc, c, hf, _, h => by
    have e : s.data.toList.length = s.size := Array.length_toList
    have hl : (s.data.toList.drop i).length = 0 := by rw [List.length_drop, e]; omega
    have h2 : sgF g (s.data.toList.drop i) = some [] := by
      cases g with
      | zero => rfl
      | succ g => rw [sgF, if_pos hl]
    rw [h2] at h
    injection h with h
    subst h
    simp [Conv.runesFrom]
  | f + 1, g, i, acc, c, hf, hg, h => by
    have e : s.data.toList.length = s.size := Array.length_toList
    have hl : (s.data.toList.drop i).length = s.size - i := by rw [List.length_drop, e]
    rw [Conv.runesFrom]
    by_cases hi : i < s.size
    · rw [if_pos hi]
      obtain ⟨g, rfl⟩ : ∃ g', g = g' + 1 := ⟨g - 1, by omega⟩
      rw [sgF, if_neg (by omega)] at h
      split at h
      · cases h
      · rename_i hd
        rw [Option.map_eq_some_iff] at h
        obtain ⟨r, h1, h2⟩ := h
        rw [decode_dl s i hi hd]
        rw [List.drop_drop] at h1
        have hpos : 0 < (dl (s.data.toList.drop i)).2 := by omega
        generalize dl (s.data.toList.drop i) = d at *
        obtain ⟨d1, d2⟩ := d
        simp only at *
        rw [runes_sgF s f g (i + d2) _ r (by omega) (by omega) h1]
        subst h2
        simp
    · rw [if_neg hi]
      have h2 : sgF g (s.data.toList.drop i) = some [] := by
        cases g with
        | zero => rfl
        | succ g => rw [sgF, if_pos (by omega)]
      rw [h2] at h
      injection h with h
      subst h
      simp
theorem runes_sg (s : ByteArray) (c : List Int) (h : sg s.data.toList = some c) : Conv.runesFrom s s.size 0 #[] = (c.map fun x => Value.int .i32 x).toArray := by
  have e : s.data.toList.length = s.size := Array.length_toList
  have := runes_sgF s s.size s.size 0 #[] c (by omega) (by omega) (by rw [List.drop_zero, ← e]; exact h)
  simpa using this
end Go.Proofs.YtlmdpmfahfgjkaaDoor
