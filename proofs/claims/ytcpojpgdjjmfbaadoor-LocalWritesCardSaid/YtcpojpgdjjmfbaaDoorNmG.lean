/- The reference's Rune, at every text. -/
import Derived.Test.YtcpojpgdjjmfbaaDoorNmF
namespace Go.Proofs.YtcpojpgdjjmfbaaDoor
set_option linter.unusedVariables false
set_option linter.unusedSimpArgs false
open Go.RowKit
theorem RuI_to {v n : Int} {r : Nat × Nat} {w : World} (h1 : v = r.1) (h2 : n = r.2) : ∀ (e : Ending) (w' : World), RuI v n w e w' → RuQ r w e w' := by
  rintro e w' ⟨rfl, hb⟩
  subst h1 h2
  exact ⟨rfl, hb⟩
theorem utfI_1 (c : Int) (h0 : 0 ≤ c) (h1 : c < 128) : utfI c = [u8n c] := by
  unfold utfI; rw [if_neg (by omega), if_pos h1]
theorem utfI_2 (c : Int) (h0 : 128 ≤ c) (h1 : c < 2048) : utfI c = [u8n (192 + c / 64), u8n (128 + c % 64)] := by
  unfold utfI; rw [if_neg (by omega), if_neg (by omega), if_pos h1]
theorem utfI_3 (c : Int) (h0 : 2048 ≤ c) (h1 : c < 65536) (h2 : c < 55296 ∨ 57343 < c) : utfI c = [u8n (224 + c / 4096), u8n (128 + c / 64 % 64), u8n (128 + c % 64)] := by
  unfold utfI; rw [if_neg (by omega), if_neg (by omega), if_neg (by omega), if_pos h1]
theorem utfI_4 (c : Int) (h0 : 65536 ≤ c) (h1 : c ≤ 1114111) : utfI c = [u8n (240 + c / 262144), u8n (128 + c / 4096 % 64), u8n (128 + c / 64 % 64), u8n (128 + c % 64)] := by
  unfold utfI; rw [if_neg (by omega), if_neg (by omega), if_neg (by omega), if_neg (by omega)]
theorem utfI_len (c : Int) : (utfI c).length ≤ 4 ∧ ((utfI c).length = 1 → 0 ≤ c ∧ c < 128) ∧ ((utfI c).length = 2 → 128 ≤ c ∧ c < 2048) ∧ ((utfI c).length = 3 → 2048 ≤ c ∧ c < 65536 ∧ (c < 55296 ∨ 57343 < c)) ∧ ((utfI c).length = 4 → 65536 ≤ c ∧ c ≤ 1114111) := by
  unfold utfI
  split
  · simp
  · split
    · simp; omega
    · split
      · simp; omega
      · split
        · simp; omega
        · simp; omega
theorem rn_empty (s : ByteArray) (h : s.size = 0) : rn s = (0, 0) := by
  have e : Lib.decodeGo s = (65533, 0) := by unfold Lib.decodeGo; rw [if_pos h]
  unfold rn
  rw [e]
  rfl
theorem refRune_any (s : ByteArray) (w : World) (hs : s.size ≤ 9223372036854775807) : Calls Tryd.prog 62 #[.string s] w (RuQ (rn s) w) := by
  by_cases h : s.size = 0
  · rw [rn_empty s h]; exact refRune_empty s w h
  have hp : 0 < s.size := by omega
  rw [rn_N s hp]
  have g0 : (s[0]).toNat = (s.get! 0).toNat := by rw [get_at s 0 hp]
  have g1 : ∀ (q : 1 < s.size), (s[1]).toNat = (s.get! 1).toNat := fun q => by rw [get_at s 1 q]
  have g2 : ∀ (q : 2 < s.size), (s[2]).toNat = (s.get! 2).toNat := fun q => by rw [get_at s 2 q]
  have g3 : ∀ (q : 3 < s.size), (s[3]).toNat = (s.get! 3).toNat := fun q => by rw [get_at s 3 q]
  have l0 : (s.get! 0).toNat < 256 := UInt8.toNat_lt _
  have l1 : (s.get! 1).toNat < 256 := UInt8.toNat_lt _
  have l2 : (s.get! 2).toNat < 256 := UInt8.toNat_lt _
  have l3 : (s.get! 3).toNat < 256 := UInt8.toNat_lt _
  generalize (s.get! 0).toNat = b0 at *
  generalize (s.get! 1).toNat = b1 at *
  generalize (s.get! 2).toNat = b2 at *
  generalize (s.get! 3).toNat = b3 at *
  by_cases k1 : b0 ≤ 191
  · by_cases c : b0 < 128
    · rw [rnN_1 _ _ _ _ _ c]
      exact (refRune_yes1 s w b0 hs (by omega) g0 (by omega) k1 (by
        rw [str_list, ext_1 s (by omega), utfI_1 _ (by omega) (by omega), (u8n_eq _ (s[0]) (by omega) (by omega)).2 (by omega)])).mono (RuI_to rfl rfl)
    · rw [rnN_1n _ _ _ _ _ (by omega) (by omega)]
      exact refRune_no1 s w b0 hs (by omega) g0 (by omega) k1 (by
        rw [str_list, ext_1 s (by omega)]
        intro e
        have := (utfI_len (b0 : Int)).2.1 (by rw [e]; rfl)
        omega)
  by_cases k2 : b0 ≤ 223
  · by_cases hn : s.size < 2
    · rw [rnN_2n _ _ _ _ _ (by omega) k2 (by omega)]
      exact refRune_short2 s w b0 hs ⟨hp, hn⟩ g0 (by omega) k2
    have q1 := g1 (by omega)
    by_cases c1 : b1 < 128 ∨ 191 < b1
    · rw [rnN_2n _ _ _ _ _ (by omega) k2 (by omega)]
      exact refRune_bad21 s w b0 b1 hs (by omega) g0 q1 (by omega) k2 c1
    by_cases hv : 128 ≤ b0 % 32 * 64 + b1 % 64
    · rw [rnN_2 _ _ _ _ _ (by omega) k2 (by omega) hv]
      exact (refRune_yes2 s w b0 b1 hs (by omega) g0 q1 (by omega) k2 (by omega) (by omega) (by
        rw [str_list, ext_2 s (by omega), utfI_2 _ (by omega) (by omega), (u8n_eq _ (s[0]) (by omega) (by omega)).2 (by omega), (u8n_eq _ (s[1]) (by omega) (by omega)).2 (by omega)])).mono (RuI_to (by show _ = ((b0 % 32 * 64 + b1 % 64 : Nat) : Int); omega) rfl)
    · rw [rnN_2n _ _ _ _ _ (by omega) k2 (by omega)]
      exact refRune_no2 s w b0 b1 hs (by omega) g0 q1 (by omega) k2 (by omega) (by omega) (by
        rw [str_list, ext_2 s (by omega)]
        intro e
        have := (utfI_len (((b0 : Int) - 192) * 64 + (b1 : Int) - 128)).2.2.1 (by rw [e]; rfl)
        omega)
  by_cases k3 : b0 ≤ 239
  · by_cases hn : s.size < 3
    · rw [rnN_3n _ _ _ _ _ (by omega) k3 (by omega)]
      exact refRune_short3 s w b0 hs ⟨hp, hn⟩ g0 (by omega) k3
    have q1 := g1 (by omega)
    have q2 := g2 (by omega)
    by_cases c1 : b1 < 128 ∨ 191 < b1
    · rw [rnN_3n _ _ _ _ _ (by omega) k3 (by omega)]
      exact refRune_bad31 s w b0 b1 hs (by omega) g0 q1 (by omega) k3 c1
    by_cases c2 : b2 < 128 ∨ 191 < b2
    · rw [rnN_3n _ _ _ _ _ (by omega) k3 (by omega)]
      exact refRune_bad32 s w b0 b1 b2 hs (by omega) g0 q1 q2 (by omega) k3 (by omega) (by omega) c2
    by_cases hv : ok3 (b0 % 16 * 4096 + b1 % 64 * 64 + b2 % 64)
    · rw [rnN_3 _ _ _ _ _ (by omega) k3 (by omega) hv]
      unfold ok3 at hv
      exact (refRune_yes3 s w b0 b1 b2 hs (by omega) g0 q1 q2 (by omega) k3 (by omega) (by omega) (by omega) (by omega) (by
        rw [str_list, ext_3 s (by omega), utfI_3 _ (by omega) (by omega) (by omega), (u8n_eq _ (s[0]) (by omega) (by omega)).2 (by omega), (u8n_eq _ (s[1]) (by omega) (by omega)).2 (by omega), (u8n_eq _ (s[2]) (by omega) (by omega)).2 (by omega)])).mono (RuI_to (by show _ = ((b0 % 16 * 4096 + b1 % 64 * 64 + b2 % 64 : Nat) : Int); omega) rfl)
    · rw [rnN_3n _ _ _ _ _ (by omega) k3 (.inr hv)]
      unfold ok3 at hv
      exact refRune_no3 s w b0 b1 b2 hs (by omega) g0 q1 q2 (by omega) k3 (by omega) (by omega) (by omega) (by omega) (by
        rw [str_list, ext_3 s (by omega)]
        intro e
        have := (utfI_len ((((b0 : Int) - 224) * 64 + (b1 : Int) - 128) * 64 + (b2 : Int) - 128)).2.2.2.1 (by rw [e]; rfl)
        omega)
  by_cases hn : s.size < 4
  · rw [rnN_4n _ _ _ _ _ (by omega) (by omega) (by omega)]
    exact refRune_short4 s w b0 hs ⟨hp, hn⟩ g0 (by omega) (by omega)
  have q1 := g1 (by omega)
  have q2 := g2 (by omega)
  have q3 := g3 (by omega)
  by_cases c1 : b1 < 128 ∨ 191 < b1
  · rw [rnN_4n _ _ _ _ _ (by omega) (by omega) (by omega)]
    exact refRune_bad41 s w b0 b1 hs (by omega) g0 q1 (by omega) (by omega) c1
  by_cases c2 : b2 < 128 ∨ 191 < b2
  · rw [rnN_4n _ _ _ _ _ (by omega) (by omega) (by omega)]
    exact refRune_bad42 s w b0 b1 b2 hs (by omega) g0 q1 q2 (by omega) (by omega) (by omega) (by omega) c2
  by_cases c3 : b3 < 128 ∨ 191 < b3
  · rw [rnN_4n _ _ _ _ _ (by omega) (by omega) (by omega)]
    exact refRune_bad43 s w b0 b1 b2 b3 hs (by omega) g0 q1 q2 q3 (by omega) (by omega) (by omega) (by omega) (by omega) (by omega) c3
  by_cases hv : b0 ≤ 247 ∧ ok4 (b0 % 8 * 262144 + b1 % 64 * 4096 + b2 % 64 * 64 + b3 % 64)
  · rw [rnN_4 _ _ _ _ _ (by omega) hv.1 (by omega) hv.2]
    unfold ok4 at hv
    exact (refRune_yes4 s w b0 b1 b2 b3 hs (by omega) g0 q1 q2 q3 (by omega) (by omega) (by omega) (by omega) (by omega) (by omega) (by omega) (by omega) (by
        rw [str_list, ext_4 s (by omega), utfI_4 _ (by omega) (by omega), (u8n_eq _ (s[0]) (by omega) (by omega)).2 (by omega), (u8n_eq _ (s[1]) (by omega) (by omega)).2 (by omega), (u8n_eq _ (s[2]) (by omega) (by omega)).2 (by omega), (u8n_eq _ (s[3]) (by omega) (by omega)).2 (by omega)])).mono (RuI_to (by show _ = ((b0 % 8 * 262144 + b1 % 64 * 4096 + b2 % 64 * 64 + b3 % 64 : Nat) : Int); omega) rfl)
  · rw [rnN_4n _ _ _ _ _ (by omega) (by
      by_cases a : b0 ≤ 247
      · exact .inr (.inr fun x => hv ⟨a, x⟩)
      · exact .inr (.inl (by omega))) (by omega)]
    unfold ok4 at hv
    exact refRune_no4 s w b0 b1 b2 b3 hs (by omega) g0 q1 q2 q3 (by omega) (by omega) (by omega) (by omega) (by omega) (by omega) (by omega) (by omega) (by
        rw [str_list, ext_4 s (by omega)]
        intro e
        have := (utfI_len (((((b0 : Int) - 240) * 64 + (b1 : Int) - 128) * 64 + (b2 : Int) - 128) * 64 + (b3 : Int) - 128)).2.2.2.2 (by rw [e]; rfl)
        omega)
end Go.Proofs.YtcpojpgdjjmfbaaDoor
