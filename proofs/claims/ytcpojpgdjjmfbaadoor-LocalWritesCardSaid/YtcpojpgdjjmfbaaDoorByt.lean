/- Bytes in memory; plain laws of bytes and numbers. -/
import Derived.Test.YtcpojpgdjjmfbaaDoorRows
import Derived.WalkKit
import Derived.WalkSpells
import Derived.WalkLawsBesides
import Derived.Lib.Hide
import Derived.Laws.BitsAllLaws
import Derived.Laws.BytesString
import Derived.Laws.IdiomStrings
namespace Go.Proofs.YtcpojpgdjjmfbaaDoor
set_option linter.unusedVariables false
set_option linter.unusedSimpArgs false
open Go.RowKit
/-- Bytes from an address on. -/
def BytesAt (w : World) (b off : Nat) (l : List UInt8) : Prop := ∀ j, j < l.length → w.cell? ⟨b, off + j, none⟩ = some (.int .u8 ((l.getD j 0).toNat : Int))
/-- The value reads as bytes; their memory lies below block B. -/
def Byt (w : World) (B : Nat) (v : Value) (l : List UInt8) : Prop :=
  (∃ a cap, v = .slice a 0 cap ∧ l = [] ∧ (a = none → cap = 0)) ∨ ∃ b off cap, v = .slice (some ⟨b, off, none⟩) l.length cap ∧ l.length ≤ cap ∧ b < B ∧ BytesAt w b off l
theorem BytesAt.below {w w' : World} {b off B : Nat} {l : List UInt8} (h : BytesAt w b off l) (hb : Below B w w') (hB : b < B) : BytesAt w' b off l :=
  fun j hj => (hb.cell (p := ⟨b, off + j, none⟩) hB).trans (h j hj)
theorem Byt.below {w w' : World} {B : Nat} {v : Value} {l : List UInt8} (h : Byt w B v l) (hb : Below B w w') : Byt w' B v l := by
  rcases h with h | ⟨b, off, cap, h1, h2, h3, h4⟩
  · exact .inl h
  · exact .inr ⟨b, off, cap, h1, h2, h3, h4.below hb h3⟩
theorem Byt.mono {w : World} {B B' : Nat} {v : Value} {l : List UInt8} (h : Byt w B v l) (hB : B ≤ B') : Byt w B' v l := by
  rcases h with h | ⟨b, off, cap, h1, h2, h3, h4⟩
  · exact .inl h
  · exact .inr ⟨b, off, cap, h1, h2, by omega, h4⟩
theorem Byt.slice {w : World} {B : Nat} {v : Value} {l : List UInt8} (h : Byt w B v l) : ∃ a cap, v = .slice a l.length cap := by
  rcases h with ⟨a, cap, rfl, rfl, _⟩ | ⟨b, off, cap, rfl, _⟩
  · exact ⟨a, cap, rfl⟩
  · exact ⟨_, cap, rfl⟩
section
variable {t e size : Nat} (ht : Tryd.prog.underlying t = some (.slice e)) (he : ∀ W : World, (sizeOf e).run Tryd.prog W = .ok size W) (a : Option Addr) (len cap : Nat)
include ht he
theorem slice_lh (l h : Int) (h0 : 0 ≤ l) (h1 : l ≤ h) (h2 : h ≤ cap) (W : World) :
    (Instr.slice t (.slice a len cap) (some (.int .i64 l)) (some (.int .i64 h)) none).run Tryd.prog W = .ok (.slice (if cap = l.toNat then a else a.map (·.add (l.toNat * size))) (h.toNat - l.toNat) (cap - l.toNat)) W := by
  have eh : (h.toNat : Int) = h := Int.toNat_of_nonneg (by omega)
  simp [Instr.slice, run_underlying ht, Instr.sliceBounds, run_sliceBound, h0, h1, h2, eh, he, (by omega : 0 ≤ h), Result.andThen]
theorem slice_l (l : Int) (h0 : 0 ≤ l) (h1 : l ≤ len) (W : World) :
    (Instr.slice t (.slice a len cap) (some (.int .i64 l)) none none).run Tryd.prog W = .ok (.slice (if cap = l.toNat then a else a.map (·.add (l.toNat * size))) (len - l.toNat) (cap - l.toNat)) W := by
  simp [Instr.slice, run_underlying ht, Instr.sliceBounds, run_sliceBound, h0, h1, he, Result.andThen]
theorem slice_h (h : Int) (h1 : 0 ≤ h) (h2 : h ≤ cap) (W : World) :
    (Instr.slice t (.slice a len cap) none (some (.int .i64 h)) none).run Tryd.prog W = .ok (.slice (if cap = 0 then a else a.map (·.add (0 * size))) (h.toNat - 0) (cap - 0)) W := by
  simp [Instr.slice, run_underlying ht, Instr.sliceBounds, run_sliceBound, h1, h2, he, Result.andThen]
end
theorem bytesAt_sub {w : World} {b off : Nat} {l : List UInt8} (h : BytesAt w b off l) (k n : Nat) : BytesAt w b (off + k) ((l.drop k).take n) := by
  intro i hi
  have hi' : i < n ∧ k + i < l.length := by simp at hi; omega
  have := h (k + i) (by omega)
  have e : ((l.drop k).take n).getD i 0 = l.getD (k + i) 0 := by simp [List.getElem?_drop, hi'.1]
  rw [e, show off + k + i = off + (k + i) from by omega]
  exact this
/-- A piece of bytes. -/
theorem sub_byt {w : World} {B : Nat} {l : List UInt8} {a : Option Addr} {cap : Nat} (h : Byt w B (.slice a l.length cap) l) (lo n : Nat) (h1 : lo + n ≤ l.length) :
    Byt w B (.slice (if cap = lo then a else a.map (·.add (lo * 1))) n (cap - lo)) ((l.drop lo).take n) := by
  have hlen : ((l.drop lo).take n).length = n := by rw [List.length_take, List.length_drop]; omega
  rcases h with ⟨a', cap', hv, rfl, hnone⟩ | ⟨b, off, cap', hv, hc, hb, hs⟩
  · injection hv with ha _ hcap
    subst ha hcap
    simp at h1
    obtain ⟨rfl, rfl⟩ := h1
    refine .inl ⟨_, _, rfl, by simp, fun hn => ?_⟩
    by_cases hc0 : cap = 0
    · simp [hc0]
    · rw [if_neg hc0] at hn
      cases a with
      | none => simp [hnone rfl]
      | some x => simp at hn
  · injection hv with ha _ hcap
    subst ha hcap
    by_cases hn : n = 0
    · subst hn
      refine .inl ⟨_, _, rfl, by simp, fun hn => ?_⟩
      exfalso
      split at hn <;> simp at hn
    · have hne : ¬ cap = lo := by omega
      rw [if_neg hne]
      refine .inr ⟨b, off + lo, cap - lo, ?_, by omega, hb, bytesAt_sub hs lo n⟩
      rw [hlen]
      by_cases h0 : lo = 0
      · subst h0; simp [Addr.add]
      · simp [Addr.add, h0]
/-- Bytes as a string. -/
def str (l : List UInt8) : ByteArray := ⟨l.toArray⟩
theorem convert_byt {src dst e : Nat} (hs : Tryd.prog.underlying src = some (.slice e)) (he : Tryd.prog.underlying e = some (.int .u8)) (hd : Tryd.prog.underlying dst = some .string) {w : World} {B : Nat} {v : Value} {l : List UInt8} (h : Byt w B v l) :
    (convert src dst v).run Tryd.prog w = .ok (.string (str l)) w := by
  rcases h with ⟨a, cap, rfl, rfl, _⟩ | ⟨b, off, cap, rfl, hc, hb, hs'⟩
  · cases a with
    | none => rw [run_convert_bytes_string w src dst e none 0 cap hs he hd]; rfl
    | some a => exact run_convert_bytes_back w src dst e a cap [] hs he hd (fun j hj => by simp at hj)
  · refine run_convert_bytes_back w src dst e ⟨b, off, none⟩ cap l hs he hd (fun j hj => ?_)
    have hplain : (⟨b, off, none⟩ : Addr).add j = ⟨b, off + j, none⟩ := by unfold Addr.add; split <;> simp_all
    rw [hplain, hs' j hj]
    simp [hj]
/-- The number that bytes are, the least first. -/
def num : List UInt8 → Nat
  | [] => 0
  | c :: l => c.toNat + 256 * num l
theorem num_lt : ∀ l : List UInt8, num l < 256 ^ l.length
  | [] => by simp [num]
  | c :: l => by
    have h1 := num_lt l
    have h2 := UInt8.toNat_lt c
    rw [List.length_cons, Nat.pow_succ]
    unfold num
    omega
theorem num_append : ∀ (l : List UInt8) (m : List UInt8), num (l ++ m) = num l + 256 ^ l.length * num m
  | [], m => by simp [num]
  | c :: l, m => by
    show c.toNat + 256 * num (l ++ m) = (c.toNat + 256 * num l) + _
    rw [num_append l m, List.length_cons, Nat.pow_succ, Nat.mul_add, ← Nat.mul_assoc, Nat.mul_comm 256 (256 ^ l.length), Nat.add_assoc]
/-- The lowest n bytes of a number, the least first. -/
def byt : Nat → Nat → List UInt8
  | 0, _ => []
  | n + 1, v => UInt8.ofNat v :: byt n (v / 256)
theorem byt_length : ∀ (n v : Nat), (byt n v).length = n
  | 0, _ => rfl
  | n + 1, v => by simp [byt, byt_length n]
theorem num_byt : ∀ (n v : Nat), num (byt n v) = v % 256 ^ n
  | 0, v => by simp [byt, num, Nat.mod_one]
  | n + 1, v => by
    unfold byt num
    rw [num_byt n, UInt8.toNat_ofNat']
    have h1 : (2 : Nat) ^ 8 = 256 := by decide
    rw [h1, Nat.pow_succ, Nat.mul_comm (256 ^ n) 256, Nat.mod_mul]
theorem byt_num : ∀ (l : List UInt8) (n : Nat), l.length = n → byt n (num l) = l
  | [], 0, _ => rfl
  | c :: l, n + 1, h => by
    have h2 := UInt8.toNat_lt c
    have e1 : (c.toNat + 256 * num l) / 256 = num l := by omega
    have e2 : UInt8.ofNat (c.toNat + 256 * num l) = c := by
      apply UInt8.toNat.inj
      rw [UInt8.toNat_ofNat']
      have h1 : (2 : Nat) ^ 8 = 256 := by decide
      rw [h1]; omega
    show UInt8.ofNat (c.toNat + 256 * num l) :: byt n ((c.toNat + 256 * num l) / 256) = _
    rw [e1, e2, byt_num l n (by simpa using h)]
theorem byt_getD : ∀ (n v j : Nat), j < n → (byt n v).getD j 0 = UInt8.ofNat (v / 256 ^ j)
  | n + 1, v, 0, _ => by simp [byt]
  | n + 1, v, j + 1, h => by
    show (UInt8.ofNat v :: byt n (v / 256)).getD (j + 1) 0 = _
    rw [List.getD_cons_succ, byt_getD n (v / 256) j (by omega), Nat.div_div_eq_div_mul, Nat.pow_succ, Nat.mul_comm]
theorem num_take_succ {l : List UInt8} {j : Nat} (h : j < l.length) : num (l.take (j + 1)) = num (l.take j) + 256 ^ j * (l.getD j 0).toNat := by
  rw [List.take_succ_eq_append_getElem h, num_append, List.length_take, Nat.min_eq_left (by omega)]
  simp [num, h]
theorem pow256 (j : Nat) : 256 ^ j = 2 ^ (8 * j) := by rw [show (256 : Nat) = 2 ^ 8 from by decide, ← Nat.pow_mul]
theorem pow256_le {i j : Nat} (h : i ≤ j) : 256 ^ i ≤ 256 ^ j := Nat.pow_le_pow_right (by decide) h
theorem num_or {l : List UInt8} {j : Nat} (h : j < l.length) : num (l.take j) ||| (l.getD j 0).toNat * 2 ^ (8 * j) = num (l.take (j + 1)) := by
  have h1 := num_lt (l.take j)
  rw [List.length_take, Nat.min_eq_left (by omega), pow256] at h1
  rw [num_take_succ h, pow256, Nat.or_comm, nat_join (8 * j) _ _ (Nat.mul_mod_left _ _) h1]
  rw [Nat.mul_comm (2 ^ (8 * j)), Nat.add_comm]
theorem shl_lt {c : UInt8} {j : Nat} (hj : j < 8) : c.toNat * 2 ^ (8 * j) < 18446744073709551616 := by
  have h2 := UInt8.toNat_lt c
  have h3 : 2 ^ (8 * j) ≤ 2 ^ 56 := Nat.pow_le_pow_right (by decide) (by omega)
  have h4 : c.toNat * 2 ^ (8 * j) ≤ 255 * 2 ^ 56 := Nat.mul_le_mul (by omega) h3
  have h5 : 255 * 2 ^ 56 < 18446744073709551616 := by decide
  omega
theorem num_lt64 {l : List UInt8} (h : l.length ≤ 8) : num l < 18446744073709551616 := by
  have h1 := num_lt l
  have h2 := pow256_le h
  have h3 : 256 ^ 8 = 18446744073709551616 := by decide
  omega
theorem or_step {l : List UInt8} {j : Nat} (hl : l.length ≤ 8) (h : j < l.length) :
    bits .or .u64 ((num (l.take j) : Nat) : Int) (IntKind.u64.wrap (((l.getD j 0).toNat : Int) * 2 ^ (8 * j))) = ((num (l.take (j + 1)) : Nat) : Int) := by
  have h1 : ((l.getD j 0).toNat : Int) * 2 ^ (8 * j) = (((l.getD j 0).toNat * 2 ^ (8 * j) : Nat) : Int) := by simp
  have h2 := shl_lt (c := l.getD j 0) (show j < 8 by omega)
  rw [h1, IntKind.wrap_u64, Int.emod_eq_of_lt (by omega) (by omega), u64_or_nat _ _ (num_lt64 (by rw [List.length_take]; omega)) h2, num_or h]
end Go.Proofs.YtcpojpgdjjmfbaaDoor
