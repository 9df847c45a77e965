/- Contracts of package octet's inner functions. -/
import Derived.Test.YtcpojpgdjjmfbaaDoorByt
namespace Go.Proofs.YtcpojpgdjjmfbaaDoor
set_option linter.unusedVariables false
set_option linter.unusedSimpArgs false
open Go.RowKit
set_option maxHeartbeats 400000 in
theorem decode_any (b off cap : Nat) (l : List UInt8) (w : World) (hl : l.length ≤ 8) (hs : BytesAt w b off l) :
    Calls Tryd.prog 58 #[.slice (some ⟨b, off, none⟩) l.length cap] w fun e w' => e = .returned (.int .u64 (num l : Nat)) ∧ w' = w := by
  have HS := Lib.hid hs
  clear hs
  go_enter Tryd.func58, Tryd.ntmps58
  go_wp2
  go_loop [3, 8] (fun v i => ∃ j : Nat, j ≤ l.length ∧ i = .int .i64 j ∧ v = .int .u64 (num (l.take j) : Nat)) (fun _ i => l.length - (intOf i).toNat)
  case atStart => exact ⟨0, Nat.zero_le _, rfl, rfl⟩
  case round =>
    obtain ⟨j, hj, rfl, rfl⟩ := hrel
    by_cases hlt : j < l.length
    · have hc := HS.out j hlt
      have hcl := UInt8.toNat_lt (l.getD j 0)
      have HN := Lib.hid (or_step hl hlt)
      generalize l.getD j 0 = c at *
      go_wp2
      go_round
      case rel => exact ⟨j + 1, by omega, by go_num, by rw [HN.out]⟩
      case measure => simp [intOf]; omega
    · obtain rfl : j = l.length := by omega
      go_wp2
      go_ret
      exact ⟨rfl, rfl⟩
theorem decode_nil (a : Option Addr) (cap : Nat) (w : World) :
    Calls Tryd.prog 58 #[.slice a 0 cap] w fun e w' => e = .returned (.int .u64 0) ∧ w' = w := by
  go_enter Tryd.func58, Tryd.ntmps58
  go_wp2
  refine wp_loop_rounds 1 ?_
  rw [rounds_succ]
  go_wp2
  go_ret
  exact ⟨rfl, rfl⟩
def rightW (n : Int) : Bool := decide (1 ≤ n ∧ n ≤ 8)
theorem right_any (n : Int) (w : World) : Calls Tryd.prog 49 #[.int .i64 n] w fun e w' => e = .returned (.bool (rightW n)) ∧ w' = w := by
  by_cases h1 : 1 ≤ n
  · by_cases h2 : n ≤ 8
    · have H : Hid (rightW n = true) := by show _ = _; simp [rightW, h1, h2]
      go_enter Tryd.func49, Tryd.ntmps49
      go_wp2
      go_ret
      exact ⟨by rw [H.out]; simp, rfl⟩
    · have H : Hid (rightW n = false) := by show _ = _; simp [rightW, h2]
      have h3 : decide (n ≤ 8) = false := by simpa using h2
      go_enter Tryd.func49, Tryd.ntmps49
      go_wp2
      go_ret
      exact ⟨by rw [H.out]; simp, rfl⟩
  · have H : Hid (rightW n = false) := by show _ = _; simp [rightW, h1]
    have h3 : decide (1 ≤ n) = false := by simpa using h1
    go_enter Tryd.func49, Tryd.ntmps49
    go_wp2
    go_ret
    exact ⟨by rw [H.out]; simp, rfl⟩
/-- Cells that hold no bytes of a string. -/
def Free (w : World) (b off n : Nat) : Prop := ∀ j, j < n → (w.cell? ⟨b, off + j, none⟩).isSome = true ∧ w.frozen? ⟨b, off + j, none⟩ = false
/-- Bytes laid from an address on. -/
def laid (w : World) (b off : Nat) : List UInt8 → World
  | [] => w
  | c :: l => laid (w.setCell ⟨b, off, none⟩ (.int .u8 (c.toNat : Int))) b (off + 1) l
theorem laid_snoc (b : Nat) : ∀ (l : List UInt8) (w : World) (off : Nat) (c : UInt8), laid w b off (l ++ [c]) = (laid w b off l).setCell ⟨b, off + l.length, none⟩ (.int .u8 (c.toNat : Int))
  | [], w, off, c => rfl
  | x :: l, w, off, c => by
    show laid _ b (off + 1) (l ++ [c]) = _
    rw [laid_snoc b l, List.length_cons, show off + 1 + l.length = off + (l.length + 1) from by omega]
    rfl
theorem laid_frozen (b : Nat) (p : Addr) : ∀ (l : List UInt8) (w : World) (off : Nat), (laid w b off l).frozen? p = w.frozen? p
  | [], _, _ => rfl
  | x :: l, w, off => by
    show (laid _ b (off + 1) l).frozen? p = _
    rw [laid_frozen b p l]; simp
theorem laid_isSome (b : Nat) (p : Addr) : ∀ (l : List UInt8) (w : World) (off : Nat), (w.cell? p).isSome = true → ((laid w b off l).cell? p).isSome = true
  | [], _, _, h => h
  | x :: l, w, off, h => by
    refine laid_isSome b p l _ _ ?_
    obtain ⟨v, hv⟩ := Option.isSome_iff_exists.1 h
    obtain ⟨v', hv'⟩ := cell?_setCell_some (p := ⟨b, off, none⟩) (x := .int .u8 (x.toNat : Int)) hv
    rw [hv']; rfl
theorem laid_other (b : Nat) (p : Addr) : ∀ (l : List UInt8) (w : World) (off : Nat), (∀ j, j < l.length → p ≠ ⟨b, off + j, none⟩) → (laid w b off l).cell? p = w.cell? p
  | [], _, _, _ => rfl
  | x :: l, w, off, h => by
    show (laid _ b (off + 1) l).cell? p = _
    rw [laid_other b p l _ _ (fun j hj e => h (j + 1) (by simp; omega) (by rw [e]; congr 1; omega)), World.cell?_setCell_other _ _ _ _ (fun e => h 0 (by simp) (by rw [← e]; rfl))]
theorem laid_at (b : Nat) : ∀ (l : List UInt8) (w : World) (off : Nat), (∀ j, j < l.length → (w.cell? ⟨b, off + j, none⟩).isSome = true) → BytesAt (laid w b off l) b off l
  | [], _, _, _ => fun j hj => by simp at hj
  | x :: l, w, off, h => by
    intro j hj
    show (laid (w.setCell ⟨b, off, none⟩ (.int .u8 (x.toNat : Int))) b (off + 1) l).cell? _ = _
    have h0 := h 0 (by simp)
    obtain ⟨v0, hv0⟩ := Option.isSome_iff_exists.1 h0
    cases j with
    | zero =>
      rw [laid_other b _ l _ _ (fun i hi e => by simp only [Addr.mk.injEq] at e; omega)]
      exact World.cell?_setCell_same _ _ _ hv0
    | succ j =>
      have := laid_at b l (w.setCell ⟨b, off, none⟩ (.int .u8 (x.toNat : Int))) (off + 1) (fun i hi => by
        have h1 := h (i + 1) (by simp; omega)
        rw [show off + 1 + i = off + (i + 1) from by omega]
        rw [World.cell?_setCell_other _ _ _ _ (by simp)]
        exact h1) j (by simpa using hj)
      rw [show off + 1 + j = off + (j + 1) from by omega] at this
      rw [this]
      simp
theorem laid_block (b k : Nat) (hk : k ≠ b) : ∀ (l : List UInt8) (w : World) (off : Nat), (laid w b off l).heap[k]? = w.heap[k]?
  | [], _, _ => rfl
  | x :: l, w, off => by
    show (laid _ b (off + 1) l).heap[k]? = _
    rw [laid_block b k hk l, Below.heap_setCell _ _ _ _ hk]
theorem laid_size (b : Nat) : ∀ (l : List UInt8) (w : World) (off : Nat), (laid w b off l).heap.size = w.heap.size ∧ (laid w b off l).os = w.os ∧ (laid w b off l).tape = w.tape ∧ (laid w b off l).output = w.output
  | [], _, _ => ⟨rfl, rfl, rfl, rfl⟩
  | x :: l, w, off => by
    have := laid_size b l (w.setCell ⟨b, off, none⟩ (.int .u8 (x.toNat : Int))) (off + 1)
    simp only [World.setCell, Array.size_modify] at this
    exact this
theorem shr_byte (v j : Nat) : (v : Int) / 2 ^ (8 * j) % 256 = ((UInt8.ofNat (v / 256 ^ j)).toNat : Int) := by
  have e : (v : Int) / 2 ^ (8 * j) = ((v / 2 ^ (8 * j) : Nat) : Int) := by simp
  rw [UInt8.toNat_ofNat', pow256, e]
  have h1 : (2 : Nat) ^ 8 = 256 := by decide
  rw [h1]
  omega
theorem byt_take_succ {n v j : Nat} (h : j < n) : (byt n v).take (j + 1) = (byt n v).take j ++ [UInt8.ofNat (v / 256 ^ j)] := by
  have hl : j < (byt n v).length := by rw [byt_length]; exact h
  rw [List.take_succ_eq_append_getElem hl]
  have := byt_getD n v j h
  rw [List.getD_eq_getElem?_getD, List.getElem?_eq_getElem hl] at this
  rw [← this]; rfl
set_option maxHeartbeats 400000 in
theorem encode_any (b off n cap v : Nat) (w : World) (hn : n ≤ 8) (hv : v < 18446744073709551616) (hf : Free w b off n) :
    Calls Tryd.prog 50 #[.slice (some ⟨b, off, none⟩) n cap, .int .u64 (v : Nat)] w fun e w' => e = .returned (.tuple #[]) ∧ w' = laid w b off (byt n v) := by
  have HF := Lib.hid hf
  have HV := Lib.hid hv
  clear hf hv
  go_enter Tryd.func50, Tryd.ntmps50
  go_wp2
  go_loopw [4, 7] (fun _ i wr => ∃ j : Nat, j ≤ n ∧ i = .int .i64 j ∧ Hid (wr = laid w b off ((byt n v).take j))) (fun _ i _ => n - (intOf i).toNat)
  case atStart => exact ⟨0, Nat.zero_le _, rfl, rfl⟩
  case round =>
    obtain ⟨j, hj, rfl, hw⟩ := hrel
    by_cases hlt : j < n
    · have h1 : (wr.cell? ⟨b, off + j, none⟩).isSome = true := by rw [hw.out]; exact laid_isSome _ _ _ _ _ (HF.out j hlt).1
      have h2 : wr.frozen? ⟨b, off + j, none⟩ = false := by rw [hw.out, laid_frozen]; exact (HF.out j hlt).2
      obtain ⟨u, hu⟩ := Option.isSome_iff_exists.1 h1
      clear h1
      go_wp2
      go_roundw
      case rel =>
        refine ⟨j + 1, by omega, by go_num, ?_⟩
        show _ = _
        rw [byt_take_succ hlt, laid_snoc, List.length_take, byt_length, Nat.min_eq_left (by omega), ← hw.out, shr_byte]
      case measure => simp [intOf]; omega
    · obtain rfl : j = n := by omega
      go_wp2
      go_end0
      refine ⟨rfl, ?_⟩
      have h1 := hw.out
      rw [List.take_of_length_le (by rw [byt_length]; omega)] at h1
      exact h1
end Go.Proofs.YtcpojpgdjjmfbaaDoor
