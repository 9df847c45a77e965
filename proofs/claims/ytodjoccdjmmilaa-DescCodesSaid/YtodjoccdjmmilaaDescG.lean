/- The law DescCodes, whatever the input. -/
import Derived.Test.YtodjoccdjmmilaaDescF
namespace Go.Proofs.Ytodjoccdjmmilaa
open Go.RowKit
theorem wrap_cases (v : Nat) (hv : v < 18446744073709551616) : IntKind.i64.wrap (v : Int) = if v < 9223372036854775808 then (v : Int) else (v : Int) - 18446744073709551616 := by
  rw [IntKind.wrap_i64]
  split <;> omega
theorem descB_wrap {a b : Nat} (ha : a < 18446744073709551616) (hb : b < 18446744073709551616) (h : descB (IntKind.i64.wrap a) (IntKind.i64.wrap b) = true) : IntKind.i64.wrap (a : Int) = a ∧ IntKind.i64.wrap (b : Int) = b ∧ a ≤ 33554432 ∧ b ≤ 16777216 := by
  have h := of_decide_eq_true h
  rw [wrap_cases a ha, wrap_cases b hb] at h ⊢
  by_cases h1 : a < 9223372036854775808
  · by_cases h2 : b < 9223372036854775808
    · rw [if_pos h1, if_pos h2] at h ⊢
      omega
    · rw [if_pos h1, if_neg h2] at h
      omega
  · rw [if_neg h1] at h
    omega
theorem rd_lt8 (l : List UInt8) (p : Nat) (g : Bool) : rd l p (wd g) < 18446744073709551616 :=
  Nat.lt_of_lt_of_le (rd_lt l p (wd g)) (Nat.le_trans (pow256_le (wd_bd g).2) (by decide))
theorem okD_take (m : List UInt8) (g : Bool) : okD (m.take 24) g ↔ okD m g := by
  have hwd := wd_bd g
  unfold okD
  rw [rd_take _ _ _ _ (by omega), rd_take _ _ _ _ (by omega), rd_take _ _ _ _ (by omega), List.length_take]
  constructor
  · rintro ⟨h1, h2⟩; exact ⟨by omega, h2⟩
  · rintro ⟨h1, h2⟩; exact ⟨by omega, h2⟩
theorem desc_eq (m : List UInt8) (g : Bool) (hl : 8 + wd g + wd g ≤ m.length) : descBytes (rd m 4 4) (rd m 8 (wd g)) (rd m (8 + wd g) (wd g)) g = m.take (8 + wd g + wd g) ↔ rd m 0 4 = 134695760 := by
  have hwd := wd_bd g
  constructor
  · intro h
    have e1 : rd (m.take (8 + wd g + wd g)) 0 4 = rd m 0 4 := rd_take _ _ _ _ (by omega)
    rw [← e1, ← h]
    generalize rd m 4 4 = a
    generalize rd m 8 (wd g) = b
    generalize rd m (8 + wd g) (wd g) = c
    cases g <;> exact rd_byt (v := 134695760) rfl (by decide)
  · intro h
    have b : ∀ q n, q + n ≤ m.length → byt n (rd m q n) = (m.drop q).take n := fun q n hq => byt_num _ _ (by rw [List.length_take, List.length_drop]; omega)
    unfold descBytes
    rw [← h, b 0 4 (by omega), b 4 4 (by omega), b 8 (wd g) (by omega), b (8 + wd g) (wd g) (by omega), List.take_add, List.take_add, show (8 : Nat) = 4 + 4 from rfl, List.take_add, List.drop_zero]
def LQ (x p s : Int) (g : Bool) (ad : Option Addr) (c : Nat) (l : List UInt8) (at_ : Int) (w : World) : Prop :=
  Calls Try.prog 4 #[.agg #[.int .u32 x, .int .i64 p, .int .i64 s, .bool g], .slice ad l.length c, .int .i64 at_] w (lawQ w)
theorem ref_fail (m : List UInt8) (g : Bool) (hm : m.length ≤ 300) (hk : ¬ okD m g) (ae : Option Addr) (ce : Nat) (W : World) (hW : Byt W W.heap.size (.slice ae m.length ce) m) (hc : m.length ≤ ce) :
    Calls Try.prog 11 #[.slice ae m.length ce, .bool g] W fun e w' => e = .returned (.tuple #[.int .u32 0, .int .i64 0, .int .i64 0, .bool false]) ∧ Below W.heap.size W w' := by
  by_cases h1 : m.length < 8 + wd g + wd g
  · cases g with
    | false => exact rparse_short_false ae ce m W hW (by omega) hc h1
    | true => exact rparse_short_true ae ce m W hW (by omega) hc h1
  by_cases h2 : 33554432 < rd m 8 (wd g)
  · cases g with
    | false => exact rparse_p_false ae ce m W hW (by omega) hc (Nat.le_of_not_lt h1) h2
    | true => exact rparse_p_true ae ce m W hW (by omega) hc (Nat.le_of_not_lt h1) h2
  by_cases h3 : 16777216 < rd m (8 + wd g) (wd g)
  · cases g with
    | false => exact rparse_s_false ae ce m W hW (by omega) hc (Nat.le_of_not_lt h1) (Nat.le_of_not_lt h2) h3
    | true => exact rparse_s_true ae ce m W hW (by omega) hc (Nat.le_of_not_lt h1) (Nat.le_of_not_lt h2) h3
  have h4 : ¬ rd m 0 4 = 134695760 := fun h => hk ⟨Nat.le_of_not_lt h1, h, by
    rw [IntWalk.i64_in _ (by omega), IntWalk.i64_in _ (by omega)]
    exact descB_yes (by omega)⟩
  have h5 : ¬ descBytes (rd m 4 4) (rd m 8 (wd g)) (rd m (8 + wd g) (wd g)) g = m.take (8 + wd g + wd g) := fun h => h4 ((desc_eq m g (Nat.le_of_not_lt h1)).1 h)
  cases g with
  | false => exact rparse_neq_false ae ce m W hW (by omega) hc (Nat.le_of_not_lt h1) (Nat.le_of_not_lt h2) (Nat.le_of_not_lt h3) h5
  | true => exact rparse_neq_true ae ce m W hW (by omega) hc (Nat.le_of_not_lt h1) (Nat.le_of_not_lt h2) (Nat.le_of_not_lt h3) h5
theorem ref_ok (m : List UInt8) (g : Bool) (hm : m.length ≤ 300) (hk : okD m g) (ae : Option Addr) (ce : Nat) (W : World) (hW : Byt W W.heap.size (.slice ae m.length ce) m) (hc : m.length ≤ ce) :
    Calls Try.prog 11 #[.slice ae m.length ce, .bool g] W fun e w' => e = .returned (.tuple #[.int .u32 (rd m 4 4 : Nat), .int .i64 (rd m 8 (wd g) : Nat), .int .i64 (rd m (8 + wd g) (wd g) : Nat), .bool true]) ∧ Below W.heap.size W w' := by
  obtain ⟨h1, h2, h3⟩ := hk
  obtain ⟨_, _, h4, h5⟩ := descB_wrap (rd_lt8 _ _ _) (rd_lt8 _ _ _) h3
  have h6 := (desc_eq m g h1).2 h2
  cases g with
  | false => exact rparse_yes_false ae ce m W hW (by omega) hc h1 h4 h5 h6
  | true => exact rparse_yes_true ae ce m W hW (by omega) hc h1 h4 h5 h6
theorem read_ok (m : List UInt8) (g : Bool) (hk : okD m g) (rb : Nat) (W : World) (hW : RD W rb m 0) :
    Calls Try.prog 15 #[.pointer (some ⟨rb, 0, none⟩), .bool g] W fun e w' => e = .returned (.agg #[.int .u32 (rd m 4 4 : Nat), .int .i64 (rd m 8 (wd g) : Nat), .int .i64 (rd m (8 + wd g) (wd g) : Nat), .bool g]) ∧ RD w' rb m (8 + wd g + wd g) ∧ Bx [rb] W.heap.size W w' := by
  obtain ⟨h1, h2, h3⟩ := hk
  obtain ⟨q1, q2, _, _⟩ := descB_wrap (rd_lt8 _ _ _) (rd_lt8 _ _ _) h3
  have := dread_yes rb m g W hW h1 h2 h3
  rw [q1, q2] at this
  exact this
theorem codes_any (x p s : Int) (g : Bool) (ad : Option Addr) (c : Nat) (l : List UInt8) (at_ : Int) (w : World) (hx : 0 ≤ x ∧ x ≤ 4294967295) (h : Byt w w.heap.size (.slice ad l.length c) l) (hl : l.length ≤ 300) (hc : l.length ≤ c) : LQ x p s g ad c l at_ w := by
  unfold LQ
  have hwd := wd_bd g
  have nat : descB p s = true → ∃ (x' p' s' : Nat), x = x' ∧ p = p' ∧ s = s' ∧ x' < 4294967296 := fun hd => by
    have h' := of_decide_eq_true hd
    exact ⟨x.toNat, p.toNat, s.toNat, by omega, by omega, by omega, by omega⟩
  by_cases hat : at_ < 0 ∨ (l.length : Int) < at_
  · cases hd : descB p s with
    | false => exact codes_no_range x p s g ad c l w h hl hc hd at_ hat
    | true =>
      obtain ⟨x', p', s', rfl, rfl, rfl, hx'⟩ := nat hd
      exact codes_yes_range x' p' s' g ad c l w h hl hc hx' hd at_ hat
  obtain ⟨k, rfl⟩ : ∃ k : Nat, at_ = k := ⟨at_.toNat, by omega⟩
  have hk : k ≤ l.length := by omega
  have hm : (l.drop k).length ≤ 300 := by rw [List.length_drop]; omega
  by_cases hok : okD (l.drop k) g
  · have hok24 := (okD_take (l.drop k) g).2 hok
    have hP : ∀ W : World, Byt W W.heap.size (.slice ad l.length c) l → Calls Try.prog 7 #[.slice ad l.length c, .int .i64 (k : Nat), .bool g] W fun e w' => e = .returned (.tuple #[.agg #[.int .u32 (rd (l.drop k) 4 4 : Nat), .int .i64 (rd (l.drop k) 8 (wd g) : Nat), .int .i64 (rd (l.drop k) (8 + wd g) (wd g) : Nat), .bool g], .int .i64 ((k : Int) + ((8 + wd g + wd g : Nat) : Int)), .int .i64 0]) ∧ Below W.heap.size W w' := fun W hW =>
      dparse_yes ad c l k g W hW (by omega) hc hk _ _ _ _ (by omega) (fun rb w1 hw1 => by
        have := read_ok _ g hok24 rb w1 hw1
        rw [rd_take _ _ _ _ (by omega), rd_take _ _ _ _ (by omega), rd_take _ _ _ _ (by omega)] at this
        exact this)
    cases hd : descB p s with
    | false => exact codes_no_ok x p s g ad c l w h hl hc hd k hk _ _ _ _ hP (fun ae ce W hW hce => ref_ok _ g hm hok ae ce W hW hce) (fun rb W hW => read_ok _ g hok rb W hW)
    | true =>
      obtain ⟨x', p', s', rfl, rfl, rfl, hx'⟩ := nat hd
      exact codes_yes_ok x' p' s' g ad c l w h hl hc hx' hd k hk _ _ _ _ hP (fun ae ce W hW hce => ref_ok _ g hm hok ae ce W hW hce) (fun rb W hW => read_ok _ g hok rb W hW)
  · obtain ⟨code, q0, hcd, hf⟩ := dread_fail ((l.drop k).take 24) g (fun h => hok ((okD_take _ g).1 h))
    obtain ⟨code2, q, hcd2, hf2⟩ := dread_fail (l.drop k) g hok
    cases hd : descB p s with
    | false => exact codes_no_fail x p s g ad c l w h hl hc hd k hk code code2 hcd hcd2 q (fun W hW => dparse_fail ad c l k g W hW (by omega) hc hk code q0 hcd hf) (fun ae ce W hW hce => ref_fail _ g hm hok ae ce W hW hce) hf2
    | true =>
      obtain ⟨x', p', s', rfl, rfl, rfl, hx'⟩ := nat hd
      exact codes_yes_fail x' p' s' g ad c l w h hl hc hx' hd k hk code code2 hcd hcd2 q (fun W hW => dparse_fail ad c l k g W hW (by omega) hc hk code q0 hcd hf) (fun ae ce W hW hce => ref_fail _ g hm hok ae ce W hW hce) hf2
set_option maxRecDepth 100000 in
theorem codes_long (x p s : Int) (g : Bool) (ad : Option Addr) (c len : Nat) (at_ : Int) (w : World) (hl : 300 < len) : Calls Try.prog 4 #[.agg #[.int .u32 x, .int .i64 p, .int .i64 s, .bool g], .slice ad len c, .int .i64 at_] w (lawQ w) := by
  have t0 : decide (300 < (len : Int)) = true := by simp; omega
  have HZ := Lib.hid ((Below.refl w.heap.size w).alloc (Nat.le_refl _) (.cells #[.int .u32 x, .int .i64 p, .int .i64 s, .bool g] 24))
  go_enter Try.func4, Try.ntmps4
  go_wp2_with fail
  refine (awake_any _).mono ?_
  rintro e w1 ⟨rfl, hb⟩
  have HZ := Lib.hid (HZ.out.trans (hb.mono (by simp)))
  clear hb
  go_wp2
  go_ret
  exact ⟨rfl, HZ.out⟩
theorem codes_walk (x p s : Int) (g : Bool) (ad : Option Addr) (c : Nat) (l : List UInt8) (at_ : Int) (w : World) (hx : 0 ≤ x ∧ x ≤ 4294967295) (h : Byt w w.heap.size (.slice ad l.length c) l) (hc : l.length ≤ c) : Calls Try.prog 4 #[.agg #[.int .u32 x, .int .i64 p, .int .i64 s, .bool g], .slice ad l.length c, .int .i64 at_] w fun e w' => e = .returned (.bool true) ∧ Below w.heap.size w w' := by
  by_cases hl : l.length ≤ 300
  · exact codes_any x p s g ad c l at_ w hx h hl hc
  · exact codes_long x p s g ad c l.length at_ w (by omega)
end Go.Proofs.Ytodjoccdjmmilaa
