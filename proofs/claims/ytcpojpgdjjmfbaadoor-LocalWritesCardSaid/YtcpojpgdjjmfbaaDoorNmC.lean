/- The reference's UTF and Rune. -/
import Derived.Test.YtcpojpgdjjmfbaaDoorNmB
import Derived.Test.YtcpojpgdjjmfbaaDoorByt
namespace Go.Proofs.YtcpojpgdjjmfbaaDoor
set_option linter.unusedVariables false
set_option linter.unusedSimpArgs false
open Go.RowKit
def u8n (n : Int) : UInt8 := n.toNat.toUInt8
def utfI (c : Int) : List UInt8 :=
  if c < 0 ∨ 1114111 < c ∨ (55296 ≤ c ∧ c ≤ 57343) then []
  else if c < 128 then [u8n c]
  else if c < 2048 then [u8n (192 + c / 64), u8n (128 + c % 64)]
  else if c < 65536 then [u8n (224 + c / 4096), u8n (128 + c / 64 % 64), u8n (128 + c % 64)]
  else [u8n (240 + c / 262144), u8n (128 + c / 4096 % 64), u8n (128 + c / 64 % 64), u8n (128 + c % 64)]
theorem u8n_int (n : Int) (h0 : 0 ≤ n) (h1 : n ≤ 255) : ((u8n n).toNat : Int) = n := by
  unfold u8n
  rw [UInt8.toNat_ofNat']
  omega
def ByQ (l : List UInt8) (w : World) (e : Ending) (w' : World) : Prop := ∃ v, e = .returned v ∧ Byt w' w'.heap.size v l ∧ Below w.heap.size w w'
theorem byt_new (w : World) (l : List UInt8) (cs : List Value) (n : Nat) (hcs : cs = l.map fun c => Value.int .u8 (c.toNat : Int)) (hn : l.length = n) :
    Byt (w.alloc (.cells cs.toArray 5)) (w.alloc (.cells cs.toArray 5)).heap.size (.slice (some ⟨w.heap.size, 0, none⟩) n n) l := by
  subst hn
  refine .inr ⟨w.heap.size, 0, l.length, rfl, Nat.le_refl _, by simp, fun j hj => ?_⟩
  have h1 : (w.alloc (.cells cs.toArray 5)).cell? ⟨w.heap.size, 0 + j, none⟩ = cs[j]? := by
    simp [go_sem]
  rw [h1, hcs, List.getElem?_map, List.getElem?_eq_getElem hj, List.getD_eq_getElem?_getD, List.getElem?_eq_getElem hj]
  rfl
theorem utf_0 (c : Int) (w : World) (h : c < 0 ∨ 1114111 < c ∨ (55296 ≤ c ∧ c ≤ 57343)) : Calls Tryd.prog 65 #[.int .i64 c] w (ByQ [] w) := by
  rcases h with h | h | ⟨h, h'⟩
  · have d1 : decide (c < 0) = true := decide_eq_true (by omega)
    go_enter Tryd.func65, Tryd.ntmps65
    go_wp2
    go_ret
    exact ⟨_, rfl, .inl ⟨none, 0, rfl, rfl, fun _ => rfl⟩, Below.refl _ _⟩
  · have d1 : decide (c < 0) = false := decide_eq_false (by omega)
    have d2 : decide (1114111 < c) = true := decide_eq_true (by omega)
    go_enter Tryd.func65, Tryd.ntmps65
    go_wp2
    go_ret
    exact ⟨_, rfl, .inl ⟨none, 0, rfl, rfl, fun _ => rfl⟩, Below.refl _ _⟩
  · have d1 : decide (c < 0) = false := decide_eq_false (by omega)
    have d2 : decide (1114111 < c) = false := decide_eq_false (by omega)
    have d3 : decide (55296 ≤ c) = true := decide_eq_true (by omega)
    have d4 : decide (c ≤ 57343) = true := decide_eq_true (by omega)
    go_enter Tryd.func65, Tryd.ntmps65
    go_wp2
    go_ret
    exact ⟨_, rfl, .inl ⟨none, 0, rfl, rfl, fun _ => rfl⟩, Below.refl _ _⟩
theorem utf_1 (c : Int) (w : World) (h0 : 0 ≤ c) (h1 : c < 128) : Calls Tryd.prog 65 #[.int .i64 c] w (ByQ [u8n c] w) := by
  have d1 : decide (c < 0) = false := decide_eq_false (by omega)
  have d2 : decide (1114111 < c) = false := decide_eq_false (by omega)
  have e0 : decide (55296 ≤ c) = false := decide_eq_false (by omega)
  have e1 : decide (c < 128) = true := decide_eq_true (by omega)
  go_enter Tryd.func65, Tryd.ntmps65
  go_wp2
  go_ret
  exact ⟨_, rfl, byt_new w _ _ _ (by simp only [List.map_cons, List.map_nil]; (repeat rw [u8n_int _ (by omega) (by omega)])) rfl, (Below.refl _ _).alloc (Nat.le_refl _) _⟩
theorem utf_2 (c : Int) (w : World) (h0 : 128 ≤ c) (h1 : c < 2048) : Calls Tryd.prog 65 #[.int .i64 c] w (ByQ [u8n (192 + c / 64), u8n (128 + c % 64)] w) := by
  have d1 : decide (c < 0) = false := decide_eq_false (by omega)
  have d2 : decide (1114111 < c) = false := decide_eq_false (by omega)
  have e0 : decide (55296 ≤ c) = false := decide_eq_false (by omega)
  have e1 : decide (c < 128) = false := decide_eq_false (by omega)
  have e2 : decide (c < 2048) = true := decide_eq_true (by omega)
  go_enter Tryd.func65, Tryd.ntmps65
  go_wp2
  go_ret
  exact ⟨_, rfl, byt_new w _ _ _ (by simp only [List.map_cons, List.map_nil]; (repeat rw [u8n_int _ (by omega) (by omega)])) rfl, (Below.refl _ _).alloc (Nat.le_refl _) _⟩
theorem utf_3 (c : Int) (w : World) (h0 : 2048 ≤ c) (h1 : c < 55296) : Calls Tryd.prog 65 #[.int .i64 c] w (ByQ [u8n (224 + c / 4096), u8n (128 + c / 64 % 64), u8n (128 + c % 64)] w) := by
  have d1 : decide (c < 0) = false := decide_eq_false (by omega)
  have d2 : decide (1114111 < c) = false := decide_eq_false (by omega)
  have e0 : decide (55296 ≤ c) = false := decide_eq_false (by omega)
  have e1 : decide (c < 128) = false := decide_eq_false (by omega)
  have e2 : decide (c < 2048) = false := decide_eq_false (by omega)
  have e3 : decide (c < 65536) = true := decide_eq_true (by omega)
  go_enter Tryd.func65, Tryd.ntmps65
  go_wp2
  go_ret
  exact ⟨_, rfl, byt_new w _ _ _ (by simp only [List.map_cons, List.map_nil]; (repeat rw [u8n_int _ (by omega) (by omega)])) rfl, (Below.refl _ _).alloc (Nat.le_refl _) _⟩
theorem utf_3h (c : Int) (w : World) (h0 : 57343 < c) (h1 : c < 65536) : Calls Tryd.prog 65 #[.int .i64 c] w (ByQ [u8n (224 + c / 4096), u8n (128 + c / 64 % 64), u8n (128 + c % 64)] w) := by
  have d1 : decide (c < 0) = false := decide_eq_false (by omega)
  have d2 : decide (1114111 < c) = false := decide_eq_false (by omega)
  have e0 : decide (55296 ≤ c) = true := decide_eq_true (by omega)
  have e1 : decide (c ≤ 57343) = false := decide_eq_false (by omega)
  have e2 : decide (c < 128) = false := decide_eq_false (by omega)
  have e3 : decide (c < 2048) = false := decide_eq_false (by omega)
  have e4 : decide (c < 65536) = true := decide_eq_true (by omega)
  go_enter Tryd.func65, Tryd.ntmps65
  go_wp2
  go_ret
  exact ⟨_, rfl, byt_new w _ _ _ (by simp only [List.map_cons, List.map_nil]; (repeat rw [u8n_int _ (by omega) (by omega)])) rfl, (Below.refl _ _).alloc (Nat.le_refl _) _⟩
theorem utf_4 (c : Int) (w : World) (h0 : 65536 ≤ c) (h1 : c ≤ 1114111) : Calls Tryd.prog 65 #[.int .i64 c] w (ByQ [u8n (240 + c / 262144), u8n (128 + c / 4096 % 64), u8n (128 + c / 64 % 64), u8n (128 + c % 64)] w) := by
  have d1 : decide (c < 0) = false := decide_eq_false (by omega)
  have d2 : decide (1114111 < c) = false := decide_eq_false (by omega)
  have e0 : decide (55296 ≤ c) = true := decide_eq_true (by omega)
  have e1 : decide (c ≤ 57343) = false := decide_eq_false (by omega)
  have e2 : decide (c < 128) = false := decide_eq_false (by omega)
  have e3 : decide (c < 2048) = false := decide_eq_false (by omega)
  have e4 : decide (c < 65536) = false := decide_eq_false (by omega)
  go_enter Tryd.func65, Tryd.ntmps65
  go_wp2
  go_ret
  exact ⟨_, rfl, byt_new w _ _ _ (by simp only [List.map_cons, List.map_nil]; (repeat rw [u8n_int _ (by omega) (by omega)])) rfl, (Below.refl _ _).alloc (Nat.le_refl _) _⟩
theorem utf_any (c : Int) (w : World) : Calls Tryd.prog 65 #[.int .i64 c] w (ByQ (utfI c) w) := by
  unfold utfI
  by_cases h0 : c < 0 ∨ 1114111 < c ∨ (55296 ≤ c ∧ c ≤ 57343)
  · rw [if_pos h0]; exact utf_0 c w h0
  · rw [if_neg h0]
    by_cases h1 : c < 128
    · rw [if_pos h1]; exact utf_1 c w (by omega) h1
    · rw [if_neg h1]
      by_cases h2 : c < 2048
      · rw [if_pos h2]; exact utf_2 c w (by omega) h2
      · rw [if_neg h2]
        by_cases h3 : c < 65536
        · rw [if_pos h3]
          by_cases h4 : c < 55296
          · exact utf_3 c w (by omega) h4
          · exact utf_3h c w (by omega) h3
        · rw [if_neg h3]; exact utf_4 c w (by omega) (by omega)
end Go.Proofs.YtcpojpgdjjmfbaaDoor
