/- Contracts of the page's Bytes, Number, Join, In. -/
import Derived.Test.YtcpojpgdjjmfbaaDoorOctE
namespace Go.Proofs.YtcpojpgdjjmfbaaDoor
set_option linter.unusedVariables false
set_option linter.unusedSimpArgs false
set_option maxRecDepth 100000
open Go.RowKit
theorem bcells_append (l m : List UInt8) : bcells (l ++ m) = bcells l ++ bcells m := List.map_append
set_option maxHeartbeats 400000 in
theorem refBytes_any (v n : Nat) (w : World) (hn : n ≤ 8) (hv : v < 18446744073709551616) :
    Calls Tryd.prog 55 #[.int .u64 (v : Nat), .int .i64 (n : Nat)] w fun e w' => ∃ v', e = .returned v' ∧ w'.ownsRow w.heap.size 5 1 v' n (bcells (byt n v)) ∧ Below w.heap.size w w' := by
  obtain ⟨i0, hi, hz0, hz1, hz2⟩ := info_parts info_u8
  have HV := Lib.hid hv
  clear hv
  go_enter Tryd.func55, Tryd.ntmps55
  go_wp2
  go_loopw [0, 5, 6] (fun x o i wr => ∃ j : Nat, j ≤ n ∧ i = .int .i64 j ∧ x = .int .u64 ((v / 256 ^ j : Nat) : Int) ∧ wr.ownsRow w.heap.size 5 1 o j (bcells ((byt n v).take j)) ∧ Below w.heap.size w wr) (fun _ _ i _ => n - (intOf i).toNat)
  case atStart => exact ⟨0, Nat.zero_le _, rfl, by simp, World.ownsRow_nil _ _ _ _, Below.refl _ _⟩
  case round =>
    obtain ⟨j, hj, rfl, rfl, hown, hbel⟩ := hrel
    by_cases hlt : j < n
    · have hx : v / 256 ^ j < 18446744073709551616 := Nat.lt_of_le_of_lt (Nat.div_le_self _ _) HV.out
      have e1 : (((v / 256 ^ j : Nat) : Int)) % 256 = ((UInt8.ofNat (v / 256 ^ j)).toNat : Int) := by
        rw [UInt8.toNat_ofNat']
        have h1 : (2 : Nat) ^ 8 = 256 := by decide
        rw [h1]; omega
      have e2 : v / 256 ^ (j + 1) = v / 256 ^ j / 256 := by rw [Nat.pow_succ, Nat.div_div_eq_div_mul]
      have HT := Lib.hid (byt_take_succ (v := v) hlt)
      have E1 := Lib.hid e1
      have E2 := Lib.hid e2
      clear e1 e2
      have hx0 : (0 : Int) ≤ ((v / 256 ^ j : Nat) : Int) := Int.natCast_nonneg _
      generalize v / 256 ^ j = x at *
      have hsz := hbel.size
      go_wp2_with (at_builtin; refine wpList_append_own _ rfl _ _ 31 rfl w.heap.size 5 i0 (.int .u8 0) 1 1 Tryd.underlying31 hi hz0 hz1 hz2 rfl (by decide) _ _ _ rfl (hown.alloc _) ⟨wr.heap.size, 0, none⟩ 1 1 [.int .u8 ((UInt8.ofNat x).toNat : Int)] rfl rfl ?c1 ?c2 ?c3 ?c4 ?c5 ?_)
      case c1 =>
        intro k u hk
        match k, hk with
        | 0, hk => simp at hk; subst hk; rw [E1.out]; simp [Addr.add]
      case c2 => intro u hu; simp at hu; subst hu; rfl
      case c3 => unfold maxLen; omega
      case c4 => omega
      case c5 => simp; omega
      intro v' w1 hown' hgrow _
      have hb1 : Below w.heap.size w w1 := Below.grown (hbel.alloc hsz _) hgrow (by simp; omega) (fun k hk => (hown.lt k hk).1)
      have HB1 := Lib.hid hb1
      clear hb1 hgrow hown hbel
      rw [E1.out] at hown'
      go_wp2
      go_roundw
      case rel =>
        refine ⟨j + 1, by omega, by go_num, ?_, ?_, HB1.out⟩
        · rw [E2.out]; congr 1
        · rw [HT.out, bcells_append]; exact hown'
      case measure => simp [intOf]; omega
    · obtain rfl : j = n := by omega
      go_wp2
      go_ret
      refine ⟨_, rfl, ?_, hbel⟩
      rw [List.take_of_length_le (by rw [byt_length]; omega)] at hown
      exact hown
set_option maxHeartbeats 400000 in
theorem refNumber_any (b off cap : Nat) (l : List UInt8) (w : World) (hl : l.length ≤ 8) (hs : BytesAt w b off l) :
    Calls Tryd.prog 36 #[.slice (some ⟨b, off, none⟩) l.length cap] w fun e w' => e = .returned (.int .u64 (num l : Nat)) ∧ w' = w := by
  have HS := Lib.hid hs
  clear hs
  go_enter Tryd.func36, Tryd.ntmps36
  go_wp2
  go_loop [3, 4] (fun v i => ∃ j : Nat, j ≤ l.length ∧ i = .int .i64 ((j : Int) - 1) ∧ v = .int .u64 (num (l.drop j) : Nat)) (fun _ i => (intOf i + 1).toNat)
  case atStart => exact ⟨l.length, Nat.le_refl _, rfl, by simp [num]⟩
  case round =>
    obtain ⟨j, hj, rfl, rfl⟩ := hrel
    by_cases hlt : 0 < j
    · obtain ⟨i, rfl⟩ : ∃ i, j = i + 1 := ⟨j - 1, by omega⟩
      have hc := HS.out i (by omega)
      have hcl := UInt8.toNat_lt (l.getD i 0)
      have hn : num (l.drop i) = (l.getD i 0).toNat + 256 * num (l.drop (i + 1)) := by
        rw [List.drop_eq_getElem_cons (show i < l.length by omega)]
        simp [num, show i < l.length from by omega]
      have hb := num_lt64 (l := l.drop i) (by rw [List.length_drop]; omega)
      rw [hn] at hb
      have HN := Lib.hid hn
      clear hn
      rw [show ((i + 1 : Nat) : Int) - 1 = (i : Int) from by omega]
      generalize l.getD i 0 = c at *
      generalize num (l.drop (i + 1)) = y at *
      go_wp2
      go_round
      case rel => exact ⟨i, by omega, rfl, by rw [HN.out]; congr 1; omega⟩
      case measure => simp [intOf]
    · obtain rfl : j = 0 := by omega
      rw [List.drop_zero, show ((0 : Nat) : Int) - 1 = -1 from rfl]
      go_wp2
      go_ret
      exact ⟨rfl, rfl⟩
theorem refNumber_nil (a : Option Addr) (cap : Nat) (w : World) :
    Calls Tryd.prog 36 #[.slice a 0 cap] w fun e w' => e = .returned (.int .u64 0) ∧ w' = w := by
  go_enter Tryd.func36, Tryd.ntmps36
  go_wp2
  refine wp_loop_rounds 1 ?_
  rw [rounds_succ]
  go_wp2
  go_ret
  exact ⟨rfl, rfl⟩
theorem refNumber_B {w : World} {B : Nat} {v : Value} {l : List UInt8} (h : Byt w B v l) (hl : l.length ≤ 8) :
    Calls Tryd.prog 36 #[v] w fun e w' => e = .returned (.int .u64 (num l : Nat)) ∧ w' = w := by
  rcases h with ⟨a, cap, rfl, rfl, _⟩ | ⟨b, off, cap, rfl, hc, hb, hs⟩
  · exact refNumber_nil a cap w
  · exact refNumber_any b off cap l w hl hs
end Go.Proofs.YtcpojpgdjjmfbaaDoor
