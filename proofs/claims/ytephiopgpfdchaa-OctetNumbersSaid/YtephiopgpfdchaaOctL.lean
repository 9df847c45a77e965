/- The law OctetNumbers, whatever the input. -/
import Derived.Test.YtephiopgpfdchaaOctK
namespace Go.Proofs.Ytephiopgpfdchaa
open Go.RowKit
set_option maxHeartbeats 400000 in
set_option maxRecDepth 100000 in
theorem numbers_long (ad : Option Addr) (c len : Nat) (p n : Int) (v : Nat) (w : World) (hl : 1000 < len) :
    Calls Try.prog 3 #[.slice ad len c, .agg #[.int .i64 p, .int .i64 n], .int .u64 (v : Nat)] w (numbersQ w) := by
  have HA : Hid (Below w.heap.size w (w.alloc (.cells #[.int .i64 p, .int .i64 n] 23))) := (Below.refl _ _).alloc (Nat.le_refl _) _
  have hl1 : decide ((len : Int) > 1000) = true := by simp; omega
  have hl2 : decide (1000 < (len : Int)) = true := by simp; omega
  go_enter Try.func3, Try.ntmps3
  go_wp2_with fail
  refine (awake_any _).mono ?_
  rintro e w1 ⟨rfl, hb⟩
  have HB1 : Hid (Below w.heap.size w w1) := HA.out.trans (hb.mono HA.out.size)
  clear hb HA
  go_wp2
  go_ret
  exact ⟨rfl, HB1.out⟩
theorem numbers_walk (ad : Option Addr) (c : Nat) (l : List UInt8) (p n v : Int) (w : World) (h : Byt w w.heap.size (.slice ad l.length c) l) (hc : l.length ≤ c) (hp : -9223372036854775808 ≤ p ∧ p ≤ 9223372036854775807) (hv : 0 ≤ v ∧ v ≤ 18446744073709551615) :
    Calls Try.prog 3 #[.slice ad l.length c, .agg #[.int .i64 p, .int .i64 n], .int .u64 v] w fun e w' => e = .returned (.bool true) ∧ Below w.heap.size w w' := by
  obtain ⟨u, rfl⟩ : ∃ u : Nat, v = u := ⟨v.toNat, by omega⟩
  by_cases hl : l.length ≤ 1000
  · exact numbers_any ad c l p n u w h hl hc hp (by omega)
  · exact numbers_long ad c _ p n u w (by omega)
end Go.Proofs.Ytephiopgpfdchaa
