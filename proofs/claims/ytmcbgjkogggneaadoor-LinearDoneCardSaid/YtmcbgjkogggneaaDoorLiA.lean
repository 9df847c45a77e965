/- The page's example (awake): small pieces. -/
import Derived.Test.YtmcbgjkogggneaaDoorMono
import Derived.Test.YtmcbgjkogggneaaDoorSls
import Derived.Test.YtmcbgjkogggneaaDoorSlO
import Derived.Maps.OwnSet
import Derived.IntWalk
import Derived.BigQuiet
namespace Go.Proofs.YtmcbgjkogggneaaDoor
set_option maxRecDepth 100000
set_option linter.unusedVariables false
set_option linter.unusedSimpArgs false
open Go.RowKit Go.Maps
theorem small_zero (w : World) : Calls Tryd.prog 52 #[.int .i64 0] w fun e w' => e = .returned (.string ⟨#[48]⟩) ∧ w' = w := by
  go_enter Tryd.func52, Tryd.ntmps52
  go_wp2
  go_ret
  exact ⟨rfl, rfl⟩
theorem format_zero (w : World) : Calls Tryd.prog 50 #[.int .i64 0, .int .i64 10] w fun e w' => e = .returned (.string ⟨#[48]⟩) ∧ w' = w := by
  go_enter Tryd.func50, Tryd.ntmps50
  go_wp2_with (fail)
  refine (small_zero w).mono ?_
  rintro e w' ⟨rfl, rfl⟩
  go_wp2_with (fail)
  go_ret
  exact ⟨rfl, rfl⟩
theorem itoa_zero (w : World) : Calls Tryd.prog 47 #[.int .i64 0] w fun e w' => e = .returned (.string ⟨#[48]⟩) ∧ w' = w := by
  go_enter Tryd.func47, Tryd.ntmps47
  go_wp2_with (fail)
  refine (format_zero w).mono ?_
  rintro e w' ⟨rfl, rfl⟩
  go_wp2_with (fail)
  go_ret
  exact ⟨rfl, rfl⟩
theorem sitoa_zero (w : World) : Calls Tryd.prog 38 #[.int .i64 0] w fun e w' => e = .returned (.string ⟨#[48]⟩) ∧ w' = w := by
  go_enter Tryd.func38, Tryd.ntmps38
  go_wp2_with (fail)
  refine (itoa_zero w).mono ?_
  rintro e w' ⟨rfl, rfl⟩
  go_wp2_with (fail)
  go_ret
  exact ⟨rfl, rfl⟩
/-- A call as the program has it. -/
structure CallV where
  kind : Int
  name : ByteArray
  told : Bool
  na : Option Addr
  nn : Nat
  nc : Nat
  beg : Int
  fin : Int
def CallV.agg (c : CallV) : Value := .agg #[.int .i64 c.kind, .string c.name, .bool c.told, .slice c.na c.nn c.nc, .int .i64 c.beg, .int .i64 c.fin]
theorem must_any (c : CallV) (w : World) : Calls Tryd.prog 14 #[c.agg] w fun e w' => e = .returned (.bool (decide (0 ≤ c.fin))) ∧ Below w.heap.size w w' := by
  have HB := Lib.hid ((Below.refl w.heap.size w).alloc (Nat.le_refl _) (.cells #[.int .i64 c.kind, .string c.name, .bool c.told, .slice c.na c.nn c.nc, .int .i64 c.beg, .int .i64 c.fin] 32))
  unfold CallV.agg
  go_enter Tryd.func14, Tryd.ntmps14
  go_wp2_with (fail)
  go_ret
  exact ⟨by rfl, HB.out⟩
theorem can_any (c : CallV) (w : World) : Calls Tryd.prog 12 #[c.agg] w fun e w' => e = .returned (.bool (decide (0 ≤ c.fin) || c.kind == 1)) ∧ Below w.heap.size w w' := by
  have HA := Lib.hid ((Below.refl w.heap.size w).alloc (Nat.le_refl _) (.cells #[.int .i64 c.kind, .string c.name, .bool c.told, .slice c.na c.nn c.nc, .int .i64 c.beg, .int .i64 c.fin] 32))
  have HM := Lib.hid (must_any c)
  unfold CallV.agg at HM ⊢
  by_cases hm : 0 ≤ c.fin
  · have d1 : decide (0 ≤ c.fin) = true := decide_eq_true hm
    rw [d1] at HM ⊢
    clear hm d1
    go_enter Tryd.func12, Tryd.ntmps12
    go_wp2_with (fail)
    refine (HM.out _).mono ?_
    rintro e w1 ⟨rfl, hb⟩
    have HB := Lib.hid (below_new (Below.refl _ _) hb)
    clear hb
    go_wp2_with (fail)
    go_ret
    exact ⟨by rfl, HB.out⟩
  · have d1 : decide (0 ≤ c.fin) = false := decide_eq_false hm
    rw [d1] at HM ⊢
    clear hm d1
    go_enter Tryd.func12, Tryd.ntmps12
    go_wp2_with (fail)
    refine (HM.out _).mono ?_
    rintro e w1 ⟨rfl, hb⟩
    have HB := Lib.hid (below_new (Below.refl _ _) hb)
    have k0 : w1.cell? ⟨w.heap.size, 0, none⟩ = some (.int .i64 c.kind) := by
      rw [hb.cell (by simp)]
      rw [World.cell?_alloc_at _ _ _ _ rfl]; rfl
    clear hb
    go_wp2_with (fail)
    go_ret
    exact ⟨by simp, HB.out⟩
end Go.Proofs.YtmcbgjkogggneaaDoor
