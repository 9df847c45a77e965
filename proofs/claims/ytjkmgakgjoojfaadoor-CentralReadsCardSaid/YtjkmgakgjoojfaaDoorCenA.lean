/- central.Header: Check, and the page's. -/
import Derived.Test.YtjkmgakgjoojfaaDoorLocA
namespace Go.Proofs.YtjkmgakgjoojfaaDoor
set_option maxRecDepth 100000
set_option linter.unusedVariables false
set_option linter.unusedSimpArgs false
open Go.RowKit
def ccode (lc pl : Int) : Int := if lc ≠ 0 then lc else if pl < 0 ∨ 4294967295 ≤ pl then 13 else 0
theorem ccode_0 {lc pl : Int} (h : ccode lc pl = 0) : lc = 0 ∧ 0 ≤ pl ∧ pl < 4294967295 := by
  unfold ccode at h
  split at h
  · omega
  · split at h
    · omega
    · omega
set_option maxHeartbeats 1000000 in
theorem ccheck_core (nm : ByteArray) (y mo da ho mi se me cr pk sz : Int) (gw gl : Bool) (pl : Int) (lc : Int) (w : World) (hA : Amb w) (HL : Hid (∀ W, Amb W → Calls Tryd.prog 24 #[.agg #[.string nm, .int .i64 y, .int .i64 mo, .int .i64 da, .int .i64 ho, .int .i64 mi, .int .i64 se, .int .i64 me, .int .u32 cr, .int .i64 pk, .int .i64 sz, .bool gw, .bool gl]] W (CQ (.int .i64 lc) W))) : Calls Tryd.prog 10 #[.agg #[.string nm, .int .i64 y, .int .i64 mo, .int .i64 da, .int .i64 ho, .int .i64 mi, .int .i64 se, .int .i64 me, .int .u32 cr, .int .i64 pk, .int .i64 sz, .bool gw, .bool gl, .int .i64 pl]] w (CQ (.int .i64 (ccode lc pl)) w) := by
  have HB := Lib.hid ((Below.refl w.heap.size w).alloc (Nat.le_refl _) (.cells #[.string nm, .int .i64 y, .int .i64 mo, .int .i64 da, .int .i64 ho, .int .i64 mi, .int .i64 se, .int .i64 me, .int .u32 cr, .int .i64 pk, .int .i64 sz, .bool gw, .bool gl, .int .i64 pl] 28))
  have HC := Lib.hid (Cells.new_at w [.string nm, .int .i64 y, .int .i64 mo, .int .i64 da, .int .i64 ho, .int .i64 mi, .int .i64 se, .int .i64 me, .int .u32 cr, .int .i64 pk, .int .i64 sz, .bool gw, .bool gl, .int .i64 pl] 28 w.heap.size rfl)
  have HA := Lib.hid hA
  clear hA
  unfold ccode
  by_cases h0 : lc = 0
  rotate_left
  · rw [if_pos h0]
    have h1 : (lc != 0) = true := by simpa using h0
    clear h0
    go_enter Tryd.func10, Tryd.ntmps10
    go_wp2_with (fail)
    refine (HL.out _ (HA.out.below HB.out)).mono ?_
    rintro e w1 ⟨rfl, b1⟩
    have HB1 := Lib.hid (HB.out.trans (b1.mono (by simp)))
    have k13 := (HC.out.below b1 (by simp)) 13 _ rfl
    clear b1
    go_wp2_with (fail)
    go_ret
    exact ⟨rfl, HB1.out⟩
  subst h0
  rw [if_neg (by decide)]
  by_cases h1 : pl < 0
  · rw [if_pos (.inl h1)]
    go_enter Tryd.func10, Tryd.ntmps10
    go_wp2_with (fail)
    refine (HL.out _ (HA.out.below HB.out)).mono ?_
    rintro e w1 ⟨rfl, b1⟩
    have HB1 := Lib.hid (HB.out.trans (b1.mono (by simp)))
    have k13 := (HC.out.below b1 (by simp)) 13 _ rfl
    clear b1
    go_wp2_with (fail)
    go_ret
    exact ⟨rfl, HB1.out⟩
  by_cases h2 : 4294967295 ≤ pl
  · rw [if_pos (.inr h2)]
    go_enter Tryd.func10, Tryd.ntmps10
    go_wp2_with (fail)
    refine (HL.out _ (HA.out.below HB.out)).mono ?_
    rintro e w1 ⟨rfl, b1⟩
    have HB1 := Lib.hid (HB.out.trans (b1.mono (by simp)))
    have k13 := (HC.out.below b1 (by simp)) 13 _ rfl
    clear b1
    go_wp2_with (fail)
    go_ret
    exact ⟨rfl, HB1.out⟩
  · rw [if_neg (by omega)]
    go_enter Tryd.func10, Tryd.ntmps10
    go_wp2_with (fail)
    refine (HL.out _ (HA.out.below HB.out)).mono ?_
    rintro e w1 ⟨rfl, b1⟩
    have HB1 := Lib.hid (HB.out.trans (b1.mono (by simp)))
    have k13 := (HC.out.below b1 (by simp)) 13 _ rfl
    clear b1
    go_wp2_with (fail)
    go_ret
    exact ⟨rfl, HB1.out⟩
theorem ccheck_any (nm : ByteArray) (y mo da ho mi se me cr pk sz : Int) (gw gl : Bool) (pl : Int) (w : World) (hA : Amb w) : Calls Tryd.prog 10 #[.agg #[.string nm, .int .i64 y, .int .i64 mo, .int .i64 da, .int .i64 ho, .int .i64 mi, .int .i64 se, .int .i64 me, .int .u32 cr, .int .i64 pk, .int .i64 sz, .bool gw, .bool gl, .int .i64 pl]] w (CQ (.int .i64 (ccode (lcode (chk nm) (Dos.rightB y mo da ho mi se) me pk sz) pl)) w) :=
  ccheck_core nm y mo da ho mi se me cr pk sz gw gl pl _ w hA (Lib.hid fun W hA => lcheck_any nm y mo da ho mi se me cr pk sz gw gl W hA)
set_option maxHeartbeats 1000000 in
theorem refCcheck_core (nm : ByteArray) (y mo da ho mi se me cr pk sz : Int) (gw gl : Bool) (pl : Int) (lc : Int) (w : World) (HL : Hid (∀ W, Calls Tryd.prog 19 #[.agg #[.string nm, .int .i64 y, .int .i64 mo, .int .i64 da, .int .i64 ho, .int .i64 mi, .int .i64 se, .int .i64 me, .int .u32 cr, .int .i64 pk, .int .i64 sz, .bool gw, .bool gl]] W (CQ (.int .i64 lc) W))) : Calls Tryd.prog 8 #[.agg #[.string nm, .int .i64 y, .int .i64 mo, .int .i64 da, .int .i64 ho, .int .i64 mi, .int .i64 se, .int .i64 me, .int .u32 cr, .int .i64 pk, .int .i64 sz, .bool gw, .bool gl], .int .i64 pl] w (CQ (.int .i64 (ccode lc pl)) w) := by
  have HB := Lib.hid ((Below.refl w.heap.size w).alloc (Nat.le_refl _) (.cells #[.string nm, .int .i64 y, .int .i64 mo, .int .i64 da, .int .i64 ho, .int .i64 mi, .int .i64 se, .int .i64 me, .int .u32 cr, .int .i64 pk, .int .i64 sz, .bool gw, .bool gl] 30))
  have HC := Lib.hid (Cells.new_at w [.string nm, .int .i64 y, .int .i64 mo, .int .i64 da, .int .i64 ho, .int .i64 mi, .int .i64 se, .int .i64 me, .int .u32 cr, .int .i64 pk, .int .i64 sz, .bool gw, .bool gl] 30 w.heap.size rfl)
  
  unfold ccode
  by_cases h0 : lc = 0
  rotate_left
  · rw [if_pos h0]
    have h1 : (lc != 0) = true := by simpa using h0
    clear h0
    go_enter Tryd.func8, Tryd.ntmps8
    go_wp2_with (fail)
    refine (HL.out _).mono ?_
    rintro e w1 ⟨rfl, b1⟩
    have HB1 := Lib.hid (HB.out.trans (b1.mono (by simp)))
    clear b1
    go_wp2_with (fail)
    go_ret
    exact ⟨rfl, HB1.out⟩
  subst h0
  rw [if_neg (by decide)]
  by_cases h1 : pl < 0
  · rw [if_pos (.inl h1)]
    go_enter Tryd.func8, Tryd.ntmps8
    go_wp2_with (fail)
    refine (HL.out _).mono ?_
    rintro e w1 ⟨rfl, b1⟩
    have HB1 := Lib.hid (HB.out.trans (b1.mono (by simp)))
    clear b1
    go_wp2_with (fail)
    go_ret
    exact ⟨rfl, HB1.out⟩
  by_cases h2 : 4294967295 ≤ pl
  · rw [if_pos (.inr h2)]
    go_enter Tryd.func8, Tryd.ntmps8
    go_wp2_with (fail)
    refine (HL.out _).mono ?_
    rintro e w1 ⟨rfl, b1⟩
    have HB1 := Lib.hid (HB.out.trans (b1.mono (by simp)))
    clear b1
    go_wp2_with (fail)
    go_ret
    exact ⟨rfl, HB1.out⟩
  · rw [if_neg (by omega)]
    go_enter Tryd.func8, Tryd.ntmps8
    go_wp2_with (fail)
    refine (HL.out _).mono ?_
    rintro e w1 ⟨rfl, b1⟩
    have HB1 := Lib.hid (HB.out.trans (b1.mono (by simp)))
    clear b1
    go_wp2_with (fail)
    go_ret
    exact ⟨rfl, HB1.out⟩
theorem refCcheck_any (nm : ByteArray) (y mo da ho mi se me cr pk sz : Int) (gw gl : Bool) (pl : Int) (w : World) : Calls Tryd.prog 8 #[.agg #[.string nm, .int .i64 y, .int .i64 mo, .int .i64 da, .int .i64 ho, .int .i64 mi, .int .i64 se, .int .i64 me, .int .u32 cr, .int .i64 pk, .int .i64 sz, .bool gw, .bool gl], .int .i64 pl] w (CQ (.int .i64 (ccode (lcode (chk nm) (Dos.rightB y mo da ho mi se) me pk sz) pl)) w) :=
  refCcheck_core nm y mo da ho mi se me cr pk sz gw gl pl _ w (Lib.hid fun W => refLcheck_any nm y mo da ho mi se me cr pk sz gw gl W)
end Go.Proofs.YtjkmgakgjoojfaaDoor
