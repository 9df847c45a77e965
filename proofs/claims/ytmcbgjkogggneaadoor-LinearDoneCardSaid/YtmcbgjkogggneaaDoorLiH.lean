/- The order in which calls ended: ByEnd. -/
import Derived.Test.YtmcbgjkogggneaaDoorLiG
namespace Go.Proofs.YtmcbgjkogggneaaDoor
set_option maxRecDepth 100000
set_option linter.unusedVariables false
set_option linter.unusedSimpArgs false
open Go.RowKit
set_option maxHeartbeats 2000000 in
theorem stable20 (blk m cap gc : Nat) (cb : Array Value) (cf : El → El → Int) (le R : El → El → Prop) (f : Nat → El) (w : World) (hA : Arr w blk m f) (hm : m ≤ 20) (h0 : 0 < m)
    (o : Ord le) (hcf : ∀ x y, R x y → (cf x y < 0 ↔ ¬ le y x)) (hR : ∀ i k, k < i → i < m → R (f i) (f k)) (hC : CmpOK R gc cb cf blk w) (heg : ∀ args W, (callFunc gc args).run Tryd.prog W = .ok (.enter gc args) W) :
    Calls Tryd.prog 43 #[.slice (some ⟨blk, 0, none⟩) m cap, .int .i64 (m : Nat), .func (.func gc) #[] cb] w (InsOut le f blk m 0 m w) := by
  by_cases h20 : m = 20
  · subst h20
    have HI := Lib.hid (insertion_any blk 20 cap 0 20 gc cb cf le R f w hA (by omega) (by omega) (by omega) o hcf (fun i k _ h1 h2 => hR i k h1 h2) hC heg)
    have HC := Lib.hid hC
    have HO := Lib.hid o
    have HF := Lib.hid hcf
    clear hA hC o hcf
    go_enter Tryd.func43, Tryd.ntmps43
    go_wp2_with (fail)
    refine wp_loop_rounds 2 ?_
    refine Eq.mpr (rounds_succ (n := 1)) ?_
    go_wp2_with (fail)
    refine HI.out.mono ?_
    rintro e w1 ⟨rfl, ⟨g, hs, ht, ha⟩, hg⟩
    have HI2 := Lib.hid (insertion_any blk 20 cap 20 20 gc cb cf le R g w1 ha (by omega) (by omega) (by omega) HO.out HF.out (fun i k h1 h2 h3 => by omega) (HC.out.up hg) heg)
    have HS := Lib.hid hs
    have HT := Lib.hid ht
    have HG := Lib.hid hg
    clear hs ht ha hg HI
    go_wp2_with (fail)
    refine Eq.mpr (rounds_succ (n := 0)) ?_
    go_wp2_with (fail)
    refine HI2.out.mono ?_
    rintro e w2 ⟨rfl, ⟨g2, hs2, _, ha2⟩, hg2⟩
    have HS2 := Lib.hid hs2
    have HA2 := Lib.hid ha2
    have HG2 := Lib.hid (HG.out.trans hg2)
    clear hs2 ha2 hg2 HI2
    go_wp2_with (fail)
    refine wp_loop_rounds 1 ?_
    refine Eq.mpr (rounds_succ (n := 0)) ?_
    go_wp2_with (fail)
    go_end0
    exact InsOut.mk (HS.out.trans (HS2.out.mono (by omega) (Nat.le_refl _))) (HT.out.congr (fun k _ h2 => HS2.out.out k (.inl h2))) HA2.out HG2.out
  · have d1 : decide ((20 : Int) ≤ (m : Int)) = false := decide_eq_false (by omega)
    have d2 : decide ((20 : Int) < (m : Int)) = false := decide_eq_false (by omega)
    have HI := Lib.hid (insertion_any blk m cap 0 m gc cb cf le R f w hA (by omega) (by omega) (by omega) o hcf (fun i k _ h1 h2 => hR i k h1 h2) hC heg)
    clear hA hC o hcf h20
    go_enter Tryd.func43, Tryd.ntmps43
    go_wp2_with (fail)
    refine wp_loop_rounds 1 ?_
    refine Eq.mpr (rounds_succ (n := 0)) ?_
    go_wp2_with (fail)
    refine HI.out.mono ?_
    rintro e w1 ⟨rfl, ⟨g, hs, ht, ha⟩, hg⟩
    have HH := Lib.hid (InsOut.mk hs ht ha hg)
    clear hs ht ha hg HI
    go_wp2_with (fail)
    refine wp_loop_rounds 1 ?_
    refine Eq.mpr (rounds_succ (n := 0)) ?_
    go_wp2_with (fail)
    go_end0
    exact HH.out
theorem sort20 (blk m cap gc : Nat) (cb : Array Value) (cf : El → El → Int) (le R : El → El → Prop) (f : Nat → El) (w : World) (hA : Arr w blk m f) (hm : m ≤ 20) (h0 : 0 < m)
    (o : Ord le) (hcf : ∀ x y, R x y → (cf x y < 0 ↔ ¬ le y x)) (hR : ∀ i k, k < i → i < m → R (f i) (f k)) (hC : CmpOK R gc cb cf blk w) (heg : ∀ args W, (callFunc gc args).run Tryd.prog W = .ok (.enter gc args) W) :
    Calls Tryd.prog 30 #[.slice (some ⟨blk, 0, none⟩) m cap, .func (.func gc) #[] cb] w (InsOut le f blk m 0 m w) := by
  have HST := Lib.hid (stable20 blk m cap gc cb cf le R f w hA hm h0 o hcf hR hC heg)
  clear hA hC o hcf hR heg
  go_enter Tryd.func30, Tryd.ntmps30
  go_wp2_with (fail)
  refine HST.out.mono ?_
  rintro e w1 ⟨rfl, hq⟩
  have HQ := Lib.hid hq
  clear hq HST
  go_wp2_with (fail)
  go_end0
  exact ⟨rfl, HQ.out⟩
/-! ### no element -/
theorem insertion_zero (a : Option Addr) (cap : Nat) (fv : Value) (w : World) : Calls Tryd.prog 48 #[.slice a 0 cap, .int .i64 0, .int .i64 0, fv] w fun e w' => e = .returned (.tuple #[]) ∧ w = w' := by
  go_enter Tryd.func48, Tryd.ntmps48
  go_wp2_with (fail)
  refine wp_loop_rounds 1 ?_
  rw [rounds_succ]
  go_wp2_with (fail)
  go_end0
  exact ⟨rfl, rfl⟩
theorem stable_zero (a : Option Addr) (cap : Nat) (fv : Value) (w : World) : Calls Tryd.prog 43 #[.slice a 0 cap, .int .i64 0, fv] w fun e w' => e = .returned (.tuple #[]) ∧ w = w' := by
  go_enter Tryd.func43, Tryd.ntmps43
  go_wp2_with (fail)
  refine wp_loop_rounds 1 ?_
  rw [rounds_succ]
  go_wp2_with (fail)
  refine (insertion_zero a cap fv w).mono ?_
  rintro e w' ⟨rfl, rfl⟩
  go_wp2_with (fail)
  refine wp_loop_rounds 1 ?_
  rw [rounds_succ]
  go_wp2_with (fail)
  go_end0
  exact ⟨rfl, rfl⟩
theorem sort_zero (a : Option Addr) (cap : Nat) (fv : Value) (w : World) : Calls Tryd.prog 30 #[.slice a 0 cap, fv] w fun e w' => e = .returned (.tuple #[]) ∧ w = w' := by
  go_enter Tryd.func30, Tryd.ntmps30
  go_wp2_with (fail)
  refine (stable_zero a cap fv w).mono ?_
  rintro e w' ⟨rfl, rfl⟩
  go_wp2_with (fail)
  go_end0
  exact ⟨rfl, rfl⟩
end Go.Proofs.YtmcbgjkogggneaaDoor
