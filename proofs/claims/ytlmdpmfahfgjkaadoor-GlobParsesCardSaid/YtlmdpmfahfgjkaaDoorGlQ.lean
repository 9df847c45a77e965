/- The walk of GlobParses. -/
import Derived.Test.YtlmdpmfahfgjkaaDoorGlP
namespace Go.Proofs.YtlmdpmfahfgjkaaDoor
set_option maxRecDepth 100000
set_option linter.unusedVariables false
set_option linter.unusedSimpArgs false
open Go.RowKit
set_option maxHeartbeats 4000000 in
theorem parses_walk (s : ByteArray) (w : World) (hA : Amb w) (hm : s.size ≤ 9223372036854775807) : Calls Tryd.prog 3 #[.string s] w fun e w' => e = .returned (.bool true) ∧ Below w.heap.size w w' := by
  have HW := Lib.hid (gawake w hA)
  have HA := Lib.hid hA
  clear hA
  go_enter Tryd.func3, Tryd.ntmps3
  go_wp2_with (fail)
  refine HW.out.mono ?_
  rintro e w1 ⟨rfl, hb⟩
  have HB := Lib.hid hb
  clear hb HW
  by_cases hlong : 600 < s.size
  · have d1 : decide (600 < s.size) = true := decide_eq_true hlong
    have d2 : decide ((600 : Int) < (s.size : Int)) = true := decide_eq_true (by omega)
    clear hlong
    go_wp2_with (fail)
    go_ret
    exact ⟨by rfl, HB.out⟩
  have d1 : decide (600 < s.size) = false := decide_eq_false hlong
  have d2 : decide ((600 : Int) < (s.size : Int)) = false := decide_eq_false (by omega)
  have HP := Lib.hid (parse_any s w1 (HA.out.below HB.out) (by omega))
  go_wp2_with (fail)
  refine HP.out.mono ?_
  rintro e w2 hq
  unfold Parse_p at hq
  have HR := Lib.hid (refParse_any s w2 (by omega))
  cases h : pars s with
  | none =>
    rw [h] at hq
    obtain ⟨rfl, hb⟩ := hq
    have HB := Lib.hid (HB.out.trans (hb.mono HB.out.size))
    have HH := Lib.hid h
    clear h hb d1 d2
    go_wp2_with (fail)
    refine HR.out.mono ?_
    rintro e w3 hq
    unfold Parse_r at hq
    rw [HH.out] at hq
    obtain ⟨rfl, hb⟩ := hq
    have HB := Lib.hid (HB.out.trans (hb.mono HB.out.size))
    clear hb
    go_wp2_with (fail)
    go_ret
    exact ⟨by rfl, HB.out⟩
  | some ps =>
    rw [h] at hq
    obtain ⟨⟨v, rfl, hpo⟩, hb⟩ := hq
    have HB := Lib.hid (HB.out.trans (hb.mono HB.out.size))
    have HPO := Lib.hid hpo.pat
    have HH := Lib.hid h
    obtain ⟨av, cv, rfl, hcv⟩ := hpo.form
    clear h hb d1 d2 hpo
    go_wp2_with (fail)
    refine HR.out.mono ?_
    rintro e w3 hq
    unfold Parse_r at hq
    rw [HH.out] at hq
    obtain ⟨⟨v', rfl, hpo⟩, hb⟩ := hq
    have HPO := Lib.hid (HPO.out.below hb)
    have hz := hb.size
    have HB := Lib.hid (HB.out.trans (hb.mono HB.out.size))
    obtain ⟨h1, h2⟩ := pars_bd HH.out
    have HS := Lib.hid (same_any ps w2.heap.size w3.heap.size s.size _ v' w3 HPO.out hpo.pat hz (Nat.le_refl _) h1 h2 (by omega))
    obtain ⟨av', cv', rfl, hcv'⟩ := hpo.form
    clear hb hpo h1 h2
    go_wp2_with (fail)
    refine HS.out.mono ?_
    rintro e w4 ⟨rfl, hb⟩
    have HB := Lib.hid (HB.out.trans (hb.mono HB.out.size))
    clear hb
    go_wp2_with (fail)
    go_ret
    exact ⟨by rfl, HB.out⟩
end Go.Proofs.YtlmdpmfahfgjkaaDoor
