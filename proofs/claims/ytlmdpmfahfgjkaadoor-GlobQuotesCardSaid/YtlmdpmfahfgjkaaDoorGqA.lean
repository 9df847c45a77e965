/- The walk of GlobQuotes. -/
import Derived.Test.YtlmdpmfahfgjkaaDoorGlY
import Derived.Test.YtlmdpmfahfgjkaaDoorGlO
namespace Go.Proofs.YtlmdpmfahfgjkaaDoor
set_option maxRecDepth 100000
set_option linter.unusedVariables false
set_option linter.unusedSimpArgs false
open Go.RowKit
theorem quote_size (s : ByteArray) (h : s.size ≤ 200) : (str (quote s.data.toList)).size ≤ 400 := by
  have h1 := quote_len s.data.toList
  have h2 : s.data.toList.length = s.size := Array.length_toList
  have h3 : (str (quote s.data.toList)).size = (quote s.data.toList).length := rfl
  omega
set_option maxHeartbeats 4000000 in
theorem quotes_walk (s t : ByteArray) (w : World) (hA : Amb w) (hm : s.size ≤ 9223372036854775807) (hm2 : t.size ≤ 9223372036854775807) : Calls Tryd.prog 6 #[.string s, .string t] w fun e w' => e = .returned (.bool true) ∧ Below w.heap.size w w' := by
  have HW := Lib.hid (gawake w hA)
  have HA := Lib.hid hA
  clear hA
  go_enter Tryd.func6, Tryd.ntmps6
  go_wp2_with (fail)
  refine HW.out.mono ?_
  rintro e w1 ⟨rfl, hb⟩
  have HB := Lib.hid hb
  clear hb HW
  by_cases hlong : 200 < s.size
  · have d1 : decide (200 < s.size) = true := decide_eq_true hlong
    have d2 : decide ((200 : Int) < (s.size : Int)) = true := decide_eq_true (by omega)
    clear hlong
    go_wp2_with (fail)
    go_ret
    exact ⟨by rfl, HB.out⟩
  have d1 : decide (200 < s.size) = false := decide_eq_false hlong
  have d2 : decide ((200 : Int) < (s.size : Int)) = false := decide_eq_false (by omega)
  by_cases hlong2 : 200 < t.size
  · have d3 : decide (200 < t.size) = true := decide_eq_true hlong2
    have d4 : decide ((200 : Int) < (t.size : Int)) = true := decide_eq_true (by omega)
    clear hlong hlong2
    go_wp2_with (fail)
    go_ret
    exact ⟨by rfl, HB.out⟩
  have d3 : decide (200 < t.size) = false := decide_eq_false hlong2
  have d4 : decide ((200 : Int) < (t.size : Int)) = false := decide_eq_false (by omega)
  have HS := Lib.hid (signs_any s w1 (by omega))
  have HQ := Lib.hid (fun W : World => quote_any s W (by omega))
  have hqs := quote_size s (by omega)
  have HMS := Lib.hid (fun (W : World) (hW : Amb W) => gmatch_any (str (quote s.data.toList)) s W hW (by omega) (by omega))
  have HMT := Lib.hid (fun (W : World) (hW : Amb W) => gmatch_any (str (quote s.data.toList)) t W hW (by omega) (by omega))
  have HP := Lib.hid (fun (W : World) (hW : Amb W) => parse_any (str (quote s.data.toList)) W hW (by omega))
  go_wp2_with (fail)
  refine HS.out.mono ?_
  rintro e w2 hq
  unfold Signs_r at hq
  clear d1 d2 d3 d4 HS
  cases hs : sg s.data.toList with
  | none =>
    rw [hs] at hq
    obtain ⟨rfl, hb⟩ := hq
    have HB := Lib.hid (HB.out.trans (hb.mono HB.out.size))
    have hpn := pars_quote_bad hs
    have e1 : GM (str (quote s.data.toList)) s = .tuple #[.bool false, .int .i64 40] := by unfold GM; rw [gm_none hpn]
    have e2 : GM (str (quote s.data.toList)) t = .tuple #[.bool false, .int .i64 40] := by unfold GM; rw [gm_none hpn]
    rw [e1] at HMS
    rw [e2] at HMT
    clear e1 e2 hpn hs hb HP hqs
    generalize str (quote s.data.toList) = q at *
    have HQ := Lib.hid (HQ.out w2)
    go_wp2_with (fail)
    refine HQ.out.mono ?_
    rintro e w3 ⟨rfl, hb⟩
    have HB := Lib.hid (HB.out.trans (hb.mono HB.out.size))
    have HM := Lib.hid (HMS.out w3 (HA.out.below HB.out))
    clear hb HMS HQ
    go_wp2_with (fail)
    refine HM.out.mono ?_
    rintro e w4 ⟨rfl, hb⟩
    have HB := Lib.hid (HB.out.trans (hb.mono HB.out.size))
    have HM := Lib.hid (HMT.out w4 (HA.out.below HB.out))
    clear hb HMT
    go_wp2_with (fail)
    refine HM.out.mono ?_
    rintro e w5 ⟨rfl, hb⟩
    have HB := Lib.hid (HB.out.trans (hb.mono HB.out.size))
    clear hb
    go_wp2_with (fail)
    go_ret
    exact ⟨by rfl, HB.out⟩
  | some cs =>
    rw [hs] at hq
    obtain ⟨⟨sv, rfl, hro⟩, hb⟩ := hq
    obtain ⟨sa, sc, rfl, hsc⟩ := hro.form
    have HB := Lib.hid (HB.out.trans (hb.mono HB.out.size))
    have hcl := sg_length hs
    have hcl2 : s.data.toList.length = s.size := Array.length_toList
    have hpn := pars_quote hs (by omega)
    have e1 : GM (str (quote s.data.toList)) s = .tuple #[.bool true, .int .i64 0] := by unfold GM; rw [gm_some hpn, mtch_quote hs]; simp
    have e2 : GM (str (quote s.data.toList)) t = .tuple #[.bool (decide (s = t)), .int .i64 0] := by unfold GM; rw [gm_some hpn, mtch_quote hs]
    have HPN := Lib.hid hpn
    have hml : (cs.map sgn).length = cs.length := List.length_map ..
    have HML := Lib.hid hml
    rw [e1] at HMS
    rw [e2] at HMT
    clear e1 e2 hpn hs hb hqs hro hsc hcl hcl2 hml
    have HQ := Lib.hid (HQ.out w2)
    generalize str (quote s.data.toList) = q at *
    go_wp2_with (fail)
    refine HQ.out.mono ?_
    rintro e w3 ⟨rfl, hb⟩
    have HB := Lib.hid (HB.out.trans (hb.mono HB.out.size))
    have HM := Lib.hid (HMS.out w3 (HA.out.below HB.out))
    clear hb HMS HQ
    go_wp2_with (fail)
    refine HM.out.mono ?_
    rintro e w4 ⟨rfl, hb⟩
    have HB := Lib.hid (HB.out.trans (hb.mono HB.out.size))
    have HM := Lib.hid (HMT.out w4 (HA.out.below HB.out))
    clear hb HMT
    go_wp2_with (fail)
    refine HM.out.mono ?_
    rintro e w5 ⟨rfl, hb⟩
    have HB := Lib.hid (HB.out.trans (hb.mono HB.out.size))
    have HM := Lib.hid (HP.out w5 (HA.out.below HB.out))
    clear hb HP
    go_wp2_with (fail)
    refine HM.out.mono ?_
    rintro e w6 hq
    unfold Parse_p at hq
    rw [HPN.out] at hq
    obtain ⟨⟨gv, rfl, hgo⟩, hb⟩ := hq
    obtain ⟨ga, gc, rfl, hgc⟩ := hgo.form
    rw [HML.out]
    have HB := Lib.hid (HB.out.trans (hb.mono HB.out.size))
    clear hb hgo hgc HM HPN HML
    generalize cs.length = n at *
    by_cases hst : s = t
    · subst hst
      have e1 : decide (s = s) = true := by simp
      rw [e1]
      clear e1
      go_wp2_with (fail)
      go_ret
      exact ⟨by rfl, HB.out⟩
    · have e1 : decide (s = t) = false := decide_eq_false hst
      rw [e1]
      have HE := Lib.hid (show (s.toList == t.toList) = false by
        rw [beq_eq_false_iff_ne]
        intro h
        rw [ByteArray.toList_eq, ByteArray.toList_eq] at h
        exact hst (data_ext h))
      have e3 : ¬ s.toList = t.toList := by simpa using HE.out
      clear e1
      go_wp2_with (fail)
      go_ret
      refine ⟨?_, HB.out⟩
      show Ending.returned (.bool (!(s.toList == t.toList))) = _
      rw [HE.out]
      rfl
end Go.Proofs.YtlmdpmfahfgjkaaDoor
