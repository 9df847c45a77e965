/- The walk of GlobMatches. -/
import Derived.Test.YtlmdpmfahfgjkaaDoorGlV
namespace Go.Proofs.YtlmdpmfahfgjkaaDoor
set_option maxRecDepth 100000
set_option linter.unusedVariables false
set_option linter.unusedSimpArgs false
open Go.RowKit
set_option maxHeartbeats 8000000 in
theorem matches_none (p : ByteArray) (ss : List ByteArray) (v : Value) (w : World) (hA : Amb w) (hm : p.size ≤ 9223372036854775807) (hS : Sl w w.heap.size 1 v ss.length (scells ss)) (hl : ss.length ≤ 2000000) (hs : ∀ s ∈ ss, s.size ≤ 2000000) (h : pars p = none) :
    Calls Tryd.prog 5 #[.string p, v] w fun e w' => e = .returned (.bool true) ∧ Below w.heap.size w w' := by
  have HW := Lib.hid (gawake w hA)
  have HA := Lib.hid hA
  obtain ⟨a, cap, rfl, hcap⟩ := hS.form
  have HSl := Lib.hid (fun (W : World) (hW : Below w.heap.size w W) => hS.below hW)
  have HSZ := Lib.hid hs
  have HH := Lib.hid h
  clear hA hS hs h
  go_enter Tryd.func5, Tryd.ntmps5
  go_wp2_with (fail)
  refine HW.out.mono ?_
  rintro e w1 ⟨rfl, hb⟩
  have HB := Lib.hid hb
  clear hb HW
  by_cases h3 : 300 < p.size
  · have d1 : decide (300 < p.size) = true := decide_eq_true h3
    have d2 : decide ((300 : Int) < (p.size : Int)) = true := decide_eq_true (by omega)
    clear h3
    go_wp2_with (fail)
    go_ret
    exact ⟨by rfl, HB.out⟩
  have d1 : decide (300 < p.size) = false := decide_eq_false h3
  have d2 : decide ((300 : Int) < (p.size : Int)) = false := decide_eq_false (by omega)
  by_cases h20 : 20 < ss.length
  · have d3 : decide (20 < ss.length) = true := decide_eq_true h20
    have d4 : decide ((20 : Int) < (ss.length : Int)) = true := decide_eq_true (by omega)
    clear h20
    go_wp2_with (fail)
    go_ret
    exact ⟨by rfl, HB.out⟩
  have d3 : decide (20 < ss.length) = false := decide_eq_false h20
  have d4 : decide ((20 : Int) < (ss.length : Int)) = false := decide_eq_false (by omega)
  have HRP := Lib.hid (refParse_any p w1 (by omega))
  go_wp2_with (fail)
  refine HRP.out.mono ?_
  rintro e w2 hq
  unfold Parse_r at hq
  rw [HH.out] at hq
  obtain ⟨rfl, hb⟩ := hq
  have HB := Lib.hid (HB.out.trans (hb.mono HB.out.size))
  have HGP := Lib.hid (parse_any p w2 (HA.out.below HB.out) (by omega))
  clear hb d1 d2 d3 d4
  go_wp2_with (fail)
  refine HGP.out.mono ?_
  rintro e w3 hq
  unfold Parse_p at hq
  rw [HH.out] at hq
  obtain ⟨rfl, hb⟩ := hq
  have HB := Lib.hid (HB.out.trans (hb.mono HB.out.size))
  have HF := Lib.hid (filter_any p ss (.slice a ss.length cap) w.heap.size w3 (HA.out.below HB.out) (by omega) (HSl.out w3 HB.out) HB.out.size hl HSZ.out)
  clear hb
  go_wp2_with (fail)
  refine HF.out.mono ?_
  rintro e w4 hq
  unfold Filter_p at hq
  rw [HH.out] at hq
  obtain ⟨rfl, hb⟩ := hq
  have HB := Lib.hid (HB.out.trans (hb.mono HB.out.size))
  clear hb
  go_wp2_with (fail)
  go_loopw [12] (fun i wr => ∃ j : Nat, i = .int .i64 j ∧ j ≤ ss.length ∧ Hid (Below w4.heap.size w4 wr)) (fun i _ => ss.length - (intOf i).toNat)
  case atStart => exact ⟨0, rfl, by omega, Lib.hid (Below.refl _ _)⟩
  case round =>
    obtain ⟨j, rfl, hj, HBR⟩ := hrel
    obtain ⟨wo, rfl⟩ : ∃ z : World, z = wr := ⟨_, rfl⟩
    have HZ := Lib.hid (HB.out.trans (HBR.out.mono HB.out.size))
    by_cases hlt : j < ss.length
    rotate_left
    · have d1 : decide (j < ss.length) = false := decide_eq_false (by omega)
      have d2 : decide ((j : Int) < (ss.length : Int)) = false := decide_eq_false (by omega)
      clear hlt
      go_wp2_with (fail)
      go_ret
      exact ⟨by rfl, HZ.out⟩
    have d1 : decide (j < ss.length) = true := decide_eq_true hlt
    have d2 : decide ((j : Int) < (ss.length : Int)) = true := decide_eq_true (by omega)
    have q1 : IntKind.i64.wrap ((j : Int) + 1) = (j : Int) + 1 := IntWalk.i64_in _ (by omega)
    obtain ⟨s, hsj⟩ : ∃ s, ss[j]? = some s := ⟨_, List.getElem?_eq_getElem hlt⟩
    obtain ⟨b, off, rfl, hk0⟩ := sl_cells (HSl.out wo HZ.out) (by omega)
    have HK : Hid (∀ W, Below w.heap.size w W → W.cell? ⟨b, off + j, none⟩ = some (.string s)) := Lib.hid (fun W hW => sl_same (HSl.out W hW) (by omega) _ _ (scells_get hsj))
    have HT := Lib.hid (take_snoc' hsj)
    have hsz := HSZ.out s (List.mem_of_getElem? hsj)
    have k1 := HK.out wo HZ.out
    clear hk0 hsj
    by_cases h200 : 200 < s.size
    · have d3 : decide (200 < s.size) = true := decide_eq_true h200
      have d4 : decide ((200 : Int) < (s.size : Int)) = true := decide_eq_true (by omega)
      clear h200
      go_wp2_with (fail)
      go_ret
      exact ⟨by rfl, HZ.out⟩
    have d3 : decide (200 < s.size) = false := decide_eq_false h200
    have d4 : decide ((200 : Int) < (s.size : Int)) = false := decide_eq_false (by omega)
    have HSG := Lib.hid (signs_any s wo (by omega))
    go_wp2_with (fail)
    refine HSG.out.mono ?_
    rintro e w5 hq
    unfold Signs_r at hq
    clear k1 d3 d4
    have HGM := Lib.hid (fun (W : World) (hW : Below w.heap.size w W) => gmatch_any p s W (HA.out.below hW) (by omega) (by omega))
    have HG0 := Lib.hid (gm_none (s := s) HH.out)
    have hgm : GM p s = .tuple #[.bool false, .int .i64 40] := by unfold GM; rw [HG0.out]
    rw [hgm] at HGM
    clear hgm
    have HQ : ∃ sv b, e = .returned (.tuple #[sv, .bool b]) ∧ (∃ a n c, sv = .slice a n c) ∧ Below wo.heap.size wo w5 := by
      cases hs : sg s.data.toList with
      | none => rw [hs] at hq; exact ⟨_, _, hq.1, ⟨_, _, _, rfl⟩, hq.2⟩
      | some l =>
        rw [hs] at hq
        obtain ⟨⟨v', he, hr⟩, hb⟩ := hq
        obtain ⟨a', c', rfl, _⟩ := hr.form
        exact ⟨_, _, he, ⟨_, _, _, rfl⟩, hb⟩
    obtain ⟨sv, sb, rfl, ⟨a', n', c', rfl⟩, hb⟩ := HQ
    have HBR := Lib.hid (HBR.out.trans (hb.mono HBR.out.size))
    have HZ := Lib.hid (HZ.out.trans (hb.mono HZ.out.size))
    have k1 := HK.out w5 HZ.out
    have HMC := Lib.hid (HGM.out w5 HZ.out)
    clear hb hq
    go_wp2_with (fail)
    refine HMC.out.mono ?_
    rintro e w6 ⟨rfl, hb⟩
    have HBR := Lib.hid (HBR.out.trans (hb.mono HBR.out.size))
    clear hb k1
    go_wp2_with (fail)
    go_roundw
    case rel => exact ⟨j + 1, rfl, hlt, HBR⟩
    case measure => simp [intOf] <;> omega
set_option maxHeartbeats 8000000 in
theorem matches_some (p : ByteArray) (ps : List PartV) (ss : List ByteArray) (v : Value) (w : World) (hA : Amb w) (hm : p.size ≤ 9223372036854775807) (hS : Sl w w.heap.size 1 v ss.length (scells ss)) (hl : ss.length ≤ 2000000) (hs : ∀ s ∈ ss, s.size ≤ 2000000) (h : pars p = some ps) :
    Calls Tryd.prog 5 #[.string p, v] w fun e w' => e = .returned (.bool true) ∧ Below w.heap.size w w' := by
  have HW := Lib.hid (gawake w hA)
  have HA := Lib.hid hA
  obtain ⟨a, cap, rfl, hcap⟩ := hS.form
  have HSl := Lib.hid (fun (W : World) (hW : Below w.heap.size w W) => hS.below hW)
  have HSZ := Lib.hid hs
  have HH := Lib.hid h
  clear hA hS hs h
  go_enter Tryd.func5, Tryd.ntmps5
  go_wp2_with (fail)
  refine HW.out.mono ?_
  rintro e w1 ⟨rfl, hb⟩
  have HB := Lib.hid hb
  clear hb HW
  by_cases h3 : 300 < p.size
  · have d1 : decide (300 < p.size) = true := decide_eq_true h3
    have d2 : decide ((300 : Int) < (p.size : Int)) = true := decide_eq_true (by omega)
    clear h3
    go_wp2_with (fail)
    go_ret
    exact ⟨by rfl, HB.out⟩
  have d1 : decide (300 < p.size) = false := decide_eq_false h3
  have d2 : decide ((300 : Int) < (p.size : Int)) = false := decide_eq_false (by omega)
  by_cases h20 : 20 < ss.length
  · have d3 : decide (20 < ss.length) = true := decide_eq_true h20
    have d4 : decide ((20 : Int) < (ss.length : Int)) = true := decide_eq_true (by omega)
    clear h20
    go_wp2_with (fail)
    go_ret
    exact ⟨by rfl, HB.out⟩
  have d3 : decide (20 < ss.length) = false := decide_eq_false h20
  have d4 : decide ((20 : Int) < (ss.length : Int)) = false := decide_eq_false (by omega)
  have HRP := Lib.hid (refParse_any p w1 (by omega))
  go_wp2_with (fail)
  refine HRP.out.mono ?_
  rintro e w2 hq
  unfold Parse_r at hq
  rw [HH.out] at hq
  obtain ⟨hp1, hp2⟩ := pars_bd HH.out
  have HPB := Lib.hid hp2
  obtain ⟨⟨rv, rfl, hro⟩, hb⟩ := hq
  have HB := Lib.hid (HB.out.trans (hb.mono HB.out.size))
  have HRP := Lib.hid hro.pat
  obtain ⟨ra, rc, rfl, hrc⟩ := hro.form
  have HGP := Lib.hid (parse_any p w2 (HA.out.below HB.out) (by omega))
  clear hb d1 d2 d3 d4 hro hp2
  go_wp2_with (fail)
  refine HGP.out.mono ?_
  rintro e w3 hq
  unfold Parse_p at hq
  rw [HH.out] at hq
  obtain ⟨⟨gv, rfl, hgo⟩, hb⟩ := hq
  have HB := Lib.hid (HB.out.trans (hb.mono HB.out.size))
  have HRP := Lib.hid (HRP.out.below hb)
  have hz23 := hb.size
  have HGPT := Lib.hid hgo.pat
  obtain ⟨ga, gc, rfl, hgc⟩ := hgo.form
  have HF := Lib.hid (filter_any p ss (.slice a ss.length cap) w.heap.size w3 (HA.out.below HB.out) (by omega) (HSl.out w3 HB.out) HB.out.size hl HSZ.out)
  clear hb hgo
  go_wp2_with (fail)
  refine HF.out.mono ?_
  rintro e w4 hq
  unfold Filter_p at hq
  rw [HH.out] at hq
  obtain ⟨⟨fv, rfl, hfr⟩, hb⟩ := hq
  have HB := Lib.hid (HB.out.trans (hb.mono HB.out.size))
  have hz34 := hb.size
  have HFR := Lib.hid hfr.sl
  obtain ⟨fva, fvc, rfl, hfvc⟩ := hfr.form
  have HMR := Lib.hid (fun (l : List Int) (sv : Value) (B' : Nat) (W : World) (hW : Below w4.heap.size w4 W) (hsv : Sl W B' 1 sv l.length (icells l)) (hB' : B' ≤ W.heap.size) (hll : l.length ≤ 2000000) =>
    refMatch_any ps (.slice ra ps.length rc) sv w2.heap.size B' l W ((HRP.out.below (hb.mono hz23)).below (hW.mono (by omega))) (by have := hW.size; omega) hsv hB' (by omega) (fun q hq => by have := (HPB.out q hq).1; omega) hll)
  have HMG := Lib.hid (fun (s : ByteArray) (W : World) (hW : Below w4.heap.size w4 W) (hsz : s.size ≤ 2000000) =>
    match_any (.slice ga ps.length gc) ps w3.heap.size s W (HA.out.below (HB.out.trans (hW.mono HB.out.size))) hsz ((HGPT.out.below hb).below (hW.mono (by omega))) (by have := hW.size; omega) (by omega) (fun q hq => by have := (HPB.out q hq).1; omega))
  clear hb hfr
  have hlen4 : (ss.filter (mtch ps)).length ≤ ss.length := List.length_filter_le _ _
  go_wp2_with (fail)
  go_loopw [11, 12] (fun fv i wr => ∃ j : Nat, i = .int .i64 j ∧ j ≤ ss.length ∧ Hid (Row w4.heap.size 9 1 wr fv ((ss.take j).filter (mtch ps)).length (scells ((ss.take j).filter (mtch ps)))) ∧ Hid (Below w4.heap.size w4 wr)) (fun _ i _ => ss.length - (intOf i).toNat)
  case atStart => exact ⟨0, rfl, by omega, Lib.hid Row.nil, Lib.hid (Below.refl _ _)⟩
  case round =>
    obtain ⟨j, rfl, hj, HR, HBR⟩ := hrel
    obtain ⟨wo, rfl⟩ : ∃ z : World, z = wr := ⟨_, rfl⟩
    obtain ⟨fa, fc, rfl, hfc⟩ := HR.out.form
    have HZ := Lib.hid (HB.out.trans (HBR.out.mono HB.out.size))
    by_cases hlt : j < ss.length
    rotate_left
    · have d1 : decide (j < ss.length) = false := decide_eq_false (by omega)
      have d2 : decide ((j : Int) < (ss.length : Int)) = false := decide_eq_false (by omega)
      have hsl := HR.out.sl
      rw [List.take_of_length_le (show ss.length ≤ j by omega)] at hsl
      have hln : ((ss.take j).filter (mtch ps)).length = (ss.filter (mtch ps)).length := by rw [List.take_of_length_le (show ss.length ≤ j by omega)]
      rw [hln]
      have HSM := Lib.hid (same33_any (ss.filter (mtch ps)) w4.heap.size wo.heap.size (.slice fva (ss.filter (mtch ps)).length fvc) (.slice fa (ss.filter (mtch ps)).length fc) wo (HFR.out.below HBR.out) hsl HBR.out.size (Nat.le_refl _) (by omega))
      clear hlt hln hsl HR
      generalize (ss.filter (mtch ps)).length = n at *
      go_wp2_with (fail)
      refine HSM.out.mono ?_
      rintro e w5 ⟨rfl, hb⟩
      have HZ := Lib.hid (HZ.out.trans (hb.mono HZ.out.size))
      clear hb
      go_wp2_with (fail)
      go_ret
      exact ⟨by rfl, HZ.out⟩
    have d1 : decide (j < ss.length) = true := decide_eq_true hlt
    have d2 : decide ((j : Int) < (ss.length : Int)) = true := decide_eq_true (by omega)
    have q1 : IntKind.i64.wrap ((j : Int) + 1) = (j : Int) + 1 := IntWalk.i64_in _ (by omega)
    obtain ⟨s, hsj⟩ : ∃ s, ss[j]? = some s := ⟨_, List.getElem?_eq_getElem hlt⟩
    obtain ⟨b, off, rfl, hk0⟩ := sl_cells (HSl.out wo HZ.out) (by omega)
    have HK : Hid (∀ W, Below w.heap.size w W → W.cell? ⟨b, off + j, none⟩ = some (.string s)) := Lib.hid (fun W hW => sl_same (HSl.out W hW) (by omega) _ _ (scells_get hsj))
    have HT := Lib.hid (take_snoc' hsj)
    have hsz := HSZ.out s (List.mem_of_getElem? hsj)
    have k1 := HK.out wo HZ.out
    clear hk0 hsj
    by_cases h200 : 200 < s.size
    · have d3 : decide (200 < s.size) = true := decide_eq_true h200
      have d4 : decide ((200 : Int) < (s.size : Int)) = true := decide_eq_true (by omega)
      clear h200
      go_wp2_with (fail)
      go_ret
      exact ⟨by rfl, HZ.out⟩
    have d3 : decide (200 < s.size) = false := decide_eq_false h200
    have d4 : decide ((200 : Int) < (s.size : Int)) = false := decide_eq_false (by omega)
    have HSG := Lib.hid (signs_any s wo (by omega))
    go_wp2_with (fail)
    refine HSG.out.mono ?_
    rintro e w5 hq
    unfold Signs_r at hq
    clear k1 d3 d4
    have HGM := Lib.hid (fun (W : World) (hW : Below w.heap.size w W) => gmatch_any p s W (HA.out.below hW) (by omega) (by omega))
    have HG1 := Lib.hid (gm_some (s := s) HH.out)
    have hgm : GM p s = .tuple #[.bool (mtch ps s), .int .i64 0] := by unfold GM; rw [HG1.out]
    rw [hgm] at HGM
    have hln : ((ss.take j).filter (mtch ps)).length ≤ ss.length := Nat.le_trans (List.length_filter_le _ _) (by rw [List.length_take]; omega)
    clear hgm HG1
    cases hs : sg s.data.toList with
    | none =>
      rw [hs] at hq
      have hm : mtch ps s = false := by unfold mtch; rw [hs]
      have HN : Hid ((ss.take (j + 1)).filter (mtch ps) = (ss.take j).filter (mtch ps)) := Lib.hid (by rw [HT.out, List.filter_append]; simp [hm])
      obtain ⟨rfl, hb⟩ := hq
      have HBR := Lib.hid (HBR.out.trans (hb.mono HBR.out.size))
      have HZ := Lib.hid (HZ.out.trans (hb.mono HZ.out.size))
      have HR := Lib.hid (HR.out.below hb)
      clear hb
      have HMS := Lib.hid (HMG.out s)
      rw [hm] at HGM HMS
      clear hs hm
      have k1 := HK.out w5 HZ.out
      have HMC := Lib.hid (HGM.out w5 HZ.out)
      go_wp2_with (fail)
      refine HMC.out.mono ?_
      rintro e w6 ⟨rfl, hb⟩
      have HBR := Lib.hid (HBR.out.trans (hb.mono HBR.out.size))
      have HZ := Lib.hid (HZ.out.trans (hb.mono HZ.out.size))
      have HR := Lib.hid (HR.out.below hb)
      clear hb
      clear k1 HMC
      have k1 := HK.out w6 HZ.out
      have HMM := Lib.hid (HMS.out w6 HBR.out hsz)
      go_wp2_with (fail)
      refine HMM.out.mono ?_
      rintro e w7 ⟨rfl, hb⟩
      have HBR := Lib.hid (HBR.out.trans (hb.mono HBR.out.size))
      have HZ := Lib.hid (HZ.out.trans (hb.mono HZ.out.size))
      have HR := Lib.hid (HR.out.below hb)
      clear hb
      rw [← HN.out] at HR
      clear k1 HMM
      go_wp2_with (fail)
      go_roundw
      case rel => exact ⟨j + 1, rfl, hlt, (by rw [← HN.out]; exact HR), HBR⟩
      case measure => simp [intOf] <;> omega
    | some l =>
      rw [hs] at hq
      obtain ⟨⟨lv, rfl, hr⟩, hb⟩ := hq
      obtain ⟨la, lc, rfl, hlc⟩ := hr.form
      have hll : l.length ≤ 2000000 := by
        have h1 := sg_length hs
        have h2 : s.data.toList.length = s.size := Array.length_toList
        omega
      have hsl := hr.sl
      have hmg : M ps l = mtch ps s := (mtch_good ps hs).symm
      have HBR := Lib.hid (HBR.out.trans (hb.mono HBR.out.size))
      have HZ := Lib.hid (HZ.out.trans (hb.mono HZ.out.size))
      have HR := Lib.hid (HR.out.below hb)
      clear hb
      have HMRC := Lib.hid (HMR.out l _ w5.heap.size w5 HBR.out hsl (Nat.le_refl _) hll)
      rw [hmg] at HMRC
      have HMS := Lib.hid (HMG.out s)
      clear hs hr hsl hmg
      generalize l.length = ln at *
      cases hm : mtch ps s with
      | false =>
        have HN : Hid ((ss.take (j + 1)).filter (mtch ps) = (ss.take j).filter (mtch ps)) := Lib.hid (by rw [HT.out, List.filter_append]; simp [hm])
        rw [hm] at HMRC HGM HMS
        clear hm
        go_wp2_with (fail)
        refine HMRC.out.mono ?_
        rintro e w6 ⟨rfl, hb⟩
        have HBR := Lib.hid (HBR.out.trans (hb.mono HBR.out.size))
        have HZ := Lib.hid (HZ.out.trans (hb.mono HZ.out.size))
        have HR := Lib.hid (HR.out.below hb)
        clear hb
        clear HMRC
        have k1 := HK.out w6 HZ.out
        have HMC := Lib.hid (HGM.out w6 HZ.out)
        go_wp2_with (fail)
        refine HMC.out.mono ?_
        rintro e w7 ⟨rfl, hb⟩
        have HBR := Lib.hid (HBR.out.trans (hb.mono HBR.out.size))
        have HZ := Lib.hid (HZ.out.trans (hb.mono HZ.out.size))
        have HR := Lib.hid (HR.out.below hb)
        clear hb
        clear k1 HMC
        have k1 := HK.out w7 HZ.out
        have HMM := Lib.hid (HMS.out w7 HBR.out hsz)
        go_wp2_with (fail)
        refine HMM.out.mono ?_
        rintro e w8 ⟨rfl, hb⟩
        have HBR := Lib.hid (HBR.out.trans (hb.mono HBR.out.size))
        have HZ := Lib.hid (HZ.out.trans (hb.mono HZ.out.size))
        have HR := Lib.hid (HR.out.below hb)
        clear hb
        rw [← HN.out] at HR
        clear k1 HMM
        go_wp2_with (fail)
        go_roundw
        case rel => exact ⟨j + 1, rfl, hlt, (by rw [← HN.out]; exact HR), HBR⟩
        case measure => simp [intOf] <;> omega
      | true =>
        have HN : Hid ((ss.take (j + 1)).filter (mtch ps) = (ss.take j).filter (mtch ps) ++ [s]) := Lib.hid (by rw [HT.out, List.filter_append]; simp [hm])
        rw [hm] at HMRC HGM HMS
        clear hm
        go_wp2_with (fail)
        refine HMRC.out.mono ?_
        rintro e w6 ⟨rfl, hb⟩
        have HBR := Lib.hid (HBR.out.trans (hb.mono HBR.out.size))
        have HZ := Lib.hid (HZ.out.trans (hb.mono HZ.out.size))
        have HR := Lib.hid (HR.out.below hb)
        clear hb
        clear HMRC
        have k1 := HK.out w6 HZ.out
        have HMC := Lib.hid (HGM.out w6 HZ.out)
        go_wp2_with (fail)
        refine HMC.out.mono ?_
        rintro e w7 ⟨rfl, hb⟩
        have HBR := Lib.hid (HBR.out.trans (hb.mono HBR.out.size))
        have HZ := Lib.hid (HZ.out.trans (hb.mono HZ.out.size))
        have HR := Lib.hid (HR.out.below hb)
        clear hb
        clear k1 HMC
        have k1 := HK.out w7 HZ.out
        have HMM := Lib.hid (HMS.out w7 HBR.out hsz)
        go_wp2_with (fail)
        refine HMM.out.mono ?_
        rintro e w8 ⟨rfl, hb⟩
        have HBR := Lib.hid (HBR.out.trans (hb.mono HBR.out.size))
        have HZ := Lib.hid (HZ.out.trans (hb.mono HZ.out.size))
        have HR := Lib.hid (HR.out.below hb)
        clear hb
        clear k1 HMM
        have k1 := HK.out w8 HZ.out
        have hA2 := (Below.refl w8.heap.size w8).alloc (Nat.le_refl _) (.cells #[.string s] 9)
        have HR := Lib.hid (HR.out.below hA2)
        have hz2 : w4.heap.size ≤ w8.heap.size := HBR.out.size
        have HBR2 := Lib.hid (HBR.out.trans (hA2.mono hz2))
        generalize ((ss.take j).filter (mtch ps)) = L at *
        clear hA2 HBR
        go_wp2_with (at_builtin; refine append_row Tryd.underlying41 info_string rfl (by decide) rfl _ _ rfl rfl HR.out rfl (Sl.new _ 1 1 [.string s] 9 rfl) (str_one _) ?_ ?_ ?_ ?_; omega; omega; (simp; omega))
        intro v7 w9 hr7 hb7
        have HR : Hid (Row w4.heap.size 9 1 w9 v7 ((ss.take (j + 1)).filter (mtch ps)).length (scells ((ss.take (j + 1)).filter (mtch ps)))) := Lib.hid (by
          rw [HN.out]
          unfold scells
          rw [List.map_append, List.length_append]
          exact hr7)
        have HBR := Lib.hid (HBR2.out.trans hb7)
        clear hr7 hb7
        go_wp2_with (fail)
        go_roundw
        case rel => exact ⟨j + 1, rfl, hlt, HR, HBR⟩
        case measure => simp [intOf] <;> omega

end Go.Proofs.YtlmdpmfahfgjkaaDoor
