/- The reference's Search. -/
import Derived.Test.YtmcbgjkogggneaaDoorLsJ
namespace Go.Proofs.YtmcbgjkogggneaaDoor
set_option maxRecDepth 100000
set_option linter.unusedVariables false
set_option linter.unusedSimpArgs false
open Go.RowKit
/-- An operation whose guard says yes, without its guard. -/
theorem wpList_open {P : Program} {ops : Array Oper} {Q : Exit → Act → World → Prop} {a : Act} {w : World} {rest : List Oper} {o : Oper} (hw : Region.wanted o (yielded ops a.tmps) = true) (h : wpList P ops Q ({ o with guard := none } :: rest) a w) : wpList P ops Q (o :: rest) a w := by
  unfold wpList at h ⊢
  rw [if_pos hw]
  rw [if_pos (show Region.wanted { o with guard := none } (yielded ops a.tmps) = true from rfl)] at h
  exact h
def ocells (o : List Nat) : List Value := o.map fun i => .int .i64 (i : Nat)
theorem ocells_eq (o : List Nat) : ocells o = icellsI o.length (toI (at0 o)) := by
  unfold ocells icellsI toI at0
  refine List.ext_getElem? fun k => ?_
  by_cases h : k < o.length
  · rw [List.getElem?_map, List.getElem?_map, List.getElem?_range h]
    simp [List.getElem?_eq_getElem h]
  · rw [List.getElem?_eq_none (by simp; omega), List.getElem?_eq_none (by simp; omega)]
theorem ocells_one (o : List Nat) : ∀ u ∈ ocells o, u.oneCell' = true := by
  intro u hu
  unfold ocells at hu
  obtain ⟨i, _, rfl⟩ := List.mem_map.1 hu
  rfl
theorem ocells_snoc (o : List Nat) (i : Nat) : ocells o ++ [.int .i64 (i : Nat)] = ocells (o ++ [i]) := by unfold ocells; simp
theorem CallsAt.up {w : World} {B B' n : Nat} {v : Value} {cv : Nat → CallV} {nm : Nat → List ByteArray} (h : CallsAt w B n v cv nm) (hB : B ≤ B') : CallsAt w B' n v cv nm :=
  ⟨h.sl.mono hB, h.name, h.len, fun k hk => (h.names k hk).mono hB, h.few⟩
/-- Behind an order so far, may is what the program looks at, too. -/
theorem mayP_iff {n : Nat} {cv : Nat → CallV} {nm : Nat → List ByteArray} {o : List Nat} {i : Nat} (hg : Gd n cv nm o) (hi : i < n) (hio : i ∉ o) : MayP n o.length cv nm (at0 (o ++ [i])) ↔ goB n cv nm o i = true := by
  obtain ⟨h1, h2, h3, _⟩ := hg.facts
  have e0 : at0 (o ++ [i]) o.length = i := at0_snoc o i
  have hst : st cv nm (at0 (o ++ [i])) o.length = stL cv nm o := st_congr cv nm (fun k hk => at0_app [i] hk)
  have hs1 : (st cv nm (at0 (o ++ [i])) (o.length + 1)).2 = tlB cv nm o i := by
    rw [st_succ, hst, h3, e0]
    rfl
  unfold MayP goB
  rw [hs1, e0, Bool.and_eq_true, nxB_iff]
  have hmem : ∀ k, (∃ q, q < o.length + 1 ∧ at0 (o ++ [i]) q = k) ↔ k ∈ o ∨ k = i := by
    intro k
    constructor
    · rintro ⟨q, hq, e⟩
      by_cases hqo : q = o.length
      · subst hqo; right; rw [← e, e0]
      · left
        rw [at0_app [i] (by omega)] at e
        exact e ▸ at0_mem (by omega)
    · rintro (hk | rfl)
      · obtain ⟨q, hq, e⟩ := mem_at0 hk
        exact ⟨q, by omega, by rw [at0_app [i] hq]; exact e⟩
      · exact ⟨o.length, by omega, e0⟩
  constructor
  · rintro ⟨a1, a2, a3⟩
    refine ⟨⟨hio, ?_, fun j hj hne hno => ?_⟩, a2⟩
    · have := a1 o.length (by omega)
      rwa [e0] at this
    · cases hb : befB (cv j) (cv i) with
      | false => rfl
      | true =>
        rcases (hmem j).1 (a3 j hj hne hb) with h | h
        · exact absurd h hno
        · exact absurd h hne
  · rintro ⟨⟨_, a1, a2⟩, a3⟩
    refine ⟨fun q hq => ?_, a3, fun k hk hne hb => ?_⟩
    · by_cases hqo : q = o.length
      · subst hqo; rw [e0]; exact a1
      · rw [at0_app [i] (by omega)]
        exact (h2 q (by omega)).1
    · rw [hmem]
      by_cases hko : k ∈ o
      · exact .inl hko
      · rw [a2 k hk hne hko] at hb
        cases hb
def RS_p (n : Nat) (cv : Nat → CallV) (nm : Nat → List ByteArray) (k : Nat) (o : List Nat) (w : World) (e : Ending) (w' : World) : Prop :=
  Below w.heap.size w w' ∧ ((srch n cv nm k o = none ∧ e = .returned (.tuple #[.slice none 0 0, .bool false])) ∨
    (∃ p v', srch n cv nm k o = some p ∧ e = .returned (.tuple #[v', .bool true]) ∧ Sl w' w'.heap.size 1 v' p.length (ocells p)))
theorem refFits_gd {n : Nat} {cv : Nat → CallV} {nm : Nat → List ByteArray} {o : List Nat} (hg : Gd n cv nm o) : RefFits n o.length cv nm (toI (at0 o)) ↔ mustN n cv o = 0 := (fits_iff n o.length cv nm (toI (at0 o))).trans hg.fits
set_option maxHeartbeats 8000000 in
theorem rs_zero (n : Nat) (cv : Nat → CallV) (nm : Nat → List ByteArray) (v u : Value) (k : Nat) (o : List Nat) (w : World) (h : CallsAt w w.heap.size n v cv nm) (hu : Sl w w.heap.size 1 u o.length (ocells o)) (hg : Gd n cv nm o) (hn : n ≤ 8) (hm : mustN n cv o = 0) :
    Calls Tryd.prog 18 #[v, u] w (RS_p n cv nm k o w) := by
  have hol : o.length ≤ 8 := by have := hg.facts.2.2.2; omega
  have HSZ : Hid (srch n cv nm k o = some o) := Lib.hid (srch_zero hm)
  have HF := Lib.hid (refFits_any n o.length cv nm (toI (at0 o)) v u _ w h (by rw [← ocells_eq]; exact hu) (Nat.le_refl _) (by omega) (by omega))
  have HY : Hid (RefFits n o.length cv nm (toI (at0 o))) := Lib.hid ((refFits_gd hg).2 hm)
  obtain ⟨a, cap, rfl, _⟩ := h.sl.form
  obtain ⟨a2, cap2, rfl, _⟩ := hu.form
  have HU := Lib.hid hu
  clear h hg hm hu
  go_enter Tryd.func18, Tryd.ntmps18
  go_wp2_with (fail)
  refine HF.out.mono ?_
  rintro e w1 ⟨b, rfl, hb, hb1⟩
  obtain rfl : b = true := hb.2 HY.out
  have HB1 := Lib.hid hb1
  clear hb hb1
  go_wp2_with (fail)
  go_ret2
  exact ⟨HB1.out, .inr ⟨o, _, HSZ.out, rfl, (HU.out.below HB1.out).mono HB1.out.size⟩⟩
set_option maxHeartbeats 16000000 in
theorem rs_step (n : Nat) (cv : Nat → CallV) (nm : Nat → List ByteArray) (v : Value) (k : Nat) (hn : n ≤ 8)
    (ih : ∀ (o : List Nat) (u : Value) (w : World), CallsAt w w.heap.size n v cv nm → Sl w w.heap.size 1 u o.length (ocells o) → Gd n cv nm o → unN n o ≤ k → Calls Tryd.prog 18 #[v, u] w (RS_p n cv nm k o w))
    (u : Value) (o : List Nat) (w : World) (h : CallsAt w w.heap.size n v cv nm) (hu : Sl w w.heap.size 1 u o.length (ocells o)) (hg : Gd n cv nm o) (hk : unN n o ≤ k + 1) (hm : ¬ mustN n cv o = 0) :
    Calls Tryd.prog 18 #[v, u] w (RS_p n cv nm (k + 1) o w) := by
  have hol : o.length ≤ 8 := by have := hg.facts.2.2.2; omega
  have HF := Lib.hid (refFits_any n o.length cv nm (toI (at0 o)) v u _ w h (by rw [← ocells_eq]; exact hu) (Nat.le_refl _) (by omega) (by omega))
  have HY : Hid (¬ RefFits n o.length cv nm (toI (at0 o))) := Lib.hid (fun q => hm ((refFits_gd hg).1 q))
  have HMZ := Lib.hid hm
  have HK := Lib.hid hk
  have HIH := Lib.hid ih
  have HGD := Lib.hid hg
  obtain ⟨a, cap, rfl, _⟩ := h.sl.form
  obtain ⟨a2, cap2, rfl, _⟩ := hu.form
  have HC := Lib.hid (fun (W : World) (hW : Below w.heap.size w W) => h.below hW)
  have HU := Lib.hid (fun (W : World) (hW : Below w.heap.size w W) => hu.below hW)
  have HLN : Hid (∀ x ∈ o, x < n) := Lib.hid hg.facts.1
  clear h hg hm hu ih hk
  obtain ⟨m, hm⟩ : ∃ m, o.length = m := ⟨_, rfl⟩
  rw [hm] at HF HY hol HU ⊢
  have HM := Lib.hid hm
  clear hm
  have d8 : decide (8 < m) = false := decide_eq_false (by omega)
  have d8i : decide ((8 : Int) < (m : Int)) = false := decide_eq_false (by omega)
  go_enter Tryd.func18, Tryd.ntmps18
  go_wp2_with (fail)
  refine HF.out.mono ?_
  rintro e w1 ⟨b, rfl, hb, hb1⟩
  obtain rfl : b = false := by
    cases b with
    | false => rfl
    | true => exact absurd (hb.1 rfl) HY.out
  have HB1 := Lib.hid hb1
  clear hb hb1 HF
  go_wp2_with (fail)
  go_loopw [6] (fun i wr => ∃ j : Nat, i = .int .i64 j ∧ j ≤ n ∧ Hid (Below w.heap.size w wr) ∧ Hid (∀ q, q < j → stp n cv nm k o q = none)) (fun i _ => n - (intOf i).toNat)
  case atStart => exact ⟨0, rfl, Nat.zero_le _, HB1, Lib.hid (fun q hq => by omega)⟩
  case round =>
    obtain ⟨j, rfl, hj, HB2, HAL⟩ := hrel
    obtain ⟨wo, rfl⟩ : ∃ z : World, z = wr := ⟨_, rfl⟩
    have hzo := HB2.out.size
    by_cases hlt : j < n
    rotate_left
    · have d1 : decide (j < n) = false := decide_eq_false hlt
      have d2 : decide ((j : Int) < (n : Int)) = false := decide_eq_false (by omega)
      have HNO : Hid (srch n cv nm (k + 1) o = none) := Lib.hid (srch_none HMZ.out fun q hq => HAL.out q (by omega))
      go_wp2_with (fail)
      go_ret2
      exact ⟨HB2.out, .inl ⟨HNO.out, rfl⟩⟩
    have d1 : decide (j < n) = true := decide_eq_true hlt
    have d2 : decide ((j : Int) < (n : Int)) = true := decide_eq_true (by omega)
    have q1 : IntKind.i64.wrap ((j : Int) + 1) = (j : Int) + 1 := IntWalk.i64_in _ (by omega)
    have HPL := Lib.hid (place_any m (toI (at0 o)) j _ w.heap.size wo (by have := HU.out wo HB2.out; rw [ocells_eq, HM.out] at this; exact this) (by omega))
    have HPS : Hid (0 ≤ placeF (toI (at0 o)) m j m ↔ j ∈ o) := Lib.hid (by
      rcases placeF_spec (toI (at0 o)) m j with ⟨h1, h2⟩ | ⟨i, h1, h2, h3, _⟩
      · rw [h1]
        refine ⟨fun h => by omega, fun h => ?_⟩
        obtain ⟨i, hi, e⟩ := mem_at0 h
        exact absurd (by unfold toI; rw [e]) (h2 i (by rw [← HM.out]; exact hi))
      · rw [h2]
        refine ⟨fun _ => ?_, fun _ => by omega⟩
        have e : at0 o i = j := Int.ofNat_inj.1 h3
        exact e ▸ at0_mem (by rw [HM.out]; exact h1))
    generalize placeF (toI (at0 o)) m j m = pl at *
    have HNX : Hid (stp n cv nm k o j = none → ∀ q, q < j + 1 → stp n cv nm k o q = none) := Lib.hid (fun h q hq => by
      by_cases e : q = j
      · subst e; exact h
      · exact HAL.out q (by omega))
    by_cases hpl : 0 ≤ pl
    · have e1 : decide (0 ≤ pl) = true := decide_eq_true hpl
      have HAL2 := Lib.hid (HNX.out (by
        have hjo := HPS.out.1 hpl
        have : goB n cv nm o j = false := by unfold goB nxB; rw [decide_eq_true hjo]; rfl
        unfold stp
        rw [this]
        rfl))
      clear hpl
      go_wp2_with (go_at_call 24; refine HPL.out.mono ?_; rintro e w' ⟨rfl, rfl⟩)
      go_roundw
      case rel => exact ⟨j + 1, rfl, by omega, HB2, HAL2⟩
      case measure => simp [intOf] <;> omega
    have e1 : decide (0 ≤ pl) = false := decide_eq_false hpl
    have HJO : Hid (j ∉ o) := Lib.hid (fun h => hpl (HPS.out.2 h))
    clear hpl
    have hbA : Below wo.heap.size wo (wo.alloc (.cells #[] 3)) := (Below.refl _ _).alloc (Nat.le_refl _) _
    have HRE := Lib.hid (Row.empty (base := wo.heap.size) (e := 3) (size := 1) wo (Nat.le_refl _))
    have HBA : Hid (Below w.heap.size w (wo.alloc (.cells #[] 3))) := Lib.hid (HB2.out.trans (hbA.mono hzo))
    have HZA : Hid (wo.heap.size ≤ (wo.alloc (.cells #[] 3)).heap.size) := Lib.hid hbA.size
    have HUA := Lib.hid (HU.out _ HBA.out)
    have hmay := mayP_iff HGD.out hlt HJO.out
    rw [HM.out] at hmay
    have HMAY := Lib.hid hmay
    have HUN : Hid (unN n (o ++ [j]) ≤ k) := Lib.hid (by
      have hjo := HJO.out
      have : unN n (o ++ [j]) + 1 = unN n o := cntN_strike hlt (by simpa using hjo) (by simp) (fun q hq => by simp [hq])
      have := HK.out
      omega)
    have hj1 : (o ++ [j]).length = m + 1 := by rw [List.length_append, HM.out]; rfl
    have HJ1 := Lib.hid hj1
    clear hbA hmay hj1
    go_wp2_with (first
      | (go_at_call 24; refine HPL.out.mono ?_; rintro e w' ⟨rfl, hw'⟩; rw [hw']; clear hw')
      | (at_builtin; refine wpList_open (by rfl) ?_; refine append_row (base := wo.heap.size) (size := 1) (xs := []) (n := 0) Tryd.underlying23 info_int43 rfl (by decide) rfl _ _ rfl rfl HRE.out rfl HUA.out (ocells_one o) (by omega) (by omega) HZA.out ?_
         intro vB wB hrB hbB
         have HRB : Hid (Row wo.heap.size 3 1 wB vB m (ocells o)) := Lib.hid (by simpa using hrB)
         have HBB : Hid (Below wo.heap.size wo wB) := Lib.hid (((Below.refl _ wo).alloc (Nat.le_refl _) _).trans hbB)
         have hbC : Below wB.heap.size wB (wB.alloc (.cells #[.int .i64 (j : Nat)] 3)) := (Below.refl _ _).alloc (Nat.le_refl _) _
         have HRC := Lib.hid (HRB.out.below hbC)
         have HBC : Hid (Below wo.heap.size wo (wB.alloc (.cells #[.int .i64 (j : Nat)] 3))) := Lib.hid (HBB.out.trans (hbC.mono HBB.out.size))
         have HZC : Hid (wo.heap.size ≤ (wB.alloc (.cells #[.int .i64 (j : Nat)] 3)).heap.size) := Lib.hid HBC.out.size
         clear hrB hbB hbC)
      | (at_builtin; refine wpList_open (by rfl) ?_; refine append_row (base := wo.heap.size) (size := 1) Tryd.underlying23 info_int43 rfl (by decide) rfl _ _ rfl rfl HRC.out rfl (Sl.new wB 1 1 [.int .i64 (j : Nat)] 3 rfl) (by intro u hu; simp at hu; subst hu; rfl) (by omega) (by omega) HZC.out ?_
         intro vD wD hrD hbD
         have HRD : Hid (Row wo.heap.size 3 1 wD vD (m + 1) (ocells o ++ [.int .i64 (j : Nat)])) := Lib.hid hrD
         have HBD : Hid (Below wo.heap.size wo wD) := Lib.hid (HBC.out.trans hbD)
         clear hrD hbD))
    clear HRE HBA HZA HUA HPL
    have HBWD : Hid (Below w.heap.size w wD) := Lib.hid (HB2.out.trans (HBD.out.mono hzo))
    have HMC := Lib.hid (may_any n m cv nm (at0 (o ++ [j])) (.slice a n cap) vD wD.heap.size wD ((HC.out wD HBWD.out).up HBWD.out.size) (by
      have := HRD.out.sl
      rw [ocells_snoc, ocells_eq, HJ1.out] at this
      exact this) (fun i hi => by
      rcases List.mem_append.1 (at0_mem (o := o ++ [j]) (i := i) (by rw [HJ1.out]; exact hi)) with h | h
      · exact HLN.out _ h
      · simp at h; omega) (Nat.le_refl _) (by omega) (by omega))
    refine HMC.out.mono ?_
    rintro e wE ⟨bE, rfl, hbE, hbwE⟩
    have HBWE : Hid (Below w.heap.size w wE) := Lib.hid (HBWD.out.trans (hbwE.mono HBWD.out.size))
    have hgoE : goB n cv nm o j = bE := by
      cases bE with
      | true => exact HMAY.out.1 (hbE.1 rfl)
      | false =>
        cases hq : goB n cv nm o j with
        | false => rfl
        | true => have := hbE.2 (HMAY.out.2 hq); cases this
    have HGO := Lib.hid hgoE
    have hzE := HBWE.out.size
    clear hbE hbwE hgoE HMC HMAY HRD HRB HRC HBB HBC HZC HBD
    cases bE with
    | false =>
      have HAL2 := Lib.hid (HNX.out (by unfold stp; rw [HGO.out]; rfl))
      go_wp2_with (fail)
      go_roundw
      case rel => exact ⟨j + 1, rfl, by omega, HBWE, HAL2⟩
      case measure => simp [intOf] <;> omega
    | true =>
      have hbF : Below wE.heap.size wE (wE.alloc (.cells #[] 3)) := (Below.refl _ _).alloc (Nat.le_refl _) _
      have HRF := Lib.hid (Row.empty (base := wE.heap.size) (e := 3) (size := 1) wE (Nat.le_refl _))
      have HBF : Hid (Below w.heap.size w (wE.alloc (.cells #[] 3))) := Lib.hid (HBWE.out.trans (hbF.mono hzE))
      have HZF : Hid (wE.heap.size ≤ (wE.alloc (.cells #[] 3)).heap.size) := Lib.hid hbF.size
      have HUF := Lib.hid (HU.out _ HBF.out)
      clear hbF
      go_wp2_with (first
        | (at_builtin; refine append_row (base := wE.heap.size) (size := 1) (xs := []) (n := 0) Tryd.underlying23 info_int43 rfl (by decide) rfl _ _ rfl rfl HRF.out rfl HUF.out (ocells_one o) (by omega) (by omega) HZF.out ?_
           intro vG wG hrG hbG
           have HRG : Hid (Row wE.heap.size 3 1 wG vG m (ocells o)) := Lib.hid (by simpa using hrG)
           have HBG : Hid (Below wE.heap.size wE wG) := Lib.hid (((Below.refl _ wE).alloc (Nat.le_refl _) _).trans hbG)
           have hbH : Below wG.heap.size wG (wG.alloc (.cells #[.int .i64 (j : Nat)] 3)) := (Below.refl _ _).alloc (Nat.le_refl _) _
           have HRH := Lib.hid (HRG.out.below hbH)
           have HBH : Hid (Below wE.heap.size wE (wG.alloc (.cells #[.int .i64 (j : Nat)] 3))) := Lib.hid (HBG.out.trans (hbH.mono HBG.out.size))
           have HZH : Hid (wE.heap.size ≤ (wG.alloc (.cells #[.int .i64 (j : Nat)] 3)).heap.size) := Lib.hid HBH.out.size
           clear hrG hbG hbH)
        | (at_builtin; refine append_row (base := wE.heap.size) (size := 1) Tryd.underlying23 info_int43 rfl (by decide) rfl _ _ rfl rfl HRH.out rfl (Sl.new wG 1 1 [.int .i64 (j : Nat)] 3 rfl) (by intro u hu; simp at hu; subst hu; rfl) (by omega) (by omega) HZH.out ?_
           intro vI wI hrI hbI
           have HRI : Hid (Row wE.heap.size 3 1 wI vI (m + 1) (ocells o ++ [.int .i64 (j : Nat)])) := Lib.hid hrI
           have HBI : Hid (Below wE.heap.size wE wI) := Lib.hid (HBH.out.trans hbI)
           clear hrI hbI))
      clear HRF HBF HZF HUF HRG HRH HBG HBH HZH
      have HBWI : Hid (Below w.heap.size w wI) := Lib.hid (HBWE.out.trans (HBI.out.mono hzE))
      have HRC := Lib.hid (HIH.out (o ++ [j]) vI wI ((HC.out wI HBWI.out).up HBWI.out.size) (by
        have := HRI.out.sl
        rw [ocells_snoc] at this
        rw [HJ1.out]
        exact this) (Gd.snoc HGD.out hlt HGO.out) HUN.out)
      refine HRC.out.mono ?_
      rintro e wJ ⟨hbJ, hres⟩
      have HBWJ : Hid (Below w.heap.size w wJ) := Lib.hid (HBWI.out.trans (hbJ.mono HBWI.out.size))
      have HSTP : Hid (stp n cv nm k o j = srch n cv nm k (o ++ [j])) := Lib.hid (by unfold stp; rw [HGO.out]; rfl)
      clear hbJ HRC HRI HBI
      rcases hres with ⟨hno, rfl⟩ | ⟨p, v', hp, rfl, hsl⟩
      · have HAL2 := Lib.hid (HNX.out (HSTP.out.trans hno))
        clear hno
        go_wp2_with (fail)
        go_roundw
        case rel => exact ⟨j + 1, rfl, by omega, HBWJ, HAL2⟩
        case measure => simp [intOf] <;> omega
      · have HSO : Hid (srch n cv nm (k + 1) o = some p) := Lib.hid (srch_some HMZ.out hlt HAL.out (HSTP.out.trans hp))
        have HSL := Lib.hid hsl
        clear hp hsl
        go_wp2_with (fail)
        go_ret2
        exact ⟨HBWJ.out, .inr ⟨p, v', HSO.out, rfl, HSL.out⟩⟩
theorem rs_any (n : Nat) (cv : Nat → CallV) (nm : Nat → List ByteArray) (v : Value) (hn : n ≤ 8) : ∀ (k : Nat) (o : List Nat) (u : Value) (w : World), CallsAt w w.heap.size n v cv nm → Sl w w.heap.size 1 u o.length (ocells o) → Gd n cv nm o → unN n o ≤ k → Calls Tryd.prog 18 #[v, u] w (RS_p n cv nm k o w) := by
  intro k
  induction k with
  | zero =>
    intro o u w h hu hg hk
    exact rs_zero n cv nm v u 0 o w h hu hg hn (by have := must_le_un n cv o; omega)
  | succ k ih =>
    intro o u w h hu hg hk
    by_cases hm : mustN n cv o = 0
    · exact rs_zero n cv nm v u (k + 1) o w h hu hg hn hm
    · exact rs_step n cv nm v k hn ih u o w h hu hg hk hm
end Go.Proofs.YtmcbgjkogggneaaDoor
