/- The page's set. -/
import Derived.Test.YtlmdpmfahfgjkaaDoorGlE
namespace Go.Proofs.YtlmdpmfahfgjkaaDoor
set_option maxRecDepth 100000
set_option linter.unusedVariables false
set_option linter.unusedSimpArgs false
open Go.RowKit
set_option maxHeartbeats 16000000 in
theorem refSet_core (b off cap : Nat) (l : List Int) (i0 i1 : Nat) (g : Bool) (w : World) (hc : SgC .i64 w b off l) (hb : b < w.heap.size) (hl : l.length ≤ 2000000) (hi : i0 ≤ l.length) (hi1 : i1 ≤ l.length)
    (hnot : (g = true ∧ i0 < l.length ∧ l[i0]? = some 33) ∨ (g = false ∧ (l.length ≤ i0 ∨ (i0 < l.length ∧ ∃ c, l[i0]? = some c ∧ c ≠ 33)))) (HIE : Hid (i1 = i0 + cond g 1 0))
    (HSN : Hid (setR l i1 [] = none → setS l i0 = none)) (HSY : Hid (∀ rs n, setR l i1 [] = some (rs, n) → setS l i0 = some (⟨5, 0, rs, g⟩, n))) :
    Calls Tryd.prog 20 #[.slice (some ⟨b, off, none⟩) l.length cap, .int .i64 (i0 : Nat)] w (Set_r l i0 w) := by
  have HP := Lib.hid ((Own.new_at w [.int .i64 0, .int .i64 0, .slice none 0 0, .bool false] 56 w.heap.size rfl).below ((Below.refl _ _).alloc (Nat.le_refl _) (.cells #[.int .i64 5, .int .i64 0, .slice none 0 0, .bool false] 56)) (by simp))
  have HO := Lib.hid (Own.new_at (w.alloc (.cells #[.int .i64 0, .int .i64 0, .slice none 0 0, .bool false] 56)) [.int .i64 5, .int .i64 0, .slice none 0 0, .bool false] 56 (w.heap.size + 1) (by simp))
  have HB := Lib.hid (((Below.refl w.heap.size w).alloc (Nat.le_refl _) (.cells #[.int .i64 0, .int .i64 0, .slice none 0 0, .bool false] 56)).alloc (by simp) (.cells #[.int .i64 5, .int .i64 0, .slice none 0 0, .bool false] 56))
  have HC := Lib.hid (fun (W : World) (h : Below w.heap.size w W) => hc.below h hb)
  have q0 : IntKind.i64.wrap ((i0 : Int) + 1) = (i0 : Int) + 1 := IntWalk.i64_in _ (by omega)
  have HQ0 := Lib.hid q0
  clear q0 hc
  have HNOT := Lib.hid hnot
  clear hnot
  go_enter Tryd.func20, Tryd.ntmps20
  go_upto_region 2 with (fail)
  have hz0 : w.heap.size + 2 ≤ ((w.alloc (.cells #[.int .i64 0, .int .i64 0, .slice none 0 0, .bool false] 56)).alloc (.cells #[.int .i64 5, .int .i64 0, .slice none 0 0, .bool false] 56)).heap.size := by simp
  generalize ((w.alloc (.cells #[.int .i64 0, .int .i64 0, .slice none 0 0, .bool false] 56)).alloc (.cells #[.int .i64 5, .int .i64 0, .slice none 0 0, .bool false] 56)) = w0 at *
  go_cut [23] (fun v wx => v = .bool g ∧ w0 = wx)
  case first =>
    have hk := HC.out _ HB.out
    rcases HNOT.out with ⟨rfl, h1, h2⟩ | ⟨rfl, h1 | ⟨h1, c0, h2, h3⟩⟩
    · have d1 : decide ((i0 : Int) < (l.length : Int)) = true := decide_eq_true (by omega)
      have k1 := hk i0 33 h2
      clear hk h2
      go_wp2_with (fail)
      go_meet
      exact ⟨rfl, rfl⟩
    · have d1 : decide ((i0 : Int) < (l.length : Int)) = false := decide_eq_false (by omega)
      clear hk
      go_wp2_with (fail)
      go_meet
      exact ⟨rfl, rfl⟩
    · have d1 : decide ((i0 : Int) < (l.length : Int)) = true := decide_eq_true (by omega)
      have k1 := hk i0 c0 h2
      have d2 : (c0 == 33) = false := by simpa using h3
      clear hk h2 h3
      go_wp2_with (fail)
      go_meet
      exact ⟨rfl, rfl⟩
  case rest =>
  obtain ⟨rfl, rfl⟩ := hcut
  go_upto_if 23 with (fail)
  go_cut [1] (fun i wx => i = .int .i64 (i1 : Nat) ∧ w.heap.size + 2 ≤ wx.heap.size ∧ Hid (Own wx (w.heap.size + 1) [.int .i64 5, .int .i64 0, .slice none 0 0, .bool g]) ∧ Hid (Own wx w.heap.size [.int .i64 0, .int .i64 0, .slice none 0 0, .bool false]) ∧ Hid (Below w.heap.size w wx))
  case first =>
    have q0 := HQ0.out
    have hie := HIE
    cases g
    · go_wp2_with (fail)
      go_meet
      exact ⟨by rw [hie.out]; rfl, hz0, HO, HP, HB⟩
    · have y3 := HO.out.1 3 _ rfl
      have hfr := HO.out.2
      have HZ0 := Lib.hid hz0
      clear hz0
      go_wp2_with (fail)
      go_meet
      exact ⟨by rw [hie.out]; go_num, by simpa using HZ0.out, Lib.hid (HO.out.set 3 (.bool true) (by simp)), Lib.hid (HP.out.other (c := w.heap.size + 1) (by omega) 3 (.bool true)), Lib.hid (HB.out.setCell (p := ⟨w.heap.size + 1, 3, none⟩) (by show w.heap.size ≤ w.heap.size + 1; omega) (.bool true))⟩
  case rest =>
    clear HO HP HB hz0 HQ0 HNOT
    obtain ⟨rfl, hz0, HO, HP, HB⟩ := hcut
    go_wp2_with (fail)
    go_loopw [1, 8, 9, 10, 11] (fun i _ _ _ _ wr => ∃ (i' : Nat) (acc : List (Int × Int)) (v : Value), i = .int .i64 i' ∧ i' ≤ l.length ∧ acc.length ≤ i' ∧ w.heap.size + 2 ≤ wr.heap.size ∧ Hid (setR l i' acc = setR l i1 []) ∧ Hid (Own wr (w.heap.size + 1) [.int .i64 5, .int .i64 0, v, .bool g]) ∧ Hid (Own wr w.heap.size [.int .i64 0, .int .i64 0, .slice none 0 0, .bool false]) ∧ Hid (Row (w.heap.size + 2) 63 2 wr v acc.length (rcells .i64 acc)) ∧ Hid (Below w.heap.size w wr)) (fun i _ _ _ _ _ => l.length + 1 - (intOf i).toNat)
    case atStart => exact ⟨_, [], _, rfl, by omega, by simp, hz0, Lib.hid rfl, HO, HP, Lib.hid Row.nil, HB⟩
    case round =>
      clear HP HO HB hz0
      obtain ⟨i, acc, v, rfl, hi', ha, hzr, HST, HO, HP, HR, HB⟩ := hrel
      obtain ⟨av, cv, rfl, hcv⟩ := HR.out.form
      have HCr := Lib.hid (HC.out _ HB.out)
      obtain ⟨wo, rfl⟩ : ∃ z : World, z = wr := ⟨_, rfl⟩
      have y2 := HO.out.1 2 _ rfl
      by_cases hlt : i < l.length
      rotate_left
      · have d1 : decide (i < l.length) = false := decide_eq_false (by omega)
        have d1' : decide ((i : Int) < (l.length : Int)) = false := decide_eq_false (by omega)
        have HRN : Hid (rangeP l i = none) := Lib.hid (by
          rcases oneP_cases l i with ⟨_, h⟩ | ⟨_, _, _, h, _⟩ | ⟨_, h, _⟩ | ⟨_, _, h, _⟩
          · exact rangeP_none h
          · omega
          · omega
          · omega)
        have HE : Hid (¬ (l[i]? = some 93 ∧ acc ≠ [])) := Lib.hid (fun h => hlt (List.getElem?_eq_some_iff.1 h.1).1)
        clear hlt
        have HN : Hid (setS l i0 = none) := Lib.hid (HSN.out (by rw [← HST.out]; exact setR_none HE.out HRN.out))
        have y0 := HO.out.1 0 _ rfl
        have y1 := HO.out.1 1 _ rfl
        have y2 := HO.out.1 2 _ rfl
        have y3 := HO.out.1 3 _ rfl
        go_wp2_with (with_reducible refine stop_store ?_)
        refine store_own [.int .i64 5, .int .i64 0, .slice av acc.length cv, .bool g] HP.out rfl rfl rfl (by kernel_rfl) (by kernel_rfl) ?_
        intro w9 hO9 hg9 hz9
        have HP := Lib.hid hO9
        have HB := Lib.hid (HB.out.trans (gr_below hg9 w.heap.size (by omega) (fun i h => by injection h with h; omega)))
        clear hO9 hg9 hz9
        have z0 := HP.out.1 0 _ rfl
        have z1 := HP.out.1 1 _ rfl
        have z2 := HP.out.1 2 _ rfl
        have z3 := HP.out.1 3 _ rfl
        go_wp2_with (fail)
        refine bodyPost_ret (v := .tuple #[.agg #[.int .i64 5, .int .i64 0, .slice av acc.length cv, .bool g], .int .i64 0, .bool false]) (by simp [results, Tryd.results20, go_sem, z0, z1, z2, z3] <;> rfl) rfl (Set_r_none HN.out rfl HB.out)
      have d1 : decide (i < l.length) = true := decide_eq_true hlt
      have d1' : decide ((i : Int) < (l.length : Int)) = true := decide_eq_true (by omega)
      by_cases hE : l[i]? = some 93 ∧ acc ≠ []
      · have h93 := HCr.out i 93 hE.1
        have t1 : decide (0 < acc.length) = true := decide_eq_true (List.length_pos_iff.2 hE.2)
        have t1' : decide ((0 : Int) < (acc.length : Int)) = true := decide_eq_true (by have := List.length_pos_iff.2 hE.2; omega)
        have q1 : IntKind.i64.wrap ((i : Int) + 1) = (i : Int) + 1 := IntWalk.i64_in _ (by omega)
        have HSS := Lib.hid (HSY.out acc (i + 1) (by rw [← HST.out]; exact setR_end hE.1 hE.2))
        clear hE HST
        have y0 := HO.out.1 0 _ rfl
        have y1 := HO.out.1 1 _ rfl
        have y3 := HO.out.1 3 _ rfl
        go_wp2_with (with_reducible refine stop_store ?_)
        refine store_own [.int .i64 5, .int .i64 0, .slice av acc.length cv, .bool g] HP.out rfl rfl rfl (by kernel_rfl) (by kernel_rfl) ?_
        intro w9 hO9 hg9 hz9
        have HP := Lib.hid hO9
        have HB := Lib.hid (HB.out.trans (gr_below hg9 w.heap.size (by omega) (fun i h => by injection h with h; omega)))
        have HR := Lib.hid (HR.out.kept9 hg9 (by omega))
        clear hO9 hg9 hz9
        have z0 := HP.out.1 0 _ rfl
        have z1 := HP.out.1 1 _ rfl
        have z2 := HP.out.1 2 _ rfl
        have z3 := HP.out.1 3 _ rfl
        go_wp2_with (fail)
        exact bodyPost_ret (v := .tuple #[.agg #[.int .i64 5, .int .i64 0, .slice av acc.length cv, .bool g], .int .i64 ((i : Int) + 1), .bool true]) (by simp [results, Tryd.results20, go_sem, z0, z1, z2, z3] <;> rfl) rfl (Set_r_some HSS.out (by rfl) (HR.out.mono (by omega)) HB.out)
      have hcnd : (∃ c, l[i]? = some c ∧ c ≠ 93) ∨ (l[i]? = some 93 ∧ acc.length = 0) := by
        by_cases h1 : l[i] = 93
        · right
          refine ⟨by rw [List.getElem?_eq_getElem hlt, h1], ?_⟩
          cases acc with
          | nil => rfl
          | cons a b => exact absurd ⟨by rw [List.getElem?_eq_getElem hlt, h1], by simp⟩ hE
        · exact .inl ⟨_, List.getElem?_eq_getElem hlt, h1⟩
      have HE := Lib.hid hE
      clear hE
      have hfacts : (∃ c, wo.cell? ⟨b, off + i, none⟩ = some (.int .i64 c) ∧ (c == 93) = false) ∨ (wo.cell? ⟨b, off + i, none⟩ = some (.int .i64 93) ∧ decide (0 < acc.length) = false ∧ decide ((0 : Int) < (acc.length : Int)) = false) := by
        rcases hcnd with ⟨c, h, h2⟩ | ⟨h, h2⟩
        · left; exact ⟨c, HCr.out i c h, by simpa using h2⟩
        · right; exact ⟨HCr.out i 93 h, decide_eq_false (by omega), decide_eq_false (by omega)⟩
      clear hcnd
      cases ho : oneP l i with
      | none =>
        have HS := Lib.hid (refOne_no b off cap l i wo HCr.out hl hi' ho)
        have HRN := Lib.hid (rangeP_none ho)
        clear ho
        rcases hfacts with ⟨c, t3, t4⟩ | ⟨t1, t2, t2'⟩
        all_goals
          go_wp2_with (fail)
          refine HS.out.mono ?_
          rintro e w' ⟨rfl, rfl⟩
          have HN : Hid (setS l i0 = none) := Lib.hid (HSN.out (by rw [← HST.out]; exact setR_none HE.out HRN.out))
          have y0 := HO.out.1 0 _ rfl
          have y1 := HO.out.1 1 _ rfl
          have y2 := HO.out.1 2 _ rfl
          have y3 := HO.out.1 3 _ rfl
          go_wp2_with (with_reducible refine stop_store ?_)
          refine store_own [.int .i64 5, .int .i64 0, .slice av acc.length cv, .bool g] HP.out rfl rfl rfl (by kernel_rfl) (by kernel_rfl) ?_
          intro w9 hO9 hg9 hz9
          have HP := Lib.hid hO9
          have HB := Lib.hid (HB.out.trans (gr_below hg9 w.heap.size (by omega) (fun i h => by injection h with h; omega)))
          clear hO9 hg9 hz9
          have z0 := HP.out.1 0 _ rfl
          have z1 := HP.out.1 1 _ rfl
          have z2 := HP.out.1 2 _ rfl
          have z3 := HP.out.1 3 _ rfl
          go_wp2_with (fail)
          refine bodyPost_ret (v := .tuple #[.agg #[.int .i64 5, .int .i64 0, .slice av acc.length cv, .bool g], .int .i64 0, .bool false]) (by simp [results, Tryd.results20, go_sem, z0, z1, z2, z3] <;> rfl) rfl (Set_r_none HN.out rfl HB.out)
      | some x1 =>
        obtain ⟨c1, n1⟩ := x1
        have hn1 := oneP_lt ho
        have HS := Lib.hid (refOne_yes b off cap l i wo HCr.out hl hi' ho)
        have q1 : IntKind.i64.wrap ((n1 : Int) + 1) = (n1 : Int) + 1 := IntWalk.i64_in _ (by omega)
        rcases dash_cases l n1 with ⟨hd, c2, hd1, hd2, hd3, hd4⟩ | ⟨hd, hdd⟩
        · have d5 : decide ((n1 : Int) + 1 < (l.length : Int)) = true := decide_eq_true (by omega)
          have k5 := HCr.out n1 45 hd2
          have k6 := HCr.out (n1 + 1) c2 hd3
          have d6 : (c2 != 93) = true := by simpa using hd4
          clear hd2 hd3 hd4
          cases ho2 : oneP l (n1 + 1) with
          | none =>
            have HS2 := Lib.hid (refOne_no b off cap l (n1 + 1) wo HCr.out hl (by omega) ho2)
            have HRN := Lib.hid (rangeP_dash_none ho hd ho2)
            clear ho ho2 hd
            rcases hfacts with ⟨c, t3, t4⟩ | ⟨t1, t2, t2'⟩
            all_goals
              go_wp2_with (fail)
              refine HS.out.mono ?_
              rintro e w' ⟨rfl, rfl⟩
              go_wp2_with (fail)
              refine HS2.out.mono ?_
              rintro e w' ⟨rfl, rfl⟩
              have HN : Hid (setS l i0 = none) := Lib.hid (HSN.out (by rw [← HST.out]; exact setR_none HE.out HRN.out))
              have y0 := HO.out.1 0 _ rfl
              have y1 := HO.out.1 1 _ rfl
              have y2 := HO.out.1 2 _ rfl
              have y3 := HO.out.1 3 _ rfl
              go_wp2_with (with_reducible refine stop_store ?_)
              refine store_own [.int .i64 5, .int .i64 0, .slice av acc.length cv, .bool g] HP.out rfl rfl rfl (by kernel_rfl) (by kernel_rfl) ?_
              intro w9 hO9 hg9 hz9
              have HP := Lib.hid hO9
              have HB := Lib.hid (HB.out.trans (gr_below hg9 w.heap.size (by omega) (fun i h => by injection h with h; omega)))
              clear hO9 hg9 hz9
              have z0 := HP.out.1 0 _ rfl
              have z1 := HP.out.1 1 _ rfl
              have z2 := HP.out.1 2 _ rfl
              have z3 := HP.out.1 3 _ rfl
              go_wp2_with (fail)
              refine bodyPost_ret (v := .tuple #[.agg #[.int .i64 5, .int .i64 0, .slice av acc.length cv, .bool g], .int .i64 0, .bool false]) (by simp [results, Tryd.results20, go_sem, z0, z1, z2, z3] <;> rfl) rfl (Set_r_none HN.out rfl HB.out)
          | some x2 =>
            obtain ⟨c3, n2⟩ := x2
            have hn2 := oneP_lt ho2
            have HS2 := Lib.hid (refOne_yes b off cap l (n1 + 1) wo HCr.out hl (by omega) ho2)
            have hrp := rangeP_dash ho hd ho2
            by_cases hlow : c3 < c1
            · rw [if_pos hlow] at hrp
              have HRN := Lib.hid hrp
              have d7 : decide (c3 < c1) = true := decide_eq_true hlow
              clear ho ho2 hd hrp hlow
              rcases hfacts with ⟨c, t3, t4⟩ | ⟨t1, t2, t2'⟩
              all_goals
                go_wp2_with (fail)
                refine HS.out.mono ?_
                rintro e w' ⟨rfl, rfl⟩
                go_wp2_with (fail)
                refine HS2.out.mono ?_
                rintro e w' ⟨rfl, rfl⟩
                have HN : Hid (setS l i0 = none) := Lib.hid (HSN.out (by rw [← HST.out]; exact setR_none HE.out HRN.out))
                have y0 := HO.out.1 0 _ rfl
                have y1 := HO.out.1 1 _ rfl
                have y2 := HO.out.1 2 _ rfl
                have y3 := HO.out.1 3 _ rfl
                go_wp2_with (with_reducible refine stop_store ?_)
                refine store_own [.int .i64 5, .int .i64 0, .slice av acc.length cv, .bool g] HP.out rfl rfl rfl (by kernel_rfl) (by kernel_rfl) ?_
                intro w9 hO9 hg9 hz9
                have HP := Lib.hid hO9
                have HB := Lib.hid (HB.out.trans (gr_below hg9 w.heap.size (by omega) (fun i h => by injection h with h; omega)))
                clear hO9 hg9 hz9
                have z0 := HP.out.1 0 _ rfl
                have z1 := HP.out.1 1 _ rfl
                have z2 := HP.out.1 2 _ rfl
                have z3 := HP.out.1 3 _ rfl
                go_wp2_with (fail)
                refine bodyPost_ret (v := .tuple #[.agg #[.int .i64 5, .int .i64 0, .slice av acc.length cv, .bool g], .int .i64 0, .bool false]) (by simp [results, Tryd.results20, go_sem, z0, z1, z2, z3] <;> rfl) rfl (Set_r_none HN.out rfl HB.out)
            · rw [if_neg hlow] at hrp
              have HRG := Lib.hid (setR_go HE.out hrp)
              have d7 : decide (c3 < c1) = false := decide_eq_false hlow
              clear ho ho2 hd hrp hlow
              rcases hfacts with ⟨c, t3, t4⟩ | ⟨t1, t2, t2'⟩
              all_goals
                go_wp2_with (fail)
                refine HS.out.mono ?_
                rintro e w' ⟨rfl, rfl⟩
                go_wp2_with (fail)
                refine HS2.out.mono ?_
                rintro e w' ⟨rfl, rfl⟩
                clear y2
                have y2 := HO.out.1 2 _ rfl
                have hfr := HO.out.2
                go_wp2_with (at_builtin; refine append_row Tryd.underlying54 info_range_r rfl (by decide) rfl _ _ rfl rfl (HR.out.below ((Below.refl _ _).alloc (Nat.le_refl _) (.cells #[.int .i64 c1, .int .i64 c3] 63))) rfl (Sl.new _ 2 1 [.int .i64 c1, .int .i64 c3] 63 rfl) (two_one _ _ _ _) ?_ ?_ ?_ ?_; omega; omega; (simp; omega))
                intro v2 w2 hr2 hb2
                obtain ⟨a2, cv2, rfl, hcv2⟩ := Row.form hr2
                have hz2 := hb2.size
                have HO2 := Lib.hid ((HO.out.below ((Below.refl _ _).alloc (Nat.le_refl _) (.cells #[.int .i64 c1, .int .i64 c3] 63)) (by omega)).below hb2 (by omega))
                have HP2 := Lib.hid ((HP.out.below ((Below.refl _ _).alloc (Nat.le_refl _) (.cells #[.int .i64 c1, .int .i64 c3] 63)) (by omega)).below hb2 (by omega))
                have HB2 := Lib.hid ((HB.out.alloc (by omega) (.cells #[.int .i64 c1, .int .i64 c3] 63)).trans (hb2.mono (by omega)))
                have HR2 := Lib.hid hr2
                have hz3 : w.heap.size + 2 ≤ w2.heap.size := by simp at hz2; omega
                clear y2 hfr hr2 hb2 hz2
                have y2 := HO2.out.1 2 _ rfl
                have hfr := HO2.out.2
                go_wp2_with (fail)
                clear y2 hfr
                have HO3 := Lib.hid (HO2.out.set 2 (.slice a2 (acc.length + 1) cv2) (by simp))
                have HP3 := Lib.hid (HP2.out.other (c := w.heap.size + 1) (by omega) 2 (.slice a2 (acc.length + 1) cv2))
                have HB3 := Lib.hid (HB2.out.setCell (p := ⟨w.heap.size + 1, 2, none⟩) (by show w.heap.size ≤ w.heap.size + 1; omega) (.slice a2 (acc.length + 1) cv2))
                have HR3 := Lib.hid (HR2.out.other (c := w.heap.size + 1) (by omega) 2 (.slice a2 (acc.length + 1) cv2))
                go_roundw
                case rel => exact ⟨n2, acc ++ [(c1, c3)], .slice a2 (acc.length + 1) cv2, rfl, by omega, by simp only [List.length_append, List.length_cons, List.length_nil]; omega, by simpa using hz3, Lib.hid (by rw [← HST.out]; exact HRG.out.symm), HO3, HP3, Lib.hid (by rw [rcells_snoc, List.length_append]; exact HR3.out), HB3⟩
                case measure => simp [intOf]; omega
        · have hrp := rangeP_one ho hd
          have HRG := Lib.hid (setR_go HE.out hrp)
          have hdf : decide ((n1 : Int) + 1 < (l.length : Int)) = false ∨ (decide ((n1 : Int) + 1 < (l.length : Int)) = true ∧ n1 + 1 < l.length ∧ ∃ c, wo.cell? ⟨b, off + n1, none⟩ = some (.int .i64 c) ∧ (c == 45) = false) ∨ (decide ((n1 : Int) + 1 < (l.length : Int)) = true ∧ n1 + 1 < l.length ∧ wo.cell? ⟨b, off + n1, none⟩ = some (.int .i64 45) ∧ wo.cell? ⟨b, off + (n1 + 1), none⟩ = some (.int .i64 93)) := by
            rcases hdd with h | ⟨h, c, h2, h3⟩ | ⟨h, h2, h3⟩
            · left; exact decide_eq_false (by omega)
            · right; left; exact ⟨decide_eq_true (by omega), h, c, HCr.out n1 c h2, by simpa using h3⟩
            · right; right; exact ⟨decide_eq_true (by omega), h, HCr.out n1 45 h2, HCr.out (n1 + 1) 93 h3⟩
          clear ho hd hrp hdd
          rcases hfacts with ⟨c, t3, t4⟩ | ⟨t1, t2, t2'⟩
          all_goals
            rcases hdf with d5 | ⟨d5, d9, c5, d6, d8⟩ | ⟨d5, d9, d6, d8⟩
            all_goals
              go_wp2_with (fail)
              refine HS.out.mono ?_
              rintro e w' ⟨rfl, rfl⟩
              clear y2
              go_upto_region 17 with (fail)
              have y2 := HO.out.1 2 _ rfl
              have hfr := HO.out.2
              go_wp2_with (at_builtin; refine append_row Tryd.underlying54 info_range_r rfl (by decide) rfl _ _ rfl rfl (HR.out.below ((Below.refl _ _).alloc (Nat.le_refl _) (.cells #[.int .i64 c1, .int .i64 c1] 63))) rfl (Sl.new _ 2 1 [.int .i64 c1, .int .i64 c1] 63 rfl) (two_one _ _ _ _) ?_ ?_ ?_ ?_; omega; omega; (simp; omega))
              intro v2 w2 hr2 hb2
              obtain ⟨a2, cv2, rfl, hcv2⟩ := Row.form hr2
              have hz2 := hb2.size
              have HO2 := Lib.hid ((HO.out.below ((Below.refl _ _).alloc (Nat.le_refl _) (.cells #[.int .i64 c1, .int .i64 c1] 63)) (by omega)).below hb2 (by omega))
              have HP2 := Lib.hid ((HP.out.below ((Below.refl _ _).alloc (Nat.le_refl _) (.cells #[.int .i64 c1, .int .i64 c1] 63)) (by omega)).below hb2 (by omega))
              have HB2 := Lib.hid ((HB.out.alloc (by omega) (.cells #[.int .i64 c1, .int .i64 c1] 63)).trans (hb2.mono (by omega)))
              have HR2 := Lib.hid hr2
              have hz3 : w.heap.size + 2 ≤ w2.heap.size := by simp at hz2; omega
              clear y2 hfr hr2 hb2 hz2
              have y2 := HO2.out.1 2 _ rfl
              have hfr := HO2.out.2
              go_wp2_with (fail)
              clear y2 hfr
              have HO3 := Lib.hid (HO2.out.set 2 (.slice a2 (acc.length + 1) cv2) (by simp))
              have HP3 := Lib.hid (HP2.out.other (c := w.heap.size + 1) (by omega) 2 (.slice a2 (acc.length + 1) cv2))
              have HB3 := Lib.hid (HB2.out.setCell (p := ⟨w.heap.size + 1, 2, none⟩) (by show w.heap.size ≤ w.heap.size + 1; omega) (.slice a2 (acc.length + 1) cv2))
              have HR3 := Lib.hid (HR2.out.other (c := w.heap.size + 1) (by omega) 2 (.slice a2 (acc.length + 1) cv2))
              go_roundw
              case rel => exact ⟨n1, acc ++ [(c1, c1)], .slice a2 (acc.length + 1) cv2, rfl, by omega, by simp only [List.length_append, List.length_cons, List.length_nil]; omega, by simpa using hz3, Lib.hid (by rw [← HST.out]; exact HRG.out.symm), HO3, HP3, Lib.hid (by rw [rcells_snoc, List.length_append]; exact HR3.out), HB3⟩
              case measure => simp [intOf]; omega
theorem refSet_any (b off cap : Nat) (l : List Int) (i : Nat) (w : World) (hc : SgC .i64 w b off l) (hb : b < w.heap.size) (hl : l.length ≤ 2000000) (hi : i ≤ l.length) :
    Calls Tryd.prog 20 #[.slice (some ⟨b, off, none⟩) l.length cap, .int .i64 (i : Nat)] w (Set_r l i w) := by
  refine refSet_core b off cap l i (i + cond (notAt l i) 1 0) (notAt l i) w hc hb hl hi ?_ ?_ (Lib.hid rfl) (Lib.hid setS_none) (Lib.hid fun rs n h => setS_some h)
  · rcases notAt_cases l i with ⟨h1, h2, h3⟩ | ⟨h1, h2 | h2⟩
    · rw [h1]; show i + 1 ≤ _; omega
    · rw [h1]; show i + 0 ≤ _; omega
    · rw [h1]; show i + 0 ≤ _; omega
  · exact notAt_cases l i
end Go.Proofs.YtlmdpmfahfgjkaaDoor
