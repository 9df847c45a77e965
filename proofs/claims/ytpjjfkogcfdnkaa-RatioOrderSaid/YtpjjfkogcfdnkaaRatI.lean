/- RatioShares: Saved; Same of two that are no numbers; the law. -/
import Derived.Test.YtpjjfkogcfdnkaaRatH
import Derived.Outline
namespace Go.Proofs.Ytpjjfkogcfdnkaa
set_option maxRecDepth 100000
set_option linter.unusedVariables false
set_option linter.unusedSimpArgs false
open Go.RowKit Flo
theorem cls_of_nan {x : Nat} (h : nan x = true) : cls x = 0 := by
  unfold nan at h; unfold cls; rw [if_pos (by simpa using h)]
theorem cmpF_nan {x y : Nat} (hx : nan x = true) (hy : nan y = true) : cmpF x y = 0 := by
  have h1 : L x y = false := by unfold L; rw [lt_tab, hx]; rfl
  have h2 : G x y = false := by unfold G; rw [gt_tab, hx]; rfl
  unfold cmpF cf
  simp [h1, h2, cls_of_nan hx, cls_of_nan hy]
def EQ (x y : Nat) : Prop := x < 18446744073709551616 ∧ y < 18446744073709551616 ∧ cls x = cls y ∧ cmpF x y = 0
theorem same_eq (x y : Nat) (h : EQ x y) (w : World) : Calls Try.prog 9 #[.float .f64 x, .float .f64 y] w fun e w' => e = .returned (.bool true) ∧ w' = w := by
  obtain ⟨hx, hy, hc, hs⟩ := h
  have HC := Lib.hid hc
  have HS := Lib.hid hs
  have HX := Lib.hid hx
  have HY := Lib.hid hy
  clear hx hy hc hs
  go_enter Try.func9, Try.ntmps9
  go_wp2_with (first
      | (go_at_call 14; refine (refClass_any _ (by first | exact HX.out | exact HY.out) _).mono ?_; rintro e w' ⟨rfl, rfl⟩; try rw [HC.out])
      | (go_at_call 17; refine (refCompare_any _ _ HX.out HY.out _).mono ?_; rintro e w' ⟨rfl, rfl⟩; rw [HS.out]))
  go_ret
  exact ⟨by simp, rfl⟩
theorem EQ_nan {x y : Nat} (hx : x < 18446744073709551616) (hy : y < 18446744073709551616) (h1 : nan x = true) (h2 : nan y = true) : EQ x y :=
  ⟨hx, hy, by rw [cls_of_nan h1, cls_of_nan h2], cmpF_nan h1 h2⟩
theorem EQ_self {x : Nat} (hx : x < 18446744073709551616) : EQ x x := ⟨hx, hx, rfl, cmpF_self x⟩
theorem sub_nan {x y : Nat} (h : nan y = true) : floatBits .sub .f64 x y = none := by
  have h' : INF < rung y := by unfold nan at h; simpa using h
  obtain ⟨s, f, e⟩ := read_nan h'
  change (Ieee.Datum.sum (Ieee.double.read x) (Ieee.double.read y).opposite).map Ieee.double.write = none
  rw [e]
  cases Ieee.double.read x <;> rfl
theorem awake_any (w : World) : Calls Try.prog 7 #[] w fun e w' => e = .returned (.bool true) ∧ w' = w.drewN 1 := by
  have H0 := Lib.hid (show qf 0 0 = none by decide)
  have H1 := Lib.hid (show qf 1 3 = some 4599676419421066581 by decide)
  have H2 := Lib.hid (show cv (pc (clampF 4599676419421066581)) = 33 by decide)
  go_enter Try.func7, Try.ntmps7
  go_wp2_with (first
      | (go_at_call 8; refine (share_none _ _ H0.out _).mono ?_; rintro e w' ⟨v, rfl, hv, hv2, rfl⟩; have HV := Lib.hid hv; have HV2 := Lib.hid hv2; clear hv hv2)
      | (go_at_call 13; refine (class_any _ HV2.out _).mono ?_; rintro e w' ⟨rfl, rfl⟩; rw [cls_of_nan HV.out])
      | (go_at_call 11; refine (percent_some _ _ _ H1.out (by decide) _).mono ?_; rintro e w' ⟨rfl, rfl⟩; rw [H2.out]))
  go_ret
  exact ⟨rfl, rfl⟩
def sv (r : Nat) : Option Nat := floatBits .sub .f64 4607182418800017408 r
theorem saved_some (p s : Int) (r v : Nat) (h : qf p s = some r) (hv : sv r = some v) (w : World) : Calls Try.prog 10 #[.int .i64 p, .int .i64 s] w fun e w' => e = .returned (.float .f64 v) ∧ w' = w := by
  have H := Lib.hid h
  have hr := run_float_arith (P := Try.prog) w .sub 23 .f64 _ _ v hv
  clear h hv
  go_enter Try.func10, Try.ntmps10
  go_wp2_with (first
      | (go_at_call 8; refine (share_some _ _ _ H.out _).mono ?_; rintro e w' ⟨rfl, rfl⟩))
  go_ret
  exact ⟨rfl, rfl⟩
theorem saved_none (p s : Int) (r : Nat) (h : qf p s = some r) (hv : sv r = none) (w : World) : Calls Try.prog 10 #[.int .i64 p, .int .i64 s] w fun e w' => ∃ v, e = .returned (.float .f64 v) ∧ nan v = true ∧ v < 18446744073709551616 ∧ w' = w.drewN 1 := by
  have H := Lib.hid h
  obtain ⟨v, hv1, hv2, hr⟩ := nan_run .sub _ _ w hv (.inr rfl)
  have H1 := Lib.hid hv1
  have H2 := Lib.hid hv2
  clear h hv hv1 hv2
  go_enter Try.func10, Try.ntmps10
  go_wp2_with (first
      | (go_at_call 8; refine (share_some _ _ _ H.out _).mono ?_; rintro e w' ⟨rfl, rfl⟩))
  go_ret
  exact ⟨v, rfl, H1.out, H2.out, rfl⟩
theorem saved_nan (p s : Int) (h : qf p s = none) (w : World) : Calls Try.prog 10 #[.int .i64 p, .int .i64 s] w fun e w' => ∃ v, e = .returned (.float .f64 v) ∧ nan v = true ∧ v < 18446744073709551616 ∧ w' = w.drewN 2 := by
  have H := Lib.hid h
  clear h
  go_enter Try.func10, Try.ntmps10
  go_wp2_with fail
  refine (share_none _ _ H.out _).mono ?_
  rintro e w' ⟨u, rfl, hu, -, rfl⟩
  obtain ⟨v, hv1, hv2, hr⟩ := nan_run .sub 4607182418800017408 u (w.drewN 1) (sub_nan hu) (.inr rfl)
  have H1 := Lib.hid hv1
  have H2 := Lib.hid hv2
  clear hu hv1 hv2
  go_wp2
  go_ret
  exact ⟨v, rfl, H1.out, H2.out, rfl⟩
theorem qf_lt {p s : Int} {r : Nat} (h : qf p s = some r) : r < 18446744073709551616 := by
  have := floatBits_wf h
  simpa [Lit.wf] using this
theorem sv_lt {s r : Nat} (h : sv s = some r) : r < 18446744073709551616 := by
  have := floatBits_wf h
  simpa [Lit.wf] using this
theorem shares_some (p s : Int) (r v : Nat) (h : qf p s = some r) (hv : sv r = some v) (w : World) : Calls Try.prog 3 #[.int .i64 p, .int .i64 s] w fun e w' => e = .returned (.bool true) ∧ w' = w.drewN 1 := by
  have hr := run_float_arith (P := Try.prog) (w.drewN 1) .quo 23 .f64 _ _ r h
  have hs := run_float_arith (P := Try.prog) (w.drewN 1) .sub 23 .f64 _ _ v hv
  have hlt := qf_lt h
  have H := Lib.hid h
  have HV := Lib.hid hv
  have HE := Lib.hid (EQ_self hlt)
  have HE2 := Lib.hid (EQ_self (sv_lt hv))
  have HL := Lib.hid hlt
  obtain ⟨h1, h2⟩ := pc_run (clampF_le r hlt) (w.drewN 1)
  have h3 := (cv_run h2 (w.drewN 1)).1
  clear h hlt hv h2
  go_enter Try.func3, Try.ntmps3
  go_wp2_with (first
      | (go_at_call 7; refine (awake_any _).mono ?_; rintro e w' ⟨rfl, rfl⟩)
      | (go_at_call 8; refine (share_some _ _ _ H.out _).mono ?_; rintro e w' ⟨rfl, rfl⟩)
      | (go_at_call 10; refine (saved_some _ _ _ _ H.out HV.out _).mono ?_; rintro e w' ⟨rfl, rfl⟩)
      | (go_at_call 11; refine (percent_some _ _ _ H.out HL.out _).mono ?_; rintro e w' ⟨rfl, rfl⟩)
      | (go_at_call 12; refine (refClamp_any _ _).mono ?_; rintro e w' ⟨rfl, rfl⟩)
      | (go_at_call 13; refine (class_any _ HL.out _).mono ?_; rintro e w' ⟨rfl, rfl⟩)
      | (go_at_call 14; refine (refClass_any _ HL.out _).mono ?_; rintro e w' ⟨rfl, rfl⟩)
      | (go_at_call 9; refine (same_eq _ _ (by first | exact HE.out | exact HE2.out) _).mono ?_; rintro e w' ⟨rfl, rfl⟩))
  go_ret
  exact ⟨by simp, rfl⟩
theorem shares_inf (p s : Int) (r : Nat) (h : qf p s = some r) (hv : sv r = none) (w : World) : Calls Try.prog 3 #[.int .i64 p, .int .i64 s] w fun e w' => e = .returned (.bool true) ∧ w' = w.drewN 3 := by
  have hr := run_float_arith (P := Try.prog) (w.drewN 1) .quo 23 .f64 _ _ r h
  obtain ⟨v2, hv21, hv22, hs⟩ := nan_run .sub _ _ (w.drewN 2) hv (.inr rfl)
  have hlt := qf_lt h
  have H := Lib.hid h
  have HV := Lib.hid hv
  have HE := Lib.hid (EQ_self hlt)
  have HE2 := Lib.hid (fun v a b => EQ_nan (x := v) a hv22 b hv21)
  have HL := Lib.hid hlt
  obtain ⟨h1, h2⟩ := pc_run (clampF_le r hlt) (w.drewN 3)
  have h3 := (cv_run h2 (w.drewN 3)).1
  clear h hlt hv h2 hv21 hv22
  go_enter Try.func3, Try.ntmps3
  go_wp2_with (first
      | (go_at_call 7; refine (awake_any _).mono ?_; rintro e w' ⟨rfl, rfl⟩)
      | (go_at_call 8; refine (share_some _ _ _ H.out _).mono ?_; rintro e w' ⟨rfl, rfl⟩)
      | (go_at_call 10; refine (saved_none _ _ _ H.out HV.out _).mono ?_; rintro e w' ⟨v, rfl, hv1, hv2, rfl⟩; have HE3 := Lib.hid (HE2.out v hv2 hv1); clear hv1 hv2)
      | (go_at_call 11; refine (percent_some _ _ _ H.out HL.out _).mono ?_; rintro e w' ⟨rfl, rfl⟩)
      | (go_at_call 12; refine (refClamp_any _ _).mono ?_; rintro e w' ⟨rfl, rfl⟩)
      | (go_at_call 13; refine (class_any _ HL.out _).mono ?_; rintro e w' ⟨rfl, rfl⟩)
      | (go_at_call 14; refine (refClass_any _ HL.out _).mono ?_; rintro e w' ⟨rfl, rfl⟩)
      | (go_at_call 9; refine (same_eq _ _ (by first | exact HE.out | exact HE3.out) _).mono ?_; rintro e w' ⟨rfl, rfl⟩))
  go_ret
  exact ⟨by simp, rfl⟩
theorem shares_nan (p s : Int) (h : qf p s = none) (w : World) : Calls Try.prog 3 #[.int .i64 p, .int .i64 s] w fun e w' => e = .returned (.bool true) ∧ w' = w.drewN 7 := by
  obtain ⟨f, hf1, hf2, hr⟩ := nan_run .quo _ _ (w.drewN 1) h (.inl rfl)
  obtain ⟨v2, hv21, hv22, hs⟩ := nan_run .sub 4607182418800017408 _ (w.drewN 5) (sub_nan hf1) (.inr rfl)
  have H := Lib.hid h
  have HE := Lib.hid (fun v a b => EQ_nan (x := v) a hf2 b hf1)
  have HE2 := Lib.hid (fun v a b => EQ_nan (x := v) a hv22 b hv21)
  have HF := Lib.hid (clampF_nan hf1)
  have HK := Lib.hid (cls_of_nan hf1)
  have HL := Lib.hid hf2
  obtain ⟨h1, h2⟩ := pc_run (c := 0) (by decide) (w.drewN 7)
  have h3 := (cv_run h2 (w.drewN 7)).1
  clear h h2 hv21 hv22 hf1 hf2
  go_enter Try.func3, Try.ntmps3
  go_wp2_with (first
      | (go_at_call 7; refine (awake_any _).mono ?_; rintro e w' ⟨rfl, rfl⟩)
      | (go_at_call 8; refine (share_none _ _ H.out _).mono ?_; rintro e w' ⟨u, rfl, hu1, hu2, rfl⟩; have HU := Lib.hid (HE.out u hu2 hu1); have HU2 := Lib.hid hu2; have HU3 := Lib.hid (cls_of_nan hu1); clear hu1 hu2)
      | (go_at_call 10; refine (saved_nan _ _ H.out _).mono ?_; rintro e w' ⟨v, rfl, hv1, hv2, rfl⟩; have HE3 := Lib.hid (HE2.out v hv2 hv1); clear hv1 hv2)
      | (go_at_call 11; refine (percent_none _ _ H.out _).mono ?_; rintro e w' ⟨rfl, rfl⟩)
      | (go_at_call 12; refine (refClamp_any _ _).mono ?_; rintro e w' ⟨rfl, rfl⟩; rw [HF.out])
      | (go_at_call 13; refine (class_any _ HU2.out _).mono ?_; rintro e w' ⟨rfl, rfl⟩; rw [HU3.out])
      | (go_at_call 14; refine (refClass_any _ HL.out _).mono ?_; rintro e w' ⟨rfl, rfl⟩; rw [HK.out])
      | (go_at_call 9; refine (same_eq _ _ (by first | exact HU.out | exact HE3.out) _).mono ?_; rintro e w' ⟨rfl, rfl⟩))
  go_ret
  exact ⟨by simp, rfl⟩
end Go.Proofs.Ytpjjfkogcfdnkaa
