/- math.Floor on what is not below 0, and below TOP. -/
import Derived.Test.YtpjjfkogcfdnkaaRatQ
namespace Go.Proofs.Ytpjjfkogcfdnkaa
set_option maxRecDepth 100000
set_option linter.unusedVariables false
set_option linter.unusedSimpArgs false
open Go.RowKit Flo
theorem call_floor (x : Nat) (w : World) : (callFunc 34 #[.float .f64 x]).run Try.prog w = (Functor.map (fun v => Next.value v) (Extern.MathFloor.toIntegral "math.archFloor" .down #[.float .f64 x])).run Try.prog w := by kernel_rfl
theorem floor_run (x : Nat) (h : x < TOP) (w : World) : (callFunc 34 #[.float .f64 x]).run Try.prog w = .ok (.value (.float .f64 (fl x))) w := by
  rw [call_floor]
  have e : Extern.MathFloor.toIntegral "math.archFloor" .down #[.float .f64 x] = pure (.float .f64 (fl x)) := by
    unfold fl
    change Extern.MathFloor.toIntegral.match_1 (fun _ => Sem Value) (FloatKind.f64.decode x) _ _ = _
    rw [read_of h]
  rw [e]
  rfl
theorem floor_any (x : Nat) (h : x < TOP) (w : World) : Calls Try.prog 26 #[.float .f64 x] w fun e w' => e = .returned (.float .f64 (fl x)) ∧ w' = w := by
  have hf := floor_run x h w
  clear h
  go_enter Try.func26, Try.ntmps26
  go_wp2
  go_ret
  exact ⟨rfl, rfl⟩
def cv (x : Nat) : Int := (floatToIntVal .f64 x .i64).getD 0
theorem cv_run {x : Nat} (h : x < TOP) (w : World) : (convert 23 3 (.float .f64 x)).run Try.prog w = .ok (.int .i64 (cv x)) w ∧ (convert 23 3 (.float .f64 (fl x))).run Try.prog w = .ok (.int .i64 (cv x)) w := by
  obtain ⟨n, h1, h2⟩ := fti h
  have e : cv x = n := by unfold cv; rw [h1]; rfl
  rw [e]
  exact ⟨run_convert_float_int w 23 3 .f64 .i64 x n (by kernel_rfl) (by kernel_rfl) h1, run_convert_float_int w 23 3 .f64 .i64 (fl x) n (by kernel_rfl) (by kernel_rfl) h2⟩
def pc (c : Nat) : Nat := (floatBits .mul .f64 4636737291354636288 c).getD 0
theorem pc_run {c : Nat} (h : c ≤ 4607182418800017408) (w : World) : (binOp .mul 23 (.float .f64 4636737291354636288) (.float .f64 c)).run Try.prog w = .ok (.float .f64 (pc c)) w ∧ pc c < TOP := by
  obtain ⟨r, h1, h2⟩ := mul_any h
  have e : pc c = r := by unfold pc; rw [h1]; rfl
  rw [e]
  exact ⟨run_float_arith w .mul 23 .f64 _ _ r h1, h2⟩
def SomeNan (w : World) (e : Ending) (w' : World) : Prop := ∃ v, e = .returned (.float .f64 v) ∧ nan v = true ∧ v < 18446744073709551616 ∧ w' = w.drewN 1
theorem percent_some (p s : Int) (r : Nat) (h : qf p s = some r) (hr : r < 18446744073709551616) (w : World) : Calls Try.prog 11 #[.int .i64 p, .int .i64 s] w fun e w' => e = .returned (.int .i64 (cv (pc (clampF r)))) ∧ w' = w := by
  obtain ⟨h1, h2⟩ := pc_run (clampF_le r hr) w
  have h3 := (cv_run h2 w).2
  have H := Lib.hid h
  have H2 := Lib.hid h2
  clear h h2
  go_enter Try.func11, Try.ntmps11
  go_wp2_with (first
      | (go_at_call 8; refine (share_some _ _ _ H.out _).mono ?_; rintro e w' ⟨rfl, rfl⟩)
      | (go_at_call 18; refine (clamp_any _ _).mono ?_; rintro e w' ⟨rfl, rfl⟩)
      | (go_at_call 26; refine (floor_any _ H2.out _).mono ?_; rintro e w' ⟨rfl, rfl⟩))
  go_ret
  exact ⟨rfl, rfl⟩
theorem clampF_nan {x : Nat} (h : nan x = true) : clampF x = 0 := by
  have h1 : ∀ c, G x c = false := by intro c; unfold G; rw [gt_tab, h]; rfl
  unfold clampF
  rw [h1, h1]; rfl
theorem percent_none (p s : Int) (h : qf p s = none) (w : World) : Calls Try.prog 11 #[.int .i64 p, .int .i64 s] w fun e w' => e = .returned (.int .i64 (cv (pc 0))) ∧ w' = w.drewN 1 := by
  obtain ⟨h1, h2⟩ := pc_run (c := 0) (by decide) (w.drewN 1)
  have h3 := (cv_run h2 (w.drewN 1)).2
  have H := Lib.hid h
  have H2 := Lib.hid h2
  clear h h2
  go_enter Try.func11, Try.ntmps11
  go_wp2_with (first
      | (go_at_call 8; refine (share_none _ _ H.out _).mono ?_; rintro e w' ⟨v, rfl, hv, _, rfl⟩; have HV := Lib.hid hv; clear hv)
      | (go_at_call 18; refine (clamp_any _ _).mono ?_; rintro e w' ⟨rfl, rfl⟩; rw [clampF_nan HV.out])
      | (go_at_call 26; refine (floor_any _ H2.out _).mono ?_; rintro e w' ⟨rfl, rfl⟩))
  go_ret
  exact ⟨rfl, rfl⟩
end Go.Proofs.Ytpjjfkogcfdnkaa
