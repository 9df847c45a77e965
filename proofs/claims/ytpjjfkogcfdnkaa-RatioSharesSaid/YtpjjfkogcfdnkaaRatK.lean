/- RatioShares and RatioOrder: the walks as the rows want them. -/
import Derived.Test.YtpjjfkogcfdnkaaRatJ
import Derived.Below
namespace Go.Proofs.Ytpjjfkogcfdnkaa
open Go.RowKit Flo
theorem below_drewN (w : World) (n : Nat) : Below w.heap.size w (w.drewN n) := by
  have h := Below.refl w.heap.size w
  exact ⟨h.os, h.tape, h.output, h.size, h.block⟩
theorem shares_walk (p s : Int) (w : World) : Calls Try.prog 3 #[.int .i64 p, .int .i64 s] w fun e w' => e = .returned (.bool true) ∧ Below w.heap.size w w' := by
  cases h : qf p s with
  | none => exact (shares_nan p s h w).mono fun _ _ ⟨a, b⟩ => ⟨a, by rw [b]; exact below_drewN _ _⟩
  | some r =>
    cases hv : sv r with
    | none => exact (shares_inf p s r h hv w).mono fun _ _ ⟨a, b⟩ => ⟨a, by rw [b]; exact below_drewN _ _⟩
    | some v => exact (shares_some p s r v h hv w).mono fun _ _ ⟨a, b⟩ => ⟨a, by rw [b]; exact below_drewN _ _⟩
theorem order_walk (a b c : Nat) (ha : (Lit.float .f64 a).wf = true) (hb : (Lit.float .f64 b).wf = true) (hc : (Lit.float .f64 c).wf = true) (w : World) : Calls Try.prog 4 #[.float .f64 a, .float .f64 b, .float .f64 c] w fun e w' => e = .returned (.bool true) ∧ Below w.heap.size w w' := by
  have ha' : a < 18446744073709551616 := by simpa [Lit.wf] using ha
  have hb' : b < 18446744073709551616 := by simpa [Lit.wf] using hb
  have hc' : c < 18446744073709551616 := by simpa [Lit.wf] using hc
  refine (order_core a b c (cls a) (cmpF a b) (cmpF b c) (cmpF a c) (sgnK (cls a)) w (Lib.hid (refClass_any a ha')) (Lib.hid (class_any a ha')) (Lib.hid (sign_any a ha')) (Lib.hid fun i j w hi hj => compare_any i j hi hj w) (Lib.hid ha') (Lib.hid hb') (Lib.hid hc') rfl rfl rfl (Lib.hid (cmpF_anti a b)) (cmpF_bd a b).1 (cmpF_bd a b).2 ?_ ?_ ?_).mono fun _ _ ⟨x, y⟩ => ⟨x, by rw [y]; exact below_drewN _ _⟩
  · have := cmpF_le_trans a b c
    simp only [decide_eq_true_eq, decide_eq_false_iff_not]
    omega
  · have := cmpF_eq_trans a b c
    simp only [bne_iff_ne, bne_eq_false_iff_eq, beq_iff_eq, ne_eq]
    omega
  · have := cls_any a
    simp only [decide_eq_true_eq, decide_eq_false_iff_not, beq_iff_eq, beq_eq_false_iff_ne, ne_eq]
    unfold sgnK
    generalize cls a = k at *
    rcases this with rfl | rfl | rfl | rfl | rfl | rfl | rfl <;> decide
end Go.Proofs.Ytpjjfkogcfdnkaa
