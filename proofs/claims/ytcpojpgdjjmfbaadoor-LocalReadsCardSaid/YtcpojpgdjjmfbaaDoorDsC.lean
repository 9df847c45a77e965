/- Contract of the page's Right. -/
import Derived.Test.YtcpojpgdjjmfbaaDoorDsB
namespace Go.Proofs.YtcpojpgdjjmfbaaDoor.Dos
set_option linter.unusedVariables false
set_option linter.unusedSimpArgs false
set_option maxRecDepth 100000
open Go.RowKit
set_option maxHeartbeats 2000000 in
theorem refRight_0 (y m d h i s : Int) (w : World)  (b0 : y < 1980) : Calls Tryd.prog 24 #[.agg #[.int .i64 y, .int .i64 m, .int .i64 d, .int .i64 h, .int .i64 i, .int .i64 s]] w fun e w' => e = .returned (.bool false) ∧ Below w.heap.size w w' := by
  have c0 : decide (y < 1980) = true := by simp; omega
  go_enter Tryd.func24, Tryd.ntmps24
  go_wp2
  go_quiet (fail)
  go_wp2
  go_ret
  exact ⟨by simp, ⟨rfl, rfl, rfl, by simp [World.drewN], fun k hk => Below.heap_alloc _ _ _ hk⟩⟩
set_option maxHeartbeats 2000000 in
theorem refRight_1 (y m d h i s : Int) (w : World) (b0 : 1980 ≤ y) (b1 : 2107 < y) : Calls Tryd.prog 24 #[.agg #[.int .i64 y, .int .i64 m, .int .i64 d, .int .i64 h, .int .i64 i, .int .i64 s]] w fun e w' => e = .returned (.bool false) ∧ Below w.heap.size w w' := by
  have c0 : decide (y < 1980) = false := by simp; omega
  have c1 : decide (2107 < y) = true := by simp; omega
  go_enter Tryd.func24, Tryd.ntmps24
  go_wp2
  go_quiet (fail)
  go_wp2
  go_ret
  exact ⟨by simp, ⟨rfl, rfl, rfl, by simp [World.drewN], fun k hk => Below.heap_alloc _ _ _ hk⟩⟩
set_option maxHeartbeats 2000000 in
theorem refRight_2 (y m d h i s : Int) (w : World) (b0 : 1980 ≤ y) (b1 : y ≤ 2107) (b2 : m < 1) : Calls Tryd.prog 24 #[.agg #[.int .i64 y, .int .i64 m, .int .i64 d, .int .i64 h, .int .i64 i, .int .i64 s]] w fun e w' => e = .returned (.bool false) ∧ Below w.heap.size w w' := by
  have c0 : decide (y < 1980) = false := by simp; omega
  have c1 : decide (2107 < y) = false := by simp; omega
  have c2 : decide (m < 1) = true := by simp; omega
  go_enter Tryd.func24, Tryd.ntmps24
  go_wp2
  go_quiet (fail)
  go_wp2
  go_ret
  exact ⟨by simp, ⟨rfl, rfl, rfl, by simp [World.drewN], fun k hk => Below.heap_alloc _ _ _ hk⟩⟩
set_option maxHeartbeats 2000000 in
theorem refRight_3 (y m d h i s : Int) (w : World) (b0 : 1980 ≤ y) (b1 : y ≤ 2107) (b2 : 1 ≤ m) (b3 : 12 < m) : Calls Tryd.prog 24 #[.agg #[.int .i64 y, .int .i64 m, .int .i64 d, .int .i64 h, .int .i64 i, .int .i64 s]] w fun e w' => e = .returned (.bool false) ∧ Below w.heap.size w w' := by
  have c0 : decide (y < 1980) = false := by simp; omega
  have c1 : decide (2107 < y) = false := by simp; omega
  have c2 : decide (m < 1) = false := by simp; omega
  have c3 : decide (12 < m) = true := by simp; omega
  go_enter Tryd.func24, Tryd.ntmps24
  go_wp2
  go_quiet (fail)
  go_wp2
  go_ret
  exact ⟨by simp, ⟨rfl, rfl, rfl, by simp [World.drewN], fun k hk => Below.heap_alloc _ _ _ hk⟩⟩
set_option maxHeartbeats 2000000 in
theorem refRight_4 (y m d h i s : Int) (w : World) (b0 : 1980 ≤ y) (b1 : y ≤ 2107) (b2 : 1 ≤ m) (b3 : m ≤ 12) (b4 : d < 1) : Calls Tryd.prog 24 #[.agg #[.int .i64 y, .int .i64 m, .int .i64 d, .int .i64 h, .int .i64 i, .int .i64 s]] w fun e w' => e = .returned (.bool false) ∧ Below w.heap.size w w' := by
  have c0 : decide (y < 1980) = false := by simp; omega
  have c1 : decide (2107 < y) = false := by simp; omega
  have c2 : decide (m < 1) = false := by simp; omega
  have c3 : decide (12 < m) = false := by simp; omega
  have c4 : decide (d < 1) = true := by simp; omega
  go_enter Tryd.func24, Tryd.ntmps24
  go_wp2
  go_quiet (fail)
  go_wp2
  go_ret
  exact ⟨by simp, ⟨rfl, rfl, rfl, by simp [World.drewN], fun k hk => Below.heap_alloc _ _ _ hk⟩⟩
set_option maxHeartbeats 2000000 in
theorem refRight_5 (y m d h i s : Int) (w : World) (b0 : 1980 ≤ y) (b1 : y ≤ 2107) (b2 : 1 ≤ m) (b3 : m ≤ 12) (b4 : 1 ≤ d) (b5 : days y m < d) : Calls Tryd.prog 24 #[.agg #[.int .i64 y, .int .i64 m, .int .i64 d, .int .i64 h, .int .i64 i, .int .i64 s]] w fun e w' => e = .returned (.bool false) ∧ Below w.heap.size w w' := by
  have c0 : decide (y < 1980) = false := by simp; omega
  have c1 : decide (2107 < y) = false := by simp; omega
  have c2 : decide (m < 1) = false := by simp; omega
  have c3 : decide (12 < m) = false := by simp; omega
  have c4 : decide (d < 1) = false := by simp; omega
  go_enter Tryd.func24, Tryd.ntmps24
  go_wp2
  go_region_held3 (fun w' => w'.cell? ⟨w.heap.size, 0, none⟩ = some (.int .i64 y) ∧ w'.cell? ⟨w.heap.size, 1, none⟩ = some (.int .i64 m) ∧ w'.cell? ⟨w.heap.size, 2, none⟩ = some (.int .i64 d)) (first | go_keep)
    ((first | (go_at_call 48; refine (refDays_any y m _).mono ?_; rintro e w' ⟨rfl, o, rfl⟩)))
  go_wp2
  go_ret
  exact ⟨by simp, (((Below.refl _ _).alloc (Nat.le_refl _) _).alloc (by simp) _).drew⟩
def restB (h i s : Int) : Bool := wi h 0 23 && wi i 0 59 && wi s 0 58 && (s.tmod 2 == 0)
theorem restB_all {h i s : Int} (h1 : 0 ≤ h) (h2 : h < 24) (h3 : 0 ≤ i) (h4 : i < 60) (h5 : 0 ≤ s) (h6 : s < 60) : restB h i s = (s % 2 == 0) := by
  have e : s.tmod 2 = s % 2 := Int.tmod_eq_emod_of_nonneg h5
  unfold restB wi
  rw [e]
  by_cases hs : s ≤ 58
  · simp [h1, h3, h5, hs, show h ≤ 23 from by omega, show i ≤ 59 from by omega]
  · have : s = 59 := by omega
    subst this
    simp
theorem restB_no {h i s : Int} (hh : h < 0 ∨ 24 ≤ h ∨ i < 0 ∨ 60 ≤ i ∨ s < 0 ∨ 60 ≤ s) : restB h i s = false := by
  unfold restB wi
  simp only [Bool.and_eq_false_iff, decide_eq_false_iff_not]
  omega
set_option maxHeartbeats 2000000 in
theorem refRight_6 (y m d h i s : Int) (w : World) (b0 : 1980 ≤ y) (b1 : y ≤ 2107) (b2 : 1 ≤ m) (b3 : m ≤ 12) (b4 : 1 ≤ d) (b5 : d ≤ days y m) : Calls Tryd.prog 24 #[.agg #[.int .i64 y, .int .i64 m, .int .i64 d, .int .i64 h, .int .i64 i, .int .i64 s]] w fun e w' => e = .returned (.bool (restB h i s)) ∧ Below w.heap.size w w' := by
  have c0 : decide (y < 1980) = false := by simp; omega
  have c1 : decide (2107 < y) = false := by simp; omega
  have c2 : decide (m < 1) = false := by simp; omega
  have c3 : decide (12 < m) = false := by simp; omega
  have c4 : decide (d < 1) = false := by simp; omega
  go_enter Tryd.func24, Tryd.ntmps24
  go_wp2
  go_region_held3 (fun w' => w'.cell? ⟨w.heap.size, 0, none⟩ = some (.int .i64 y) ∧ w'.cell? ⟨w.heap.size, 1, none⟩ = some (.int .i64 m) ∧ w'.cell? ⟨w.heap.size, 2, none⟩ = some (.int .i64 d)) (first | go_keep)
    ((first | (go_at_call 48; refine (refDays_any y m _).mono ?_; rintro e w' ⟨rfl, o, rfl⟩)))
  go_wp2
  all_goals
    go_ret
    refine ⟨?_, (((Below.refl _ _).alloc (Nat.le_refl _) _).alloc (by simp) _).drew⟩
    first
      | (rw [restB_all (by assumption) (by assumption) (by assumption) (by assumption) (by assumption) (by assumption)]; simp)
      | (rw [restB_no (by omega)]; simp)
theorem rightB_rest {y m d h i s : Int} (b0 : 1980 ≤ y) (b1 : y ≤ 2107) (b2 : 1 ≤ m) (b3 : m ≤ 12) (b4 : 1 ≤ d) (b5 : d ≤ days y m) : rightB y m d h i s = restB h i s := by
  unfold rightB restB
  have e1 : wi y 1980 2107 = true := by unfold wi; simp; omega
  have e2 : wi m 1 12 = true := by unfold wi; simp; omega
  have e3 : wi d 1 (days y m) = true := by unfold wi; simp; omega
  rw [e1, e2, e3]
  simp
theorem rightB_no {y m d h i s : Int} (hh : y < 1980 ∨ 2107 < y ∨ m < 1 ∨ 12 < m ∨ d < 1 ∨ days y m < d) : rightB y m d h i s = false := by
  unfold rightB wi
  simp only [Bool.and_eq_false_iff, decide_eq_false_iff_not]
  omega
theorem refRight_any (y m d h i s : Int) (w : World) : Calls Tryd.prog 24 #[.agg #[.int .i64 y, .int .i64 m, .int .i64 d, .int .i64 h, .int .i64 i, .int .i64 s]] w fun e w' => e = .returned (.bool (rightB y m d h i s)) ∧ Below w.heap.size w w' := by
  by_cases b0 : y < 1980
  · rw [rightB_no (by omega)]; exact refRight_0 y m d h i s w b0
  by_cases b1 : 2107 < y
  · rw [rightB_no (by omega)]; exact refRight_1 y m d h i s w (by omega) b1
  by_cases b2 : m < 1
  · rw [rightB_no (by omega)]; exact refRight_2 y m d h i s w (by omega) (by omega) b2
  by_cases b3 : 12 < m
  · rw [rightB_no (by omega)]; exact refRight_3 y m d h i s w (by omega) (by omega) (by omega) b3
  by_cases b4 : d < 1
  · rw [rightB_no (by omega)]; exact refRight_4 y m d h i s w (by omega) (by omega) (by omega) (by omega) b4
  by_cases b5 : days y m < d
  · rw [rightB_no (by omega)]; exact refRight_5 y m d h i s w (by omega) (by omega) (by omega) (by omega) (by omega) b5
  rw [rightB_rest (by omega) (by omega) (by omega) (by omega) (by omega) (by omega)]
  exact refRight_6 y m d h i s w (by omega) (by omega) (by omega) (by omega) (by omega) (by omega)
end Go.Proofs.YtcpojpgdjjmfbaaDoor.Dos
