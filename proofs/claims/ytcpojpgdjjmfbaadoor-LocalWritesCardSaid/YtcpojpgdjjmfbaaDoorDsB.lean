/- Contract of dos.Right. -/
import Derived.Test.YtcpojpgdjjmfbaaDoorDsA
namespace Go.Proofs.YtcpojpgdjjmfbaaDoor.Dos
set_option linter.unusedVariables false
set_option linter.unusedSimpArgs false
open Go.RowKit
/-- May the time be? -/
def rightB (y m d h i s : Int) : Bool := wi y 1980 2107 && wi m 1 12 && wi d 1 (days y m) && wi h 0 23 && wi i 0 59 && wi s 0 58 && (s.tmod 2 == 0)
set_option maxHeartbeats 2000000 in
theorem right_0 (y m d h i s : Int) (w : World)  (b0 : wi y 1980 2107 = false) : Calls Tryd.prog 28 #[.agg #[.int .i64 y, .int .i64 m, .int .i64 d, .int .i64 h, .int .i64 i, .int .i64 s]] w fun e w' => e = .returned (.bool false) ∧ Below w.heap.size w w' := by
  go_enter Tryd.func28, Tryd.ntmps28
  go_wp2
  go_quiet ((first | (go_at_call 53; exact Calls.quiet_of_same (within_any _ _ _ _)) | (go_at_call 54; exact Calls.quiet_of_same (days_any _ _ _))))
  go_wp2
  go_ret
  exact ⟨by simp, ⟨rfl, rfl, rfl, by simp [World.drewN], fun k hk => Below.heap_alloc _ _ _ hk⟩⟩
set_option maxHeartbeats 2000000 in
theorem right_1 (y m d h i s : Int) (w : World) (b0 : wi y 1980 2107 = true) (b1 : wi m 1 12 = false) : Calls Tryd.prog 28 #[.agg #[.int .i64 y, .int .i64 m, .int .i64 d, .int .i64 h, .int .i64 i, .int .i64 s]] w fun e w' => e = .returned (.bool false) ∧ Below w.heap.size w w' := by
  go_enter Tryd.func28, Tryd.ntmps28
  go_wp2
  go_quiet ((first | (go_at_call 53; exact Calls.quiet_of_same (within_any _ _ _ _)) | (go_at_call 54; exact Calls.quiet_of_same (days_any _ _ _))))
  go_wp2
  go_ret
  exact ⟨by simp, ⟨rfl, rfl, rfl, by simp [World.drewN], fun k hk => Below.heap_alloc _ _ _ hk⟩⟩
set_option maxHeartbeats 2000000 in
theorem right_2 (y m d h i s : Int) (w : World) (b0 : wi y 1980 2107 = true) (b1 : wi m 1 12 = true) (b2 : wi d 1 (days y m) = false) : Calls Tryd.prog 28 #[.agg #[.int .i64 y, .int .i64 m, .int .i64 d, .int .i64 h, .int .i64 i, .int .i64 s]] w fun e w' => e = .returned (.bool false) ∧ Below w.heap.size w w' := by
  go_enter Tryd.func28, Tryd.ntmps28
  go_wp2
  go_quiet ((first | (go_at_call 53; exact Calls.quiet_of_same (within_any _ _ _ _)) | (go_at_call 54; exact Calls.quiet_of_same (days_any _ _ _))))
  go_wp2
  go_ret
  exact ⟨by simp, ⟨rfl, rfl, rfl, by simp [World.drewN], fun k hk => Below.heap_alloc _ _ _ hk⟩⟩
set_option maxHeartbeats 2000000 in
theorem right_3 (y m d h i s : Int) (w : World) (b0 : wi y 1980 2107 = true) (b1 : wi m 1 12 = true) (b2 : wi d 1 (days y m) = true) (b3 : wi h 0 23 = false) : Calls Tryd.prog 28 #[.agg #[.int .i64 y, .int .i64 m, .int .i64 d, .int .i64 h, .int .i64 i, .int .i64 s]] w fun e w' => e = .returned (.bool false) ∧ Below w.heap.size w w' := by
  go_enter Tryd.func28, Tryd.ntmps28
  go_wp2
  go_quiet ((first | (go_at_call 53; exact Calls.quiet_of_same (within_any _ _ _ _)) | (go_at_call 54; exact Calls.quiet_of_same (days_any _ _ _))))
  go_wp2
  go_ret
  exact ⟨by simp, ⟨rfl, rfl, rfl, by simp [World.drewN], fun k hk => Below.heap_alloc _ _ _ hk⟩⟩
set_option maxHeartbeats 2000000 in
theorem right_4 (y m d h i s : Int) (w : World) (b0 : wi y 1980 2107 = true) (b1 : wi m 1 12 = true) (b2 : wi d 1 (days y m) = true) (b3 : wi h 0 23 = true) (b4 : wi i 0 59 = false) : Calls Tryd.prog 28 #[.agg #[.int .i64 y, .int .i64 m, .int .i64 d, .int .i64 h, .int .i64 i, .int .i64 s]] w fun e w' => e = .returned (.bool false) ∧ Below w.heap.size w w' := by
  go_enter Tryd.func28, Tryd.ntmps28
  go_wp2
  go_quiet ((first | (go_at_call 53; exact Calls.quiet_of_same (within_any _ _ _ _)) | (go_at_call 54; exact Calls.quiet_of_same (days_any _ _ _))))
  go_wp2
  go_ret
  exact ⟨by simp, ⟨rfl, rfl, rfl, by simp [World.drewN], fun k hk => Below.heap_alloc _ _ _ hk⟩⟩
set_option maxHeartbeats 2000000 in
theorem right_5 (y m d h i s : Int) (w : World) (b0 : wi y 1980 2107 = true) (b1 : wi m 1 12 = true) (b2 : wi d 1 (days y m) = true) (b3 : wi h 0 23 = true) (b4 : wi i 0 59 = true) (b5 : wi s 0 58 = false) : Calls Tryd.prog 28 #[.agg #[.int .i64 y, .int .i64 m, .int .i64 d, .int .i64 h, .int .i64 i, .int .i64 s]] w fun e w' => e = .returned (.bool false) ∧ Below w.heap.size w w' := by
  go_enter Tryd.func28, Tryd.ntmps28
  go_wp2
  go_quiet ((first | (go_at_call 53; exact Calls.quiet_of_same (within_any _ _ _ _)) | (go_at_call 54; exact Calls.quiet_of_same (days_any _ _ _))))
  go_wp2
  go_ret
  exact ⟨by simp, ⟨rfl, rfl, rfl, by simp [World.drewN], fun k hk => Below.heap_alloc _ _ _ hk⟩⟩
set_option maxHeartbeats 2000000 in
theorem right_6 (y m d h i s : Int) (w : World) (b0 : wi y 1980 2107 = true) (b1 : wi m 1 12 = true) (b2 : wi d 1 (days y m) = true) (b3 : wi h 0 23 = true) (b4 : wi i 0 59 = true) (b5 : wi s 0 58 = true) (b6 : (s.tmod 2 == 0) = false) : Calls Tryd.prog 28 #[.agg #[.int .i64 y, .int .i64 m, .int .i64 d, .int .i64 h, .int .i64 i, .int .i64 s]] w fun e w' => e = .returned (.bool false) ∧ Below w.heap.size w w' := by
  go_enter Tryd.func28, Tryd.ntmps28
  go_wp2
  go_quiet ((first | (go_at_call 53; exact Calls.quiet_of_same (within_any _ _ _ _)) | (go_at_call 54; exact Calls.quiet_of_same (days_any _ _ _))))
  go_wp2
  go_ret
  exact ⟨by simp, ⟨rfl, rfl, rfl, by simp [World.drewN], fun k hk => Below.heap_alloc _ _ _ hk⟩⟩
set_option maxHeartbeats 2000000 in
theorem right_7 (y m d h i s : Int) (w : World) (b0 : wi y 1980 2107 = true) (b1 : wi m 1 12 = true) (b2 : wi d 1 (days y m) = true) (b3 : wi h 0 23 = true) (b4 : wi i 0 59 = true) (b5 : wi s 0 58 = true) (b6 : (s.tmod 2 == 0) = true) : Calls Tryd.prog 28 #[.agg #[.int .i64 y, .int .i64 m, .int .i64 d, .int .i64 h, .int .i64 i, .int .i64 s]] w fun e w' => e = .returned (.bool true) ∧ Below w.heap.size w w' := by
  go_enter Tryd.func28, Tryd.ntmps28
  go_wp2
  go_quiet ((first | (go_at_call 53; exact Calls.quiet_of_same (within_any _ _ _ _)) | (go_at_call 54; exact Calls.quiet_of_same (days_any _ _ _))))
  go_wp2
  go_ret
  exact ⟨by simp, ⟨rfl, rfl, rfl, by simp [World.drewN], fun k hk => Below.heap_alloc _ _ _ hk⟩⟩
theorem right_any (y m d h i s : Int) (w : World) : Calls Tryd.prog 28 #[.agg #[.int .i64 y, .int .i64 m, .int .i64 d, .int .i64 h, .int .i64 i, .int .i64 s]] w fun e w' => e = .returned (.bool (rightB y m d h i s)) ∧ Below w.heap.size w w' := by
  cases b0 : wi y 1980 2107 with
  | false =>
    have e : rightB y m d h i s = false := by simp [rightB, b0]
    rw [e]
    exact right_0 y m d h i s w b0
  | true =>
    cases b1 : wi m 1 12 with
    | false =>
      have e : rightB y m d h i s = false := by simp [rightB, b1]
      rw [e]
      exact right_1 y m d h i s w b0 b1
    | true =>
      cases b2 : wi d 1 (days y m) with
      | false =>
        have e : rightB y m d h i s = false := by simp [rightB, b2]
        rw [e]
        exact right_2 y m d h i s w b0 b1 b2
      | true =>
        cases b3 : wi h 0 23 with
        | false =>
          have e : rightB y m d h i s = false := by simp [rightB, b3]
          rw [e]
          exact right_3 y m d h i s w b0 b1 b2 b3
        | true =>
          cases b4 : wi i 0 59 with
          | false =>
            have e : rightB y m d h i s = false := by simp [rightB, b4]
            rw [e]
            exact right_4 y m d h i s w b0 b1 b2 b3 b4
          | true =>
            cases b5 : wi s 0 58 with
            | false =>
              have e : rightB y m d h i s = false := by simp [rightB, b5]
              rw [e]
              exact right_5 y m d h i s w b0 b1 b2 b3 b4 b5
            | true =>
              cases b6 : (s.tmod 2 == 0) with
              | false =>
                have e : rightB y m d h i s = false := by simp [rightB, b6]
                rw [e]
                exact right_6 y m d h i s w b0 b1 b2 b3 b4 b5 b6
              | true =>
                have e : rightB y m d h i s = true := by simp [rightB, b0, b1, b2, b3, b4, b5]; simpa using b6
                rw [e]
                exact right_7 y m d h i s w b0 b1 b2 b3 b4 b5 b6
end Go.Proofs.YtcpojpgdjjmfbaaDoor.Dos
