/- Contracts of punnetref01.End and Run. -/
import Derived.Test.YtkoimdlnkaphcaaTrapA
import Derived.Test.YtkoimdlnkaphcaaTrapPlain
import Derived.Deep.QuietTactic
import Derived.BigQuiet
namespace Go.Proofs.Ytkoimdlnkaphcaa
open Go.RowKit Plain
/-- The cells of steps from an address on. -/
def StepsAt (w : World) (b off : Nat) (l : List St) : Prop :=
  ∀ j, j < l.length → w.cell? ⟨b, off + j * 2, none⟩ = some (.int .i64 (l.getD j (0, 0)).1) ∧ w.cell? ⟨b, off + j * 2 + 1, none⟩ = some (.int .i64 (l.getD j (0, 0)).2)
theorem drop_cons {l : List St} {j : Nat} (h : j < l.length) : l.drop j = l.getD j (0, 0) :: l.drop (j + 1) := by
  rw [List.drop_eq_getElem_cons h]; simp [h]
theorem end_step {l : List St} {j d : Nat} (h : j < l.length) : endAt (l.drop j) d = if (l.getD j (0, 0)).1 = 3 then 1 + endAt (l.drop (j + 1)) (d + 1) else if (l.getD j (0, 0)).1 = 4 then (if d = 0 then 0 else 1 + endAt (l.drop (j + 1)) (d - 1)) else 1 + endAt (l.drop (j + 1)) d := by
  rw [drop_cons h]; rfl
set_option maxHeartbeats 400000 in
theorem end_any (b off cap : Nat) (l : List St) (k : Nat) (w : World) (hl : l.length ≤ 1000) (hk : k ≤ l.length) (hs : StepsAt w b off l) :
    Calls Try.prog 29 #[.slice (some ⟨b, off, none⟩) l.length cap, .int .i64 k] w fun e w' => e = .returned (.int .i64 ((k + endAt (l.drop k) 0 : Nat) : Int)) ∧ w = w' := by
  have HS := Lib.hid hs
  clear hs
  go_enter Try.func29, Try.ntmps29
  go_wp2
  go_loop [5, 6] (fun dv iv => ∃ j d : Nat, j ≤ l.length ∧ d ≤ j ∧ dv = .int .i64 d ∧ iv = .int .i64 j ∧ Hid (k + endAt (l.drop k) 0 = j + endAt (l.drop j) d)) (fun _ iv => l.length - (intOf iv).toNat)
  case atStart => exact ⟨k, 0, hk, Nat.zero_le _, rfl, rfl, rfl⟩
  case round =>
    obtain ⟨j, d, hj, hd, rfl, rfl, hrel⟩ := hrel
    by_cases hlt : j < l.length
    · obtain ⟨hc0, hc1⟩ := HS.out j hlt
      have hst := end_step (d := d) hlt
      have HST := Lib.hid hst
      clear hst
      generalize l.getD j (0, 0) = x at *
      obtain ⟨kd, cd⟩ := x
      go_wp2
      · have h3 : kd = 3 := by simpa using ‹(kd == 3) = true›
        go_round
        case rel => exact ⟨j + 1, d + 1, by omega, by omega, by go_num, by go_num, by
          have h1 := HST.out; have h2 := hrel.out; show k + _ = _; rw [h2, h1, if_pos h3]; omega⟩
        case measure => simp [intOf]; omega
      · have h3 : ¬ kd = 3 := by simpa using ‹(kd == 3) = false›
        have h4 : kd = 4 := by simpa using ‹(kd == 4) = true›
        have h5 : d = 0 := by simpa using ‹((d : Int) == 0) = true›
        go_ret
        have h1 := HST.out
        have h2 := hrel.out
        rw [if_neg h3, if_pos h4, if_pos h5] at h1
        refine ⟨?_, rfl⟩
        show Ending.returned (.int .i64 (j : Int)) = .returned (.int .i64 _)
        rw [show (j : Int) = ((k + endAt (l.drop k) 0 : Nat) : Int) from by omega]; simp
      · have h3 : ¬ kd = 3 := by simpa using ‹(kd == 3) = false›
        have h4 : kd = 4 := by simpa using ‹(kd == 4) = true›
        have h5 : ¬ d = 0 := by simpa using ‹((d : Int) == 0) = false›
        go_round
        case rel => exact ⟨j + 1, d - 1, by omega, by omega, by congr 1; omega, by go_num, by
          have h1 := HST.out; have h2 := hrel.out; show k + _ = _; rw [h2, h1, if_neg h3, if_pos h4, if_neg h5]; omega⟩
        case measure => simp [intOf]; omega
      · have h3 : ¬ kd = 3 := by simpa using ‹(kd == 3) = false›
        have h4 : ¬ kd = 4 := by simpa using ‹(kd == 4) = false›
        go_round
        case rel => exact ⟨j + 1, d, by omega, by omega, by go_num, by go_num, by
          have h1 := HST.out; have h2 := hrel.out; show k + _ = _; rw [h2, h1, if_neg h3, if_neg h4]; omega⟩
        case measure => simp [intOf]; omega
    · go_wp2
      go_ret
      have h2 := hrel.out
      rw [List.drop_eq_nil_of_le (show l.length ≤ j by omega)] at h2
      simp only [endAt] at h2
      refine ⟨?_, rfl⟩
      show Ending.returned (.int .i64 (l.length : Int)) = .returned (.int .i64 _)
      rw [show (l.length : Int) = ((k + endAt (l.drop k) 0 : Nat) : Int) from by omega]; simp
theorem ref_step {l : List St} {j d : Nat} (h : j < l.length) : ref (l.drop j) d =
    if (l.getD j (0, 0)).1 = 0 then ((ref (l.drop (j + 1)) d).1 + 1, (ref (l.drop (j + 1)) d).2)
    else if (l.getD j (0, 0)).1 = 1 then (if d = 0 then (0, (l.getD j (0, 0)).2) else ((ref (l.drop (j + 1 + (endAt (l.drop (j + 1)) 0 + 1))) (d - 1)).1 + 1000, (ref (l.drop (j + 1 + (endAt (l.drop (j + 1)) 0 + 1))) (d - 1)).2))
    else if (l.getD j (0, 0)).1 = 3 then ref (l.drop (j + 1)) (d + 1)
    else if (l.getD j (0, 0)).1 = 4 then ref (l.drop (j + 1)) (d - 1)
    else ref (l.drop (j + 1)) d := by
  conv => lhs; rw [drop_cons h, ref]
  rw [List.drop_drop]
theorem max_zero (d : Nat) : max ((d : Int) - 1) 0 = ((d - 1 : Nat) : Int) := by omega
set_option maxHeartbeats 1000000 in
theorem refRun_any (b off cap : Nat) (l : List St) (w : World) (hl : l.length ≤ 1000) (hs : StepsAt w b off l) :
    Calls Try.prog 9 #[.slice (some ⟨b, off, none⟩) l.length cap] w fun e w' => e = .returned (.tuple #[.int .i64 (ref l 0).1, .int .i64 (ref l 0).2]) ∧ ∃ n, w' = w.drewN n := by
  have HS := Lib.hid hs
  clear hs
  go_enter Try.func9, Try.ntmps9
  go_wp2
  go_loop [4, 5, 6] (fun nv dv iv => ∃ (j d : Nat) (n : Int), j ≤ l.length + 1 ∧ d ≤ j ∧ 0 ≤ n ∧ n ≤ 1000 * j ∧ nv = .int .i64 n ∧ dv = .int .i64 d ∧ iv = .int .i64 j ∧ Hid (ref l 0 = (n + (ref (l.drop j) d).1, (ref (l.drop j) d).2))) (fun _ _ iv => l.length - (intOf iv).toNat)
  case atStart => exact ⟨0, 0, 0, Nat.zero_le _, Nat.zero_le _, by omega, by omega, rfl, rfl, rfl, by show _ = _; simp⟩
  case round =>
    obtain ⟨j, d, n, hj, hd, hn0, hn1, rfl, rfl, rfl, hrel⟩ := hrel
    by_cases hlt : j < l.length
    · obtain ⟨hc0, hc1⟩ := HS.out j hlt
      have hst := ref_step (d := d) hlt
      have HST := Lib.hid hst
      clear hst
      have hle := endAt_le (l.drop (j + 1)) 0
      rw [List.length_drop] at hle
      generalize l.getD j (0, 0) = x at *
      obtain ⟨kd, cd⟩ := x
      go_wp2_with (go_at_call 29; refine (end_any b off cap l (j + 1) _ hl (by omega) (HS.out)).mono ?_; rintro e w' ⟨rfl, rfl⟩)
      · have h0 : kd = 0 := by simpa using ‹(kd == 0) = true›
        go_round
        case rel => exact ⟨j + 1, d, n + 1, by omega, by omega, by omega, by omega, by go_num, by go_num, by go_num, by
          have h1 := HST.out; have h2 := hrel.out; show ref l 0 = _; rw [h2, h1, if_pos h0]; simp only [Prod.mk.injEq, and_true]; omega⟩
        case measure => simp [intOf]; omega
      · have h0 : ¬ kd = 0 := by simpa using ‹(kd == 0) = false›
        have h1 : kd = 1 := by simpa using ‹(kd == 1) = true›
        have h5 : d = 0 := by simpa using ‹((d : Int) == 0) = true›
        have hfin : ref l 0 = (n, cd) := by
          have h3 := HST.out; have h2 := hrel.out; rw [h2, h3, if_neg h0, if_pos h1, if_pos h5]; simp
        have HF := Lib.hid hfin
        clear hfin h0 h1 h5
        go_quiet (fail)
        go_wp2
        go_ret2
        exact ⟨by rw [HF.out]; rfl, _, rfl⟩
      · have h0 : ¬ kd = 0 := by simpa using ‹(kd == 0) = false›
        have h1 : kd = 1 := by simpa using ‹(kd == 1) = true›
        have h5 : ¬ d = 0 := by simpa using ‹((d : Int) == 0) = false›
        go_round
        case rel => exact ⟨j + 1 + (endAt (l.drop (j + 1)) 0 + 1), d - 1, n + 1000, by omega, by omega, by omega, by omega, by go_num, by congr 1; omega, by congr 1, by
          have h3 := HST.out; have h2 := hrel.out; show ref l 0 = _; rw [h2, h3, if_neg h0, if_pos h1, if_neg h5]; simp only [Prod.mk.injEq, and_true]; omega⟩
        case measure => simp [intOf]; omega
      · have h0 : ¬ kd = 0 := by simpa using ‹(kd == 0) = false›
        have h1 : ¬ kd = 1 := by simpa using ‹(kd == 1) = false›
        have h3 : kd = 3 := by simpa using ‹(kd == 3) = true›
        go_round
        case rel => exact ⟨j + 1, d + 1, n, by omega, by omega, by omega, by omega, by go_num, by go_num, by go_num, by
          have h4 := HST.out; have h2 := hrel.out; show ref l 0 = _; rw [h2, h4, if_neg h0, if_neg h1, if_pos h3]⟩
        case measure => simp [intOf]; omega
      · have h0 : ¬ kd = 0 := by simpa using ‹(kd == 0) = false›
        have h1 : ¬ kd = 1 := by simpa using ‹(kd == 1) = false›
        have h3 : ¬ kd = 3 := by simpa using ‹(kd == 3) = false›
        have h4 : kd = 4 := by simpa using ‹(kd == 4) = true›
        go_round
        case rel => exact ⟨j + 1, d - 1, n, by omega, by omega, by omega, by omega, by go_num, by congr 1; split <;> omega, by go_num, by
          have h5 := HST.out; have h2 := hrel.out; show ref l 0 = _; rw [h2, h5, if_neg h0, if_neg h1, if_neg h3, if_pos h4]⟩
        case measure => simp [intOf]; omega
      · have h0 : ¬ kd = 0 := by simpa using ‹(kd == 0) = false›
        have h1 : ¬ kd = 1 := by simpa using ‹(kd == 1) = false›
        have h3 : ¬ kd = 3 := by simpa using ‹(kd == 3) = false›
        have h4 : ¬ kd = 4 := by simpa using ‹(kd == 4) = false›
        go_round
        case rel => exact ⟨j + 1, d, n, by omega, by omega, by omega, by omega, by go_num, by go_num, by go_num, by
          have h5 := HST.out; have h2 := hrel.out; show ref l 0 = _; rw [h2, h5, if_neg h0, if_neg h1, if_neg h3, if_neg h4]⟩
        case measure => simp [intOf]; omega
    · go_wp2
      go_ret2
      refine ⟨?_, 0, rfl⟩
      have h2 := hrel.out
      rw [List.drop_eq_nil_of_le (show l.length ≤ j by omega)] at h2
      rw [h2]
      simp [ref]
theorem refRun_nil (a : Option Addr) (cap : Nat) (w : World) :
    Calls Try.prog 9 #[.slice a 0 cap] w fun e w' => e = .returned (.tuple #[.int .i64 0, .int .i64 0]) ∧ w = w' := by
  go_enter Try.func9, Try.ntmps9
  go_wp2
  refine wp_loop_rounds 1 ?_
  rw [rounds_succ]
  go_wp2
  go_ret2
  exact ⟨rfl, rfl⟩
end Go.Proofs.Ytkoimdlnkaphcaa
