/- The page's takes. -/
import Derived.Test.YtlmdpmfahfgjkaaDoorGlP
namespace Go.Proofs.YtlmdpmfahfgjkaaDoor
set_option maxRecDepth 100000
set_option linter.unusedVariables false
set_option linter.unusedSimpArgs false
open Go.RowKit
theorem inR_take (rs : List (Int × Int)) (j : Nat) (c lo hi : Int) (h : rs[j]? = some (lo, hi)) : inR (rs.take (j + 1)) c = (inR (rs.take j) c || (decide (lo ≤ c) && decide (c ≤ hi))) := by
  obtain ⟨hj, e⟩ := List.getElem?_eq_some_iff.1 h
  rw [List.take_succ_eq_append_getElem hj, e]
  unfold inR
  rw [List.any_append]
  simp
set_option maxHeartbeats 4000000 in
theorem refTakes_any (p : PartV) (c : Int) (B : Nat) (u : Value) (w : World) (hs : Sl w B 2 u p.rs.length (rcells .i64 p.rs)) (hB : B ≤ w.heap.size) (hl : p.rs.length ≤ 2000000) :
    Calls Tryd.prog 26 #[.agg #[.int .i64 p.kind, .int .i64 p.sign, u, .bool p.neg], .int .i64 c] w fun e w' => e = .returned (.bool (takes p c)) ∧ Below w.heap.size w w' := by
  obtain ⟨kind, sign, rs, neg⟩ := p
  obtain ⟨a, cap, rfl, hcap⟩ := hs.form
  simp only at hs hl hcap ⊢
  have hA1 := (Below.refl w.heap.size w).alloc (Nat.le_refl _) (.cells #[.int .i64 kind, .int .i64 sign, .slice a rs.length cap, .bool neg] 56)
  have HP := Lib.hid (Own.new_at w [.int .i64 kind, .int .i64 sign, .slice a rs.length cap, .bool neg] 56 w.heap.size rfl)
  have HB := Lib.hid hA1
  have HS := Lib.hid (hs.below (hA1.mono hB))
  clear hA1 hs
  go_enter Tryd.func26, Tryd.ntmps26
  go_upto_region 1 with (fail)
  generalize w.alloc (.cells #[.int .i64 kind, .int .i64 sign, .slice a rs.length cap, .bool neg] 56) = w1 at *
  have y0 := HP.out.1 0 _ rfl
  have y1 := HP.out.1 1 _ rfl
  have y2 := HP.out.1 2 _ rfl
  have y3 := HP.out.1 3 _ rfl
  by_cases h1 : kind = 1
  · subst h1
    have HT : Hid (takes ⟨1, sign, rs, neg⟩ c = (c == sign)) := Lib.hid rfl
    clear y2 y3
    go_wp2_with (fail)
    go_ret
    exact ⟨by rw [HT.out]; rfl, HB.out⟩
  have t1 : (kind == 1) = false := by simpa using h1
  by_cases h2 : kind = 2
  · subst h2
    have HT : Hid (takes ⟨2, sign, rs, neg⟩ c = (c != 47)) := Lib.hid rfl
    clear y1 y2 y3
    go_wp2_with (fail)
    go_ret
    exact ⟨by rw [HT.out]; rfl, HB.out⟩
  have t2 : (kind == 2) = false := by simpa using h2
  by_cases h3 : kind = 3
  · subst h3
    have HT : Hid (takes ⟨3, sign, rs, neg⟩ c = (c != 47)) := Lib.hid rfl
    clear y1 y2 y3
    go_wp2_with (fail)
    go_ret
    exact ⟨by rw [HT.out]; rfl, HB.out⟩
  have t3 : (kind == 3) = false := by simpa using h3
  by_cases h4 : kind = 4
  · subst h4
    have HT : Hid (takes ⟨4, sign, rs, neg⟩ c = true) := Lib.hid rfl
    clear y1 y2 y3
    go_wp2_with (fail)
    go_ret
    exact ⟨by rw [HT.out]; rfl, HB.out⟩
  have t4 : (kind == 4) = false := by simpa using h4
  by_cases h5 : kind = 5
  · subst h5
    have HT : Hid (takes ⟨5, sign, rs, neg⟩ c = (c != 47 && (inR rs c != neg))) := Lib.hid rfl
    clear y1
    go_wp2_with (fail)
    clear t1 t2 t3 t4 h1 h2 h3 h4
    go_loop [5, 6] (fun b i => ∃ (j : Nat) (y : Bool), i = .int .i64 j ∧ b = .bool y ∧ j ≤ rs.length ∧ Hid (y = inR (rs.take j) c)) (fun _ i => rs.length - (intOf i).toNat)
    case atStart => exact ⟨0, false, rfl, rfl, by omega, Lib.hid rfl⟩
    case round =>
      obtain ⟨j, y, rfl, rfl, hj, HY⟩ := hrel
      by_cases hlt : j < rs.length
      rotate_left
      · have d1 : decide (j < rs.length) = false := decide_eq_false (by omega)
        have d2 : decide ((j : Int) < (rs.length : Int)) = false := decide_eq_false (by omega)
        have HY2 : Hid (y = inR rs c) := Lib.hid (by
          have := HY.out
          rwa [List.take_of_length_le (by omega)] at this)
        clear hlt
        cases hc : (c != 47)
        all_goals
          rw [hc] at HT
          go_wp2_with (fail)
          go_ret
          exact ⟨by rw [HT.out, ← HY2.out]; rfl, HB.out⟩
      have d1 : decide (j < rs.length) = true := decide_eq_true hlt
      have d2 : decide ((j : Int) < (rs.length : Int)) = true := decide_eq_true (by omega)
      have q1 : IntKind.i64.wrap ((j : Int) + 1) = (j : Int) + 1 := IntWalk.i64_in _ (by omega)
      obtain ⟨⟨lo, hi⟩, hr⟩ : ∃ r, rs[j]? = some r := ⟨_, List.getElem?_eq_getElem hlt⟩
      obtain ⟨b, off, rfl, s0, s1⟩ := sl_at HS.out hr
      have HN := Lib.hid (inR_take rs j c lo hi hr)
      simp only at s0 s1
      clear hr
      cases y with
      | true =>
        have HY2 : Hid (true = inR (rs.take (j + 1)) c) := Lib.hid (by rw [HN.out, ← HY.out]; rfl)
        go_wp2_with (fail)
        go_round
        case rel => exact ⟨j + 1, true, rfl, rfl, hlt, HY2⟩
        case measure => simp [intOf] <;> omega
      | false =>
        cases e1 : decide (lo ≤ c) with
        | false =>
          have HY2 : Hid (false = inR (rs.take (j + 1)) c) := Lib.hid (by rw [HN.out, ← HY.out, e1]; rfl)
          go_wp2_with (fail)
          go_round
          case rel => exact ⟨j + 1, false, rfl, rfl, hlt, HY2⟩
          case measure => simp [intOf] <;> omega
        | true =>
          have HY2 : Hid (decide (c ≤ hi) = inR (rs.take (j + 1)) c) := Lib.hid (by rw [HN.out, ← HY.out, e1]; rfl)
          go_wp2_with (fail)
          go_round
          case rel => exact ⟨j + 1, decide (c ≤ hi), rfl, rfl, hlt, HY2⟩
          case measure => simp [intOf] <;> omega
  have t5 : (kind == 5) = false := by simpa using h5
  have HT : Hid (takes ⟨kind, sign, rs, neg⟩ c = false) := Lib.hid (by
    unfold takes
    simp only
    rw [if_neg h1, if_neg (by omega), if_neg h4, if_neg h5])
  clear h1 h2 h3 h4 h5 y1 y2 y3
  go_wp2_with (fail)
  go_ret
  exact ⟨by rw [HT.out]; rfl, HB.out⟩
end Go.Proofs.YtlmdpmfahfgjkaaDoor
