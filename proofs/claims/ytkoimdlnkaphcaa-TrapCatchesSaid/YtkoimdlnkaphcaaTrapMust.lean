/- Statement TrapMust of layer 1: whatever the value, the error's number and the truth, what is taken of them is what the page says. No condition. -/
import Derived.Test.YtkoimdlnkaphcaaTrapD
import Derived.Test.YtkoimdlnkaphcaaLaw
import Derived.StillTailTactics
namespace Go.Proofs.Ytkoimdlnkaphcaa
open Go.RowKit
theorem cf_awake1 (cap : Array Value) (w : World) : (callFunc 28 cap).run Try.prog w = .ok (.enter 28 cap) w := by kernel_rfl
theorem awake1_any (w : World) : Calls Try.prog 28 #[] w fun e w' => e = .panicked (fault 3) ∧ w = w' := by
  go_enter Try.func28, Try.ntmps28
  go_wp2_with fail
  refine (throw_any 3 _).mono ?_
  rintro e w' ⟨rfl, rfl⟩
  go_wp2
  exact ⟨rfl, rfl, rfl⟩
theorem awake_any (w : World) : Calls Try.prog 7 #[] w fun e w' => e = .returned (.bool true) ∧ Below w.heap.size w w' := by
  have hc := catch_any 28 #[] w _ (fun W => cf_awake1 _ W) (awake1_any _) (by
    rintro e w1 ⟨rfl, rfl⟩
    exact ⟨by simp, by simp, by simp, .inr ⟨3, rfl⟩⟩)
  have HC := Lib.hid hc
  clear hc
  go_enter Try.func7, Try.ntmps7
  go_wp2_with fail
  refine HC.out.mono ?_
  rintro e w' ⟨e1, w1, ⟨rfl, rfl⟩, hg, h3⟩
  rcases h3 with ⟨hc, _⟩ | ⟨c', hc, rfl⟩
  · cases hc
  · obtain rfl := fault_inj (Ending.panicked.inj hc)
    have hb : Below w.heap.size w w' := ((Below.refl _ _).alloc (Nat.le_refl _) _).trans (gr_below hg _ (by simp) (by simp))
    have HB := Lib.hid hb
    clear hb hg
    go_wp2
    go_ret
    exact ⟨rfl, HB.out⟩
theorem check_yes (c : Int) (w : World) : Calls Try.prog 27 #[.bool true, .int .i64 c] w fun e w' => e = .returned (.tuple #[]) ∧ w = w' := by
  go_enter Try.func27, Try.ntmps27
  go_wp2
  go_end0
  exact ⟨rfl, rfl⟩
theorem check_no (c : Int) (w : World) : Calls Try.prog 27 #[.bool false, .int .i64 c] w fun e w' => e = .panicked (fault c) ∧ w = w' := by
  go_enter Try.func27, Try.ntmps27
  go_wp2_with fail
  refine (throw_any c _).mono ?_
  rintro e w' ⟨rfl, rfl⟩
  go_wp2
  exact ⟨rfl, rfl, rfl⟩
def checkEnd (b : Bool) (c : Int) : Ending := if b then .returned (.tuple #[]) else .panicked (fault c)
set_option maxHeartbeats 400000 in
theorem must2_any (p q : Addr) (b : Bool) (n : Int) (w : World) (hp : w.cell? p = some (.bool b)) (hq : w.cell? q = some (.int .i64 n)) :
    Calls Try.prog 26 #[.pointer (some p), .pointer (some q)] w fun e w' => e = checkEnd b (1 + low6 n) ∧ ∃ k, w' = w.drewN k := by
  cases b
  · go_enter Try.func26, Try.ntmps26
    refine wp_region_still_tail 3 (by kernel_rfl) (by kernel_rfl) ?_
    simp only [List.take_succ_cons, List.take_zero, List.drop_succ_cons, List.drop_zero]
    change wpStill _ _ w.drew _ _ _
    still_step
    still_step
    still_call (code_any n _)
    refine wpStill_nil ?_
    change wpList _ _ _ _ _ w.drew
    go_wp2_with fail
    refine (check_no _ _).mono ?_
    rintro e w' ⟨rfl, rfl⟩
    go_wp2
    exact ⟨rfl, rfl, 1, rfl⟩
  · go_enter Try.func26, Try.ntmps26
    refine wp_region_still_tail 3 (by kernel_rfl) (by kernel_rfl) ?_
    simp only [List.take_succ_cons, List.take_zero, List.drop_succ_cons, List.drop_zero]
    change wpStill _ _ w.drew _ _ _
    still_step
    still_step
    still_call (code_any n _)
    refine wpStill_nil ?_
    change wpList _ _ _ _ _ w.drew
    go_wp2_with fail
    refine (check_yes _ _).mono ?_
    rintro e w' ⟨rfl, rfl⟩
    go_wp2
    go_end0
    exact ⟨rfl, 1, rfl⟩
theorem cf_must1 (cap : Array Value) (w : World) : (callFunc 24 cap).run Try.prog w = .ok (.enter 24 cap) w := by kernel_rfl
theorem cf_must2 (cap : Array Value) (w : World) : (callFunc 26 cap).run Try.prog w = .ok (.enter 26 cap) w := by kernel_rfl
def mustEnd (v c : Int) : Ending := if c = 0 then .returned (.int .u64 v) else .panicked (fault c)
theorem must_any (v c : Int) (w : World) : Calls Try.prog 25 #[.int .u64 v, .int .i64 c] w fun e w' => e = mustEnd v c ∧ w = w' := by
  by_cases h : c = 0
  · have hz : (c != 0) = false := by simp [h]
    have H : Hid (mustEnd v c = .returned (.int .u64 v)) := by show _ = _; simp [mustEnd, h]
    clear h
    go_enter Try.func25, Try.ntmps25
    go_wp2
    go_ret
    exact ⟨H.out.symm, rfl⟩
  · have hz : (c != 0) = true := by simp [h]
    have H : Hid (mustEnd v c = .panicked (fault c)) := by show _ = _; simp [mustEnd, h]
    clear h
    go_enter Try.func25, Try.ntmps25
    go_wp2_with fail
    refine (throw_any c _).mono ?_
    rintro e w' ⟨rfl, rfl⟩
    go_wp2
    exact ⟨rfl, H.out.symm, rfl⟩
theorem mustEnd_cases (v c : Int) : (c = 0 ∧ mustEnd v c = .returned (.int .u64 v)) ∨ (¬ c = 0 ∧ mustEnd v c = .panicked (fault c)) := by
  unfold mustEnd
  by_cases h : c = 0
  · exact .inl ⟨h, if_pos h⟩
  · exact .inr ⟨h, if_neg h⟩
theorem must1_any (p q : Addr) (v n : Int) (w : World) (hp : w.cell? p = some (.int .u64 v)) (hq : w.cell? q = some (.int .i64 n)) :
    Calls Try.prog 24 #[.pointer (some p), .pointer (some q)] w fun e w' => e = mustEnd v (low6 n) ∧ w = w' := by
  have hd : bits .and .i64 n 63 = low6 n := rfl
  go_enter Try.func24, Try.ntmps24
  go_wp2_with fail
  refine (must_any v (low6 n) _).mono ?_
  rintro e w' ⟨rfl, rfl⟩
  rcases mustEnd_cases v (low6 n) with ⟨_, h⟩ | ⟨_, h⟩
  · rw [h]
    simp only
    have H := Lib.hid h
    clear h
    go_wp2
    go_ret
    exact ⟨H.out.symm, rfl⟩
  · rw [h]
    simp only
    have H := Lib.hid h
    clear h
    go_wp2
    exact ⟨rfl, H.out.symm, rfl⟩
theorem below_drewN {B : Nat} {a w : World} (h : Below B a w) (n : Nat) : Below B a (w.drewN n) := ⟨h.os, h.tape, h.output, h.size, h.block⟩
theorem tryMust (p q : Addr) (v n : Int) (w : World) (hp : w.cell? p = some (.int .u64 v)) (hq : w.cell? q = some (.int .i64 n)) (lp : p.block < w.heap.size) (lq : q.block < w.heap.size) :
    Calls Try.prog 23 #[.func (.func 24) #[] #[.pointer (some p), .pointer (some q)]] w fun e w' => e = .returned (.tuple #[.int .u64 (if low6 n = 0 then v else 0), .int .i64 (low6 n)]) ∧ Below w.heap.size w w' := by
  have hb := tryW_u64_below 24 #[.pointer (some p), .pointer (some q)] w
  refine (try_u64 24 _ w _ (fun W => cf_must1 _ W) (must1_any p q v n _ ((hb.cell lp).trans hp) ((hb.cell lq).trans hq)) ?_).mono ?_
  · rintro e w1 ⟨rfl, rfl⟩
    refine ⟨⟨none, by simp, only_refl _ _⟩, ?_⟩
    rcases mustEnd_cases v (low6 n) with ⟨_, h⟩ | ⟨_, h⟩
    · exact .inl ⟨_, h⟩
    · exact .inr ⟨_, h⟩
  · rintro e w' ⟨e1, w1, ⟨rfl, rfl⟩, hb2, h3⟩
    refine ⟨?_, hb.trans hb2⟩
    rcases mustEnd_cases v (low6 n) with ⟨hz, h⟩ | ⟨hz, h⟩
    · rw [h] at h3
      rcases h3 with ⟨y, hy, rfl⟩ | ⟨c, hc, _⟩
      · rw [if_pos hz, hz]; injection hy with hy; injection hy with _ hy; rw [hy]
      · cases hc
    · rw [h] at h3
      rcases h3 with ⟨y, hy, _⟩ | ⟨c, hc, rfl⟩
      · cases hy
      · rw [if_neg hz, fault_inj (Ending.panicked.inj hc)]
theorem checkEnd_cases (b : Bool) (c : Int) : (b = true ∧ checkEnd b c = .returned (.tuple #[])) ∨ (b = false ∧ checkEnd b c = .panicked (fault c)) := by
  cases b
  · exact .inr ⟨rfl, rfl⟩
  · exact .inl ⟨rfl, rfl⟩
theorem catchMust (p q : Addr) (b : Bool) (n : Int) (w : World) (hp : w.cell? p = some (.bool b)) (hq : w.cell? q = some (.int .i64 n)) (lp : p.block < w.heap.size) (lq : q.block < w.heap.size) :
    Calls Try.prog 10 #[.func (.func 26) #[] #[.pointer (some p), .pointer (some q)]] w fun e w' => e = .returned (.int .i64 (if b = true then 0 else 1 + low6 n)) ∧ Below w.heap.size w w' := by
  have hb : Below w.heap.size w (w.alloc (.cells #[.int .i64 0] 27)) := (Below.refl _ _).alloc (Nat.le_refl _) _
  refine (catch_any 26 _ w _ (fun W => cf_must2 _ W) (must2_any p q b n _ ((hb.cell lp).trans hp) ((hb.cell lq).trans hq)) ?_).mono ?_
  · rintro e w1 ⟨rfl, k, rfl⟩
    refine ⟨by simp [go_sem], by simp [go_sem], by simp [World.drewN], ?_⟩
    rcases checkEnd_cases b (1 + low6 n) with ⟨_, h⟩ | ⟨_, h⟩
    · exact .inl h
    · exact .inr ⟨_, h⟩
  · rintro e w' ⟨e1, w1, ⟨rfl, k, rfl⟩, hg, h3⟩
    refine ⟨?_, (below_drewN hb k).trans (gr_below hg _ (by simp [World.drewN]) (by simp))⟩
    rcases checkEnd_cases b (1 + low6 n) with ⟨hz, h⟩ | ⟨hz, h⟩
    · rw [h] at h3
      rcases h3 with ⟨_, rfl⟩ | ⟨c, hc, _⟩
      · rw [if_pos hz]
      · cases hc
    · rw [h] at h3
      rcases h3 with ⟨hc, _⟩ | ⟨c, hc, rfl⟩
      · cases hc
      · rw [if_neg (by simp [hz]), fault_inj (Ending.panicked.inj hc)]

set_option maxHeartbeats 1000000 in
theorem trapMust_ztrue (v n : Int) (w : World) (hz : low6 n = 0) :
    Calls Try.prog 6 #[.int .u64 v, .int .i64 n, .bool true] w fun e w' => e = .returned (.bool true) ∧ Below w.heap.size w w' := by
  have hmf : ∀ (fn : Fn) (first cap : Array Value) (w : World), (Instr.makeFunc fn first cap).run Try.prog w = .ok (.func fn first cap) w := fun _ _ _ _ => rfl
  have hd : bits .and .i64 n 63 = low6 n := rfl
  have hlow := low6_bd n
  have TM := Lib.hid (fun p q w hp hq lp lq => tryMust p q v n w hp hq lp lq)
  rw [if_pos hz] at TM
  have CM := Lib.hid (fun p q w hp hq lp lq => catchMust p q true n w hp hq lp lq)
  rw [if_pos rfl] at CM
  have z1 : (low6 n == 0) = true := by simp [hz]
  have z2 : (low6 n != 0) = false := by simp [hz]
  clear hz
  go_enter Try.func6, Try.ntmps6
  go_wp2_with fail
  refine (awake_any _).mono ?_
  rintro e w1 ⟨rfl, hb1⟩
  have hs1 := hb1.size
  simp only [World.size_alloc] at hs1
  have c0 : w1.cell? ⟨w.heap.size, 0, none⟩ = some (.int .u64 v) := by rw [hb1.cell (p := ⟨w.heap.size, 0, none⟩) (by simp; omega)]; simp [go_sem]
  have c1 : w1.cell? ⟨w.heap.size + 1, 0, none⟩ = some (.int .i64 n) := by rw [hb1.cell (p := ⟨w.heap.size + 1, 0, none⟩) (by simp)]; simp [go_sem]
  have c2 : w1.cell? ⟨w.heap.size + 2, 0, none⟩ = some (.bool true) := by rw [hb1.cell (p := ⟨w.heap.size + 2, 0, none⟩) (by simp)]; simp [go_sem]
  have hbw : Below w.heap.size w w1 := ((((Below.refl _ _).alloc (Nat.le_refl _) _).alloc (by simp) _).alloc (by simp; omega) _).trans (hb1.mono (by simp; omega))
  clear hb1
  go_wp2_with fail
  refine (TM.out _ _ _ c0 c1 (by show w.heap.size < _; omega) (by show w.heap.size + 1 < _; omega)).mono ?_
  rintro e w2 ⟨rfl, hb2⟩
  have d0 := (hb2.cell (p := ⟨w.heap.size, 0, none⟩) (by show w.heap.size < _; omega)).trans c0
  have d1 := (hb2.cell (p := ⟨w.heap.size + 1, 0, none⟩) (by show w.heap.size + 1 < _; omega)).trans c1
  have d2 := (hb2.cell (p := ⟨w.heap.size + 1 + 1, 0, none⟩) (by show w.heap.size + 1 + 1 < _; omega)).trans c2
  have hbw2 := hbw.trans (hb2.mono (by omega))
  have hs2 := hb2.size
  clear hb2 hbw c0 c1 c2
  go_wp2_with fail
  refine (CM.out _ _ _ d2 d1 (by show w.heap.size + 1 + 1 < _; omega) (by show w.heap.size + 1 < _; omega)).mono ?_
  rintro e w3 ⟨rfl, hb3⟩
  have e0 := (hb3.cell (p := ⟨w.heap.size, 0, none⟩) (by show w.heap.size < _; omega)).trans d0
  have e1 := (hb3.cell (p := ⟨w.heap.size + 1, 0, none⟩) (by show w.heap.size + 1 < _; omega)).trans d1
  have e2 := (hb3.cell (p := ⟨w.heap.size + 1 + 1, 0, none⟩) (by show w.heap.size + 1 + 1 < _; omega)).trans d2
  have HB := Lib.hid (hbw2.trans (hb3.mono (by omega)))
  clear hb3 hbw2 d0 d1 d2
  go_wp2_with (go_at_call 21; refine (code_any n _).mono ?_; rintro e w' ⟨rfl, rfl⟩)
  go_ret
  exact ⟨by simp, HB.out⟩

set_option maxHeartbeats 1000000 in
theorem trapMust_zfalse (v n : Int) (w : World) (hz : low6 n = 0) :
    Calls Try.prog 6 #[.int .u64 v, .int .i64 n, .bool false] w fun e w' => e = .returned (.bool true) ∧ Below w.heap.size w w' := by
  have hmf : ∀ (fn : Fn) (first cap : Array Value) (w : World), (Instr.makeFunc fn first cap).run Try.prog w = .ok (.func fn first cap) w := fun _ _ _ _ => rfl
  have hd : bits .and .i64 n 63 = low6 n := rfl
  have hlow := low6_bd n
  have TM := Lib.hid (fun p q w hp hq lp lq => tryMust p q v n w hp hq lp lq)
  rw [if_pos hz] at TM
  have CM := Lib.hid (fun p q w hp hq lp lq => catchMust p q false n w hp hq lp lq)
  rw [if_neg Bool.false_ne_true] at CM
  have z1 : (low6 n == 0) = true := by simp [hz]
  have z2 : (low6 n != 0) = false := by simp [hz]
  clear hz
  go_enter Try.func6, Try.ntmps6
  go_wp2_with fail
  refine (awake_any _).mono ?_
  rintro e w1 ⟨rfl, hb1⟩
  have hs1 := hb1.size
  simp only [World.size_alloc] at hs1
  have c0 : w1.cell? ⟨w.heap.size, 0, none⟩ = some (.int .u64 v) := by rw [hb1.cell (p := ⟨w.heap.size, 0, none⟩) (by simp; omega)]; simp [go_sem]
  have c1 : w1.cell? ⟨w.heap.size + 1, 0, none⟩ = some (.int .i64 n) := by rw [hb1.cell (p := ⟨w.heap.size + 1, 0, none⟩) (by simp)]; simp [go_sem]
  have c2 : w1.cell? ⟨w.heap.size + 2, 0, none⟩ = some (.bool false) := by rw [hb1.cell (p := ⟨w.heap.size + 2, 0, none⟩) (by simp)]; simp [go_sem]
  have hbw : Below w.heap.size w w1 := ((((Below.refl _ _).alloc (Nat.le_refl _) _).alloc (by simp) _).alloc (by simp; omega) _).trans (hb1.mono (by simp; omega))
  clear hb1
  go_wp2_with fail
  refine (TM.out _ _ _ c0 c1 (by show w.heap.size < _; omega) (by show w.heap.size + 1 < _; omega)).mono ?_
  rintro e w2 ⟨rfl, hb2⟩
  have d0 := (hb2.cell (p := ⟨w.heap.size, 0, none⟩) (by show w.heap.size < _; omega)).trans c0
  have d1 := (hb2.cell (p := ⟨w.heap.size + 1, 0, none⟩) (by show w.heap.size + 1 < _; omega)).trans c1
  have d2 := (hb2.cell (p := ⟨w.heap.size + 1 + 1, 0, none⟩) (by show w.heap.size + 1 + 1 < _; omega)).trans c2
  have hbw2 := hbw.trans (hb2.mono (by omega))
  have hs2 := hb2.size
  clear hb2 hbw c0 c1 c2
  go_wp2_with fail
  refine (CM.out _ _ _ d2 d1 (by show w.heap.size + 1 + 1 < _; omega) (by show w.heap.size + 1 < _; omega)).mono ?_
  rintro e w3 ⟨rfl, hb3⟩
  have e0 := (hb3.cell (p := ⟨w.heap.size, 0, none⟩) (by show w.heap.size < _; omega)).trans d0
  have e1 := (hb3.cell (p := ⟨w.heap.size + 1, 0, none⟩) (by show w.heap.size + 1 < _; omega)).trans d1
  have e2 := (hb3.cell (p := ⟨w.heap.size + 1 + 1, 0, none⟩) (by show w.heap.size + 1 + 1 < _; omega)).trans d2
  have HB := Lib.hid (hbw2.trans (hb3.mono (by omega)))
  clear hb3 hbw2 d0 d1 d2
  go_wp2_with (go_at_call 21; refine (code_any n _).mono ?_; rintro e w' ⟨rfl, rfl⟩)
  go_ret
  exact ⟨by simp, HB.out⟩

set_option maxHeartbeats 1000000 in
theorem trapMust_ntrue (v n : Int) (w : World) (hz : ¬ low6 n = 0) :
    Calls Try.prog 6 #[.int .u64 v, .int .i64 n, .bool true] w fun e w' => e = .returned (.bool true) ∧ Below w.heap.size w w' := by
  have hmf : ∀ (fn : Fn) (first cap : Array Value) (w : World), (Instr.makeFunc fn first cap).run Try.prog w = .ok (.func fn first cap) w := fun _ _ _ _ => rfl
  have hd : bits .and .i64 n 63 = low6 n := rfl
  have hlow := low6_bd n
  have TM := Lib.hid (fun p q w hp hq lp lq => tryMust p q v n w hp hq lp lq)
  rw [if_neg hz] at TM
  have CM := Lib.hid (fun p q w hp hq lp lq => catchMust p q true n w hp hq lp lq)
  rw [if_pos rfl] at CM
  have z1 : (low6 n == 0) = false := by simp [hz]
  have z2 : (low6 n != 0) = true := by simp [hz]
  clear hz
  go_enter Try.func6, Try.ntmps6
  go_wp2_with fail
  refine (awake_any _).mono ?_
  rintro e w1 ⟨rfl, hb1⟩
  have hs1 := hb1.size
  simp only [World.size_alloc] at hs1
  have c0 : w1.cell? ⟨w.heap.size, 0, none⟩ = some (.int .u64 v) := by rw [hb1.cell (p := ⟨w.heap.size, 0, none⟩) (by simp; omega)]; simp [go_sem]
  have c1 : w1.cell? ⟨w.heap.size + 1, 0, none⟩ = some (.int .i64 n) := by rw [hb1.cell (p := ⟨w.heap.size + 1, 0, none⟩) (by simp)]; simp [go_sem]
  have c2 : w1.cell? ⟨w.heap.size + 2, 0, none⟩ = some (.bool true) := by rw [hb1.cell (p := ⟨w.heap.size + 2, 0, none⟩) (by simp)]; simp [go_sem]
  have hbw : Below w.heap.size w w1 := ((((Below.refl _ _).alloc (Nat.le_refl _) _).alloc (by simp) _).alloc (by simp; omega) _).trans (hb1.mono (by simp; omega))
  clear hb1
  go_wp2_with fail
  refine (TM.out _ _ _ c0 c1 (by show w.heap.size < _; omega) (by show w.heap.size + 1 < _; omega)).mono ?_
  rintro e w2 ⟨rfl, hb2⟩
  have d0 := (hb2.cell (p := ⟨w.heap.size, 0, none⟩) (by show w.heap.size < _; omega)).trans c0
  have d1 := (hb2.cell (p := ⟨w.heap.size + 1, 0, none⟩) (by show w.heap.size + 1 < _; omega)).trans c1
  have d2 := (hb2.cell (p := ⟨w.heap.size + 1 + 1, 0, none⟩) (by show w.heap.size + 1 + 1 < _; omega)).trans c2
  have hbw2 := hbw.trans (hb2.mono (by omega))
  have hs2 := hb2.size
  clear hb2 hbw c0 c1 c2
  go_wp2_with fail
  refine (CM.out _ _ _ d2 d1 (by show w.heap.size + 1 + 1 < _; omega) (by show w.heap.size + 1 < _; omega)).mono ?_
  rintro e w3 ⟨rfl, hb3⟩
  have e0 := (hb3.cell (p := ⟨w.heap.size, 0, none⟩) (by show w.heap.size < _; omega)).trans d0
  have e1 := (hb3.cell (p := ⟨w.heap.size + 1, 0, none⟩) (by show w.heap.size + 1 < _; omega)).trans d1
  have e2 := (hb3.cell (p := ⟨w.heap.size + 1 + 1, 0, none⟩) (by show w.heap.size + 1 + 1 < _; omega)).trans d2
  have HB := Lib.hid (hbw2.trans (hb3.mono (by omega)))
  clear hb3 hbw2 d0 d1 d2
  go_wp2_with (go_at_call 21; refine (code_any n _).mono ?_; rintro e w' ⟨rfl, rfl⟩)
  go_ret
  exact ⟨by simp, HB.out⟩

set_option maxHeartbeats 1000000 in
theorem trapMust_nfalse (v n : Int) (w : World) (hz : ¬ low6 n = 0) :
    Calls Try.prog 6 #[.int .u64 v, .int .i64 n, .bool false] w fun e w' => e = .returned (.bool true) ∧ Below w.heap.size w w' := by
  have hmf : ∀ (fn : Fn) (first cap : Array Value) (w : World), (Instr.makeFunc fn first cap).run Try.prog w = .ok (.func fn first cap) w := fun _ _ _ _ => rfl
  have hd : bits .and .i64 n 63 = low6 n := rfl
  have hlow := low6_bd n
  have TM := Lib.hid (fun p q w hp hq lp lq => tryMust p q v n w hp hq lp lq)
  rw [if_neg hz] at TM
  have CM := Lib.hid (fun p q w hp hq lp lq => catchMust p q false n w hp hq lp lq)
  rw [if_neg Bool.false_ne_true] at CM
  have z1 : (low6 n == 0) = false := by simp [hz]
  have z2 : (low6 n != 0) = true := by simp [hz]
  clear hz
  go_enter Try.func6, Try.ntmps6
  go_wp2_with fail
  refine (awake_any _).mono ?_
  rintro e w1 ⟨rfl, hb1⟩
  have hs1 := hb1.size
  simp only [World.size_alloc] at hs1
  have c0 : w1.cell? ⟨w.heap.size, 0, none⟩ = some (.int .u64 v) := by rw [hb1.cell (p := ⟨w.heap.size, 0, none⟩) (by simp; omega)]; simp [go_sem]
  have c1 : w1.cell? ⟨w.heap.size + 1, 0, none⟩ = some (.int .i64 n) := by rw [hb1.cell (p := ⟨w.heap.size + 1, 0, none⟩) (by simp)]; simp [go_sem]
  have c2 : w1.cell? ⟨w.heap.size + 2, 0, none⟩ = some (.bool false) := by rw [hb1.cell (p := ⟨w.heap.size + 2, 0, none⟩) (by simp)]; simp [go_sem]
  have hbw : Below w.heap.size w w1 := ((((Below.refl _ _).alloc (Nat.le_refl _) _).alloc (by simp) _).alloc (by simp; omega) _).trans (hb1.mono (by simp; omega))
  clear hb1
  go_wp2_with fail
  refine (TM.out _ _ _ c0 c1 (by show w.heap.size < _; omega) (by show w.heap.size + 1 < _; omega)).mono ?_
  rintro e w2 ⟨rfl, hb2⟩
  have d0 := (hb2.cell (p := ⟨w.heap.size, 0, none⟩) (by show w.heap.size < _; omega)).trans c0
  have d1 := (hb2.cell (p := ⟨w.heap.size + 1, 0, none⟩) (by show w.heap.size + 1 < _; omega)).trans c1
  have d2 := (hb2.cell (p := ⟨w.heap.size + 1 + 1, 0, none⟩) (by show w.heap.size + 1 + 1 < _; omega)).trans c2
  have hbw2 := hbw.trans (hb2.mono (by omega))
  have hs2 := hb2.size
  clear hb2 hbw c0 c1 c2
  go_wp2_with fail
  refine (CM.out _ _ _ d2 d1 (by show w.heap.size + 1 + 1 < _; omega) (by show w.heap.size + 1 < _; omega)).mono ?_
  rintro e w3 ⟨rfl, hb3⟩
  have e0 := (hb3.cell (p := ⟨w.heap.size, 0, none⟩) (by show w.heap.size < _; omega)).trans d0
  have e1 := (hb3.cell (p := ⟨w.heap.size + 1, 0, none⟩) (by show w.heap.size + 1 < _; omega)).trans d1
  have e2 := (hb3.cell (p := ⟨w.heap.size + 1 + 1, 0, none⟩) (by show w.heap.size + 1 + 1 < _; omega)).trans d2
  have HB := Lib.hid (hbw2.trans (hb3.mono (by omega)))
  clear hb3 hbw2 d0 d1 d2
  go_wp2_with (go_at_call 21; refine (code_any n _).mono ?_; rintro e w' ⟨rfl, rfl⟩)
  go_ret
  exact ⟨by simp, HB.out⟩

theorem trapMust_walk (v n : Int) (is : Bool) (w : World) :
    Calls Try.prog 6 #[.int .u64 v, .int .i64 n, .bool is] w fun e w' => e = .returned (.bool true) ∧ Below w.heap.size w w' := by
  by_cases hz : low6 n = 0
  · cases is
    · exact trapMust_zfalse v n w hz
    · exact trapMust_ztrue v n w hz
  · cases is
    · exact trapMust_nfalse v n w hz
    · exact trapMust_ntrue v n w hz
end Go.Proofs.Ytkoimdlnkaphcaa
