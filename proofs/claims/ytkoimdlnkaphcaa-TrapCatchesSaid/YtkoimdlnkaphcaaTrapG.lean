/- The walk of TrapCatches. -/
import Derived.Test.YtkoimdlnkaphcaaTrapF
namespace Go.Proofs.Ytkoimdlnkaphcaa
open Go.RowKit Plain
set_option maxHeartbeats 1000000 in
theorem trapCatches_z (B : Nat) (a : Option Addr) (cap : Nat) (l : List St) (w : World) (hl : l.length ≤ 40) (h : Lst w B (.slice a l.length cap) l) (hB : B ≤ w.heap.size) (hz : (run (l.map fixed)).2 = 0) :
    Calls Try.prog 3 #[.slice a l.length cap] w fun e w' => e = .returned (.bool true) ∧ Below w.heap.size w w' := by
  have hmf : ∀ (fn : Fn) (first cap : Array Value) (w : World), (Instr.makeFunc fn first cap).run Try.prog w = .ok (.func fn first cap) w := fun _ _ _ _ => rfl
  have hgd := good_fixed l
  have hle := run_le _ (l.map fixed) (Nat.le_refl _)
  have hlm : (l.map fixed).length = l.length := List.length_map _
  have HL := Lib.hid h
  have TL := Lib.hid (fun B nb ps v w h1 h2 h3 h4 h5 h6 h7 => try_L B nb ps v (l.map fixed) w (by omega) hgd h1 h2 h3 h4 h5 h6 h7)
  rw [if_pos hz] at TL
  have CL := Lib.hid (fun B nb ps v w h1 h2 h3 h4 h5 h6 h7 => catch_L B nb ps v (l.map fixed) w (by omega) hgd h1 h2 h3 h4 h5 h6 h7)
  have RL := Lib.hid (fun B v w h1 => refRun_L B v (l.map fixed) w (by omega) hgd h1)
  have PL := Lib.hid (fun w (h : Lst w B (.slice a l.length cap) l) (hB : B ≤ w.heap.size) => plain_L B _ l w (by omega) h hB)
  have HLM := Lib.hid hlm
  clear hlm hgd h
  generalize run (l.map fixed) = r at *
  generalize l.map fixed = m at *
  obtain ⟨r1, r2⟩ := r
  simp only at hz hle
  rw [HLM.out] at hle
  have z1 : (r2 != 0) = false := by simp [hz]
  have z2 : (r2 == 0) = true := by simp [hz]
  clear hz
  go_enter Try.func3, Try.ntmps3
  go_wp2_with fail
  refine (awake_any _).mono ?_
  rintro e w1 ⟨rfl, hb1⟩
  go_wp2_with fail
  have hs1 := hb1.size
  refine (PL.out w1 (HL.out.below (hb1.mono hB)) (by omega)).mono ?_
  rintro e w2 ⟨v2, rfl, hL2, hb2⟩
  have hs2 := hb2.size
  obtain ⟨a2, cap2, rfl⟩ := hL2.slice
  rw [HLM.out] at *
  have HL2 := Lib.hid hL2
  have HB2 := Lib.hid (hb1.trans (hb2.mono hs1))
  clear hL2 hb1 hb2 hs1
  go_wp2_with fail
  refine (RL.out w2.heap.size _ _ (HL2.out.below ((Below.refl _ _).alloc (Nat.le_refl _) _))).mono ?_
  rintro e w3 ⟨rfl, hb3⟩
  have hs3 := hb3.size
  simp only [World.size_alloc] at hs3
  have c3 : w3.cell? ⟨w2.heap.size, 0, none⟩ = some (.slice a2 l.length cap2) := by rw [hb3.cell (p := ⟨w2.heap.size, 0, none⟩) (by simp)]; simp
  have HL3 := Lib.hid ((HL2.out.below ((Below.refl _ _).alloc (Nat.le_refl _) (.cells #[.slice a2 l.length cap2] 22))).below (hb3.mono (by simp)))
  have HB3 := Lib.hid (HB2.out.trans ((((Below.refl w2.heap.size w2).alloc (Nat.le_refl _) (.cells #[.slice a2 l.length cap2] 22)).trans (hb3.mono (by simp))).mono (by have := HB2.out.size; omega)))
  clear hb3 HL2 HB2
  have hb4 : Below w3.heap.size w3 ((w3.alloc (.cells #[.int .i64 0] 3)).alloc (.cells #[.int .i64 0] 3)) := ((Below.refl _ _).alloc (Nat.le_refl _) _).alloc (by simp) _
  have HB4 := Lib.hid hb4
  clear hb4
  go_wp2_with fail
  refine (CL.out w2.heap.size w3.heap.size ⟨w2.heap.size, 0, none⟩ _ _ (HL3.out.below (HB4.out.mono (by omega))) (by omega) (by simp; omega) ((HB4.out.cell (p := ⟨w2.heap.size, 0, none⟩) (by show w2.heap.size < _; omega)).trans c3) (by simp; omega) (by simp [go_sem]) (by simp [go_sem])).mono ?_
  rintro e w5 ⟨rfl, hc5, hf5, hg5⟩
  simp only [Int.zero_add] at hc5
  have hs5 := hg5.size
  simp only [World.size_alloc] at hs5
  have c5 : w5.cell? ⟨w2.heap.size, 0, none⟩ = some (.slice a2 l.length cap2) := by
    rw [gr_cell hg5 (p := ⟨w2.heap.size, 0, none⟩) (by simp; omega) (by simp; omega)]
    exact (HB4.out.cell (p := ⟨w2.heap.size, 0, none⟩) (by show w2.heap.size < _; omega)).trans c3
  have m5 : w5.cell? ⟨w3.heap.size + 1, 0, none⟩ = some (.int .i64 0) := by
    rw [gr_cell hg5 (p := ⟨w3.heap.size + 1, 0, none⟩) (by simp) (by simp)]; simp [go_sem]
  have mf5 : w5.frozen? ⟨w3.heap.size + 1, 0, none⟩ = false := by
    rw [gr_frozen hg5 (p := ⟨w3.heap.size + 1, 0, none⟩) (by simp) (by simp)]; simp [go_sem]
  have HB5 := Lib.hid (HB4.out.trans (gr_below hg5 _ (by simp; omega) (by simp)))
  clear hg5 HB4
  have HL5 := Lib.hid (HL3.out.below (HB5.out.mono (by omega)))
  go_wp2_with fail
  refine (TL.out w2.heap.size (w3.heap.size + 1) ⟨w2.heap.size, 0, none⟩ _ _ HL5.out (by omega) (by omega) c5 (by show w2.heap.size < _; omega) m5 mf5).mono ?_
  rintro e w6 ⟨rfl, hg6⟩
  have hc6 : w6.cell? ⟨w3.heap.size, 0, none⟩ = some (.int .i64 r1) := by
    rw [gr_cell hg6 (p := ⟨w3.heap.size, 0, none⟩) (by show w3.heap.size < _; omega) (by simp)]; exact hc5
  have HB6 := Lib.hid (HB3.out.trans ((HB5.out.trans (gr_below hg6 _ (by omega) (by simp))).mono (by have := HB3.out.size; omega)))
  clear hg6 hc5 hf5 c5 m5 mf5 c3
  have z3 : (r1 != r1) = false := by simp
  have z4 : (r2 != r2) = false := by simp
  have z5 : (r1 + 1 == r1 + 1) = true := by simp
  go_wp2
  go_ret
  exact ⟨by simp, HB6.out⟩

set_option maxHeartbeats 1000000 in
theorem trapCatches_n (B : Nat) (a : Option Addr) (cap : Nat) (l : List St) (w : World) (hl : l.length ≤ 40) (h : Lst w B (.slice a l.length cap) l) (hB : B ≤ w.heap.size) (hz : ¬ (run (l.map fixed)).2 = 0) :
    Calls Try.prog 3 #[.slice a l.length cap] w fun e w' => e = .returned (.bool true) ∧ Below w.heap.size w w' := by
  have hmf : ∀ (fn : Fn) (first cap : Array Value) (w : World), (Instr.makeFunc fn first cap).run Try.prog w = .ok (.func fn first cap) w := fun _ _ _ _ => rfl
  have hgd := good_fixed l
  have hle := run_le _ (l.map fixed) (Nat.le_refl _)
  have hlm : (l.map fixed).length = l.length := List.length_map _
  have HL := Lib.hid h
  have TL := Lib.hid (fun B nb ps v w h1 h2 h3 h4 h5 h6 h7 => try_L B nb ps v (l.map fixed) w (by omega) hgd h1 h2 h3 h4 h5 h6 h7)
  rw [if_neg hz] at TL
  have CL := Lib.hid (fun B nb ps v w h1 h2 h3 h4 h5 h6 h7 => catch_L B nb ps v (l.map fixed) w (by omega) hgd h1 h2 h3 h4 h5 h6 h7)
  have RL := Lib.hid (fun B v w h1 => refRun_L B v (l.map fixed) w (by omega) hgd h1)
  have PL := Lib.hid (fun w (h : Lst w B (.slice a l.length cap) l) (hB : B ≤ w.heap.size) => plain_L B _ l w (by omega) h hB)
  have HLM := Lib.hid hlm
  clear hlm hgd h
  generalize run (l.map fixed) = r at *
  generalize l.map fixed = m at *
  obtain ⟨r1, r2⟩ := r
  simp only at hz hle
  rw [HLM.out] at hle
  have z1 : (r2 != 0) = true := by simp [hz]
  have z2 : (r2 == 0) = false := by simp [hz]
  clear hz
  go_enter Try.func3, Try.ntmps3
  go_wp2_with fail
  refine (awake_any _).mono ?_
  rintro e w1 ⟨rfl, hb1⟩
  go_wp2_with fail
  have hs1 := hb1.size
  refine (PL.out w1 (HL.out.below (hb1.mono hB)) (by omega)).mono ?_
  rintro e w2 ⟨v2, rfl, hL2, hb2⟩
  have hs2 := hb2.size
  obtain ⟨a2, cap2, rfl⟩ := hL2.slice
  rw [HLM.out] at *
  have HL2 := Lib.hid hL2
  have HB2 := Lib.hid (hb1.trans (hb2.mono hs1))
  clear hL2 hb1 hb2 hs1
  go_wp2_with fail
  refine (RL.out w2.heap.size _ _ (HL2.out.below ((Below.refl _ _).alloc (Nat.le_refl _) _))).mono ?_
  rintro e w3 ⟨rfl, hb3⟩
  have hs3 := hb3.size
  simp only [World.size_alloc] at hs3
  have c3 : w3.cell? ⟨w2.heap.size, 0, none⟩ = some (.slice a2 l.length cap2) := by rw [hb3.cell (p := ⟨w2.heap.size, 0, none⟩) (by simp)]; simp
  have HL3 := Lib.hid ((HL2.out.below ((Below.refl _ _).alloc (Nat.le_refl _) (.cells #[.slice a2 l.length cap2] 22))).below (hb3.mono (by simp)))
  have HB3 := Lib.hid (HB2.out.trans ((((Below.refl w2.heap.size w2).alloc (Nat.le_refl _) (.cells #[.slice a2 l.length cap2] 22)).trans (hb3.mono (by simp))).mono (by have := HB2.out.size; omega)))
  clear hb3 HL2 HB2
  have hb4 : Below w3.heap.size w3 ((w3.alloc (.cells #[.int .i64 0] 3)).alloc (.cells #[.int .i64 0] 3)) := ((Below.refl _ _).alloc (Nat.le_refl _) _).alloc (by simp) _
  have HB4 := Lib.hid hb4
  clear hb4
  go_wp2_with fail
  refine (CL.out w2.heap.size w3.heap.size ⟨w2.heap.size, 0, none⟩ _ _ (HL3.out.below (HB4.out.mono (by omega))) (by omega) (by simp; omega) ((HB4.out.cell (p := ⟨w2.heap.size, 0, none⟩) (by show w2.heap.size < _; omega)).trans c3) (by simp; omega) (by simp [go_sem]) (by simp [go_sem])).mono ?_
  rintro e w5 ⟨rfl, hc5, hf5, hg5⟩
  simp only [Int.zero_add] at hc5
  have hs5 := hg5.size
  simp only [World.size_alloc] at hs5
  have c5 : w5.cell? ⟨w2.heap.size, 0, none⟩ = some (.slice a2 l.length cap2) := by
    rw [gr_cell hg5 (p := ⟨w2.heap.size, 0, none⟩) (by simp; omega) (by simp; omega)]
    exact (HB4.out.cell (p := ⟨w2.heap.size, 0, none⟩) (by show w2.heap.size < _; omega)).trans c3
  have m5 : w5.cell? ⟨w3.heap.size + 1, 0, none⟩ = some (.int .i64 0) := by
    rw [gr_cell hg5 (p := ⟨w3.heap.size + 1, 0, none⟩) (by simp) (by simp)]; simp [go_sem]
  have mf5 : w5.frozen? ⟨w3.heap.size + 1, 0, none⟩ = false := by
    rw [gr_frozen hg5 (p := ⟨w3.heap.size + 1, 0, none⟩) (by simp) (by simp)]; simp [go_sem]
  have HB5 := Lib.hid (HB4.out.trans (gr_below hg5 _ (by simp; omega) (by simp)))
  clear hg5 HB4
  have HL5 := Lib.hid (HL3.out.below (HB5.out.mono (by omega)))
  go_wp2_with fail
  refine (TL.out w2.heap.size (w3.heap.size + 1) ⟨w2.heap.size, 0, none⟩ _ _ HL5.out (by omega) (by omega) c5 (by show w2.heap.size < _; omega) m5 mf5).mono ?_
  rintro e w6 ⟨rfl, hg6⟩
  have hc6 : w6.cell? ⟨w3.heap.size, 0, none⟩ = some (.int .i64 r1) := by
    rw [gr_cell hg6 (p := ⟨w3.heap.size, 0, none⟩) (by show w3.heap.size < _; omega) (by simp)]; exact hc5
  have HB6 := Lib.hid (HB3.out.trans ((HB5.out.trans (gr_below hg6 _ (by omega) (by simp))).mono (by have := HB3.out.size; omega)))
  clear hg6 hc5 hf5 c5 m5 mf5 c3
  have z3 : (r1 != r1) = false := by simp
  have z4 : (r2 != r2) = false := by simp
  have z5 : (r1 + 1 == r1 + 1) = true := by simp
  go_wp2
  go_ret
  exact ⟨by simp, HB6.out⟩

set_option maxHeartbeats 1000000 in
theorem trapCatches_long (a : Option Addr) (n cap : Nat) (w : World) (hl : 40 < n) :
    Calls Try.prog 3 #[.slice a n cap] w fun e w' => e = .returned (.bool true) ∧ Below w.heap.size w w' := by
  go_enter Try.func3, Try.ntmps3
  go_wp2_with fail
  refine (awake_any _).mono ?_
  rintro e w1 ⟨rfl, hb1⟩
  have HB := Lib.hid hb1
  clear hb1
  go_wp2
  go_ret
  exact ⟨rfl, HB.out⟩
theorem trapCatches_walk (B : Nat) (v : Value) (l : List St) (w : World) (h : Lst w B v l) (hB : B ≤ w.heap.size) :
    Calls Try.prog 3 #[v] w fun e w' => e = .returned (.bool true) ∧ Below w.heap.size w w' := by
  obtain ⟨a, cap, rfl⟩ := h.slice
  by_cases hl : l.length ≤ 40
  · by_cases hz : (run (l.map fixed)).2 = 0
    · exact trapCatches_z B a cap l w hl h hB hz
    · exact trapCatches_n B a cap l w hl h hB hz
  · exact trapCatches_long a _ cap w (by omega)
end Go.Proofs.Ytkoimdlnkaphcaa
