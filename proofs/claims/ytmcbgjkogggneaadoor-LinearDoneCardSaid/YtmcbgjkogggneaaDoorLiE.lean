/- The page's example (awake): Search. -/
import Derived.Test.YtmcbgjkogggneaaDoorLiD
namespace Go.Proofs.YtmcbgjkogggneaaDoor
set_option maxRecDepth 100000
set_option linter.unusedVariables false
set_option linter.unusedSimpArgs false
open Go.RowKit Go.Maps Go.WideMaps
theorem newModel_any (w : World) : Calls Tryd.prog 27 #[] w fun e w' => ∃ mb mm, e = .returned (.pointer (some ⟨mb, 0, none⟩)) ∧ Own w' mb [.slice none 0 0, .map (some mm)] ∧ Mp w' mm 0 (.map []) ∧ mb < w'.heap.size ∧ w.heap.size ≤ mb ∧ w.heap.size ≤ mm ∧ mm < mb ∧ Below w.heap.size w w' := by
  have hB : Below w.heap.size w ((w.alloc (.map #[] 0)).alloc (.cells #[.slice none 0 0, .map (some w.heap.size)] 73)) := ((Below.refl _ _).alloc (Nat.le_refl _) _).alloc (by simp) _
  have HB := Lib.hid hB
  have HM : Hid (Mp ((w.alloc (.map #[] 0)).alloc (.cells #[.slice none 0 0, .map (some w.heap.size)] 73)) w.heap.size 0 (.map [])) := Lib.hid (World.ownsMap.alloc (World.ownsMap_made _ _ _ _) _)
  have HO : Hid (Own ((w.alloc (.map #[] 0)).alloc (.cells #[.slice none 0 0, .map (some w.heap.size)] 73)) (w.heap.size + 1) [.slice none 0 0, .map (some w.heap.size)]) := Lib.hid (Own.new_at _ [.slice none 0 0, .map (some w.heap.size)] _ _ (by simp))
  clear hB
  have hmm := @run_makeMap Tryd.prog
  go_enter Tryd.func27, Tryd.ntmps27
  go_wp2_with (fail)
  go_ret
  exact ⟨_, _, rfl, HO.out, HM.out, by simp, by omega, Nat.le_refl _, by omega, HB.out⟩
theorem row_one {base e size n : Nat} {w : World} {v : Value} {xs : List Value} (h : Row base e size w v n xs) (hn : 0 < n) : ∃ g cap, v = .slice (some ⟨g, 0, none⟩) n cap ∧ n ≤ cap ∧ base ≤ g ∧ g < w.heap.size ∧ Cells w g xs := by
  have hlt := h.lt
  rcases h.2 with ⟨_, h0⟩ | ⟨g, cap, cur, hv, hg, hh, hnc, _⟩
  · omega
  · subst hv
    refine ⟨g, cap, rfl, hnc, hg, (hlt g rfl).2, fun j u hj => ?_⟩
    have := World.ownsRow.cells h (g := g) rfl j u hj
    rw [add_plain, Nat.zero_add] at this
    exact this
def exC : CallV := ⟨2, ⟨#[48]⟩, true, none, 0, 0, 0, 1⟩
set_option maxHeartbeats 4000000 in
theorem search_ex (b : Nat) (w : World) (h : Cells w b (exCells exA)) (hb : b < w.heap.size) :
    Calls Tryd.prog 17 #[.slice (some ⟨b, 0, none⟩) 1 1] w fun e w' => e = .returned (.tuple #[.slice none 0 0, .int .i64 7]) ∧ Below w.heap.size w w' := by
  have HSH := Lib.hid (shorten_ex b w h hb)
  clear h
  go_enter Tryd.func17, Tryd.ntmps17
  go_wp2_with (fail)
  refine HSH.out.mono ?_
  rintro e w1 ⟨v1, rfl, hr, hb1⟩
  obtain ⟨g, cap, rfl, _, hg1, hg2, hcells⟩ := row_one hr (by omega)
  have HB1 := Lib.hid hb1
  have HCE := Lib.hid hcells
  clear hr hb1 hcells HSH
  go_wp2_with (fail)
  refine (newModel_any w1).mono ?_
  rintro e w2 ⟨mb, mm, rfl, hom, hmp, hmb, h1mb, h1mm, hlt, hb2⟩
  have hz1 := HB1.out.size
  have hz2 := hb2.size
  have HCE2 := Lib.hid (HCE.out.below hb2 hg2)
  have HB2 := Lib.hid (HB1.out.trans (hb2.mono hz1))
  have HOM := Lib.hid hom
  have HMP := Lib.hid hmp
  have c0 := HCE2.out 0 _ rfl
  have c1 := HCE2.out 1 _ rfl
  have c2 := HCE2.out 2 _ rfl
  have c3 := HCE2.out 3 _ rfl
  have c4 := HCE2.out 4 _ rfl
  have c5 := HCE2.out 5 _ rfl
  have hg3 : g < w2.heap.size := by omega
  clear hom hmp hb2 HCE
  go_wp2_with (fail)
  refine wp_loop_rounds 2 ?_
  refine Eq.mpr (rounds_succ (n := 1)) ?_
  go_wp2_with (fail)
  refine (must_any exC _).mono ?_
  rintro e w3 ⟨rfl, hb3⟩
  have hB : Below w2.heap.size w2 w3 := (((Below.refl _ _).alloc (Nat.le_refl _) _).alloc (by simp) _).trans (hb3.mono (by simp <;> omega))
  have hO : Own w3 w2.heap.size [.slice (some ⟨g, 0, none⟩) 1 cap, .slice none 0 0, .bool false, .bool false, .bool false, .bool false, .bool false, .bool false, .bool false, .bool false, .int .i64 0, .pointer (some ⟨mb, 0, none⟩)] := ((Own.new_at w2 [.slice (some ⟨g, 0, none⟩) 1 cap, .slice none 0 0, .bool false, .bool false, .bool false, .bool false, .bool false, .bool false, .bool false, .bool false, .int .i64 0, .pointer (some ⟨mb, 0, none⟩)] _ _ rfl).below ((Below.refl _ _).alloc (Nat.le_refl _) _) (by simp)).below hb3 (by simp <;> omega)
  have hlt3 : w2.heap.size < w3.heap.size := by have := hb3.size; simp at this; omega
  have hO4 := hO.set 10 (.int .i64 1) (by simp)
  have hB4 : Below w2.heap.size w2 (w3.setCell ⟨w2.heap.size, 10, none⟩ (.int .i64 1)) := hB.setCell (Nat.le_refl _) _
  have HFI := Lib.hid (find_ex w2.heap.size mb mm g cap (.bool false) (.bool false) (.bool false) (.bool false) (.bool false) (.bool false) (.bool false) (.bool false) exC (w3.setCell ⟨w2.heap.size, 10, none⟩ (.int .i64 1)) hO4.1 (HOM.out.below hB4 hmb).1 (HMP.out.below hB4) (HCE2.out.below hB4 hg3) (by simpa using hlt3) (by simp; omega) (by simp; omega) rfl rfl (by decide) (by decide))
  have HB4 := Lib.hid (HB2.out.trans (hB4.mono HB2.out.size))
  have k10 := hO.1 10 _ rfl
  have f10 := hO.2 10
  clear hO hO4 hB4 hB hb3 c0 c1 c2 c3 c4 c5
  have hd : decide (0 ≤ exC.fin) = true := rfl
  rw [hd]
  generalize w2.heap.size = sb at *
  go_wp2_with (fail)
  refine Eq.mpr (rounds_succ (n := 0)) ?_
  go_wp2_with (fail)
  refine HFI.out.mono ?_
  rintro e w5 ⟨rfl, hb5⟩
  have HB5 := Lib.hid (HB4.out.trans (hb5.mono HB4.out.size))
  clear hb5
  go_wp2_with (fail)
  go_ret2
  exact ⟨by rfl, HB5.out⟩
set_option maxHeartbeats 1000000 in
theorem awake_any (w : World) : Calls Tryd.prog 7 #[] w fun e w' => e = .returned (.bool true) ∧ Below w.heap.size w w' := by
  have hA := (Below.refl w.heap.size w).alloc (Nat.le_refl _) (.cells #[.int .i64 2, .string ⟨#[97]⟩, .bool true, .slice none 0 0, .int .i64 0, .int .i64 1] 32)
  have HSE := Lib.hid (search_ex w.heap.size (w.alloc (.cells #[.int .i64 2, .string ⟨#[97]⟩, .bool true, .slice none 0 0, .int .i64 0, .int .i64 1] 32)) (Cells.new w (exCells exA) _) (by simp))
  have HA := Lib.hid hA
  clear hA
  go_enter Tryd.func7, Tryd.ntmps7
  go_wp2_with (fail)
  refine HSE.out.mono ?_
  rintro e w5 ⟨rfl, hb5⟩
  have HB5 := Lib.hid (HA.out.trans (hb5.mono (by simp)))
  clear hb5
  go_wp2_with (fail)
  go_ret
  exact ⟨by rfl, HB5.out⟩
end Go.Proofs.YtmcbgjkogggneaaDoor
