/- The page's example (awake): shorten. -/
import Derived.Test.YtmcbgjkogggneaaDoorLiB
import Derived.Lib.SliceRun
namespace Go.Proofs.YtmcbgjkogggneaaDoor
set_option maxRecDepth 100000
set_option linter.unusedVariables false
set_option linter.unusedSimpArgs false
open Go.RowKit Go.Maps Go.WideMaps
def exA : ByteArray := ⟨#[97]⟩
def exCells (s : ByteArray) : List Value := [.int .i64 2, .string s, .bool true, .slice none 0 0, .int .i64 0, .int .i64 1]
theorem Own.grown {w w' : World} {b : Nat} {cs : List Value} {row : Option Nat} (h : Own w b cs) (hg : w.grownBy w' row) (hr : some b ≠ row) (hb : b < w.heap.size) : Own w' b cs :=
  ⟨fun j v hj => (World.cell?_of_block (w := w) (a := ⟨b, j, none⟩) (hg.block b hb hr)).trans (h.1 j v hj), fun j => (World.frozen?_of_block (w := w) (a := ⟨b, j, none⟩) (hg.block b hb hr)).trans (h.2 j)⟩
theorem clone_nil (w : World) : Calls Tryd.prog 39 #[.slice none 0 0] w fun e w' => e = .returned (.slice none 0 0) ∧ w' = w := by
  have heq := fun W => Lib.run_eql_slice_nil (P := Tryd.prog) W 30 9 none 0 0 0 0 rfl
  go_enter Tryd.func39, Tryd.ntmps39
  go_wp2
  go_ret
  exact ⟨rfl, rfl⟩
theorem info_call : (Tryd.prog.info? 32).map (fun i => (i.zero, i.size, i.bytes)) = some (some (.agg #[.int .i64 0, .string ⟨#[]⟩, .bool false, .slice none 0 0, .int .i64 0, .int .i64 0]), 6, 72) := by kernel_rfl
set_option maxHeartbeats 2000000 in
theorem shorten_ex (b : Nat) (w : World) (h : Cells w b (exCells exA)) (hb : b < w.heap.size) :
    Calls Tryd.prog 26 #[.slice (some ⟨b, 0, none⟩) 1 1] w fun e w' => ∃ v', e = .returned v' ∧ Row w.heap.size 32 6 w' v' 1 (exCells ⟨#[48]⟩) ∧ Below w.heap.size w w' := by
  have c0 := h 0 _ rfl
  have c1 := h 1 _ rfl
  have c2 := h 2 _ rfl
  have c3 := h 3 _ rfl
  have c4 := h 4 _ rfl
  have c5 := h 5 _ rfl
  clear h
  have hmm := @run_makeMap Tryd.prog
  go_enter Tryd.func26, Tryd.ntmps26
  go_wp2_with (fail)
  refine wp_loop_rounds 2 ?_
  rw [rounds_succ]
  go_wp2_with (fail)
  have hb2 : (w.alloc (.map #[] 0)).heap.size = w.heap.size + 1 := by simp
  have hG0 : Below w.heap.size w (((w.alloc (.map #[] 0)).alloc (.cells #[.map (some w.heap.size)] 67)).alloc (.cells #[.int .i64 2, .string exA, .bool true, .slice none 0 0, .int .i64 0, .int .i64 1] 32)) := (((Below.refl _ _).alloc (Nat.le_refl _) _).alloc (by simp) _).alloc (by simp <;> omega) _
  have hO : Own (((w.alloc (.map #[] 0)).alloc (.cells #[.map (some w.heap.size)] 67)).alloc (.cells #[.int .i64 2, .string exA, .bool true, .slice none 0 0, .int .i64 0, .int .i64 1] 32)) (w.heap.size + 1 + 1) (exCells exA) := Own.new_at _ (exCells exA) _ _ (by simp)
  refine (short_first (w.heap.size + 1) w.heap.size exA _ ?_ ?_ (by decide)).mono ?_
  · rw [World.cell?_alloc_old _ _ _ (by simp), World.cell?_alloc_at _ _ _ _ (by simp)]
    rfl
  · exact World.ownsMap.alloc (World.ownsMap.alloc (World.ownsMap_made _ _ _ _) _) _
  rintro e w2 ⟨rfl, hg⟩
  have hO2 := hO.grown hg (by simp <;> omega) (by simp)
  have HB2 := Lib.hid (hG0.grown hg (by simp <;> omega) (fun k hk => by cases hk; exact Nat.le_refl _))
  have hsz2 : w.heap.size + 1 + 1 < w2.heap.size := by have := hg.size; simp at this; omega
  have hcb : w.heap.size ≤ w.heap.size + 1 + 1 := by omega
  generalize w.heap.size + 1 + 1 = cb at *
  have k0 := hO2.1 0 _ rfl
  have k1 := hO2.1 1 _ rfl
  have k2 := hO2.1 2 _ rfl
  have k3 := hO2.1 3 _ rfl
  have k4 := hO2.1 4 _ rfl
  have k5 := hO2.1 5 _ rfl
  have hf := hO2.2
  clear hO hO2 hg hG0 hb2 c0 c1 c2 c3 c4 c5
  go_wp2_with (first
    | (go_at_call 39; refine (clone_nil _).mono ?_; rintro e w' ⟨rfl, rfl⟩))
  refine wp_loop_rounds 1 ?_
  refine Eq.mpr (rounds_succ (n := 0)) ?_
  have hB3 : Below w.heap.size w ((w2.setCell ⟨cb, 1, none⟩ (.string ⟨#[48]⟩)).setCell ⟨cb, 3, none⟩ (.slice none 0 0)) := (HB2.out.setCell hcb _).setCell hcb _
  have hB4 : Below w.heap.size w (((w2.setCell ⟨cb, 1, none⟩ (.string ⟨#[48]⟩)).setCell ⟨cb, 3, none⟩ (.slice none 0 0)).alloc (.cells #[.int .i64 2, .string ⟨#[48]⟩, .bool true, .slice none 0 0, .int .i64 0, .int .i64 1] 32)) := hB3.alloc hB3.size _
  have HB4 := Lib.hid hB4
  have hs3 : ((w2.setCell ⟨cb, 1, none⟩ (.string ⟨#[48]⟩)).setCell ⟨cb, 3, none⟩ (.slice none 0 0)).heap.size = w2.heap.size := by simp
  have hsl := Sl.new ((w2.setCell ⟨cb, 1, none⟩ (.string ⟨#[48]⟩)).setCell ⟨cb, 3, none⟩ (.slice none 0 0)) 6 1 [.int .i64 2, .string ⟨#[48]⟩, .bool true, .slice none 0 0, .int .i64 0, .int .i64 1] 32 rfl
  rw [hs3] at hsl
  have HSL : Hid (Sl (((w2.setCell ⟨cb, 1, none⟩ (.string ⟨#[48]⟩)).setCell ⟨cb, 3, none⟩ (.slice none 0 0)).alloc (.cells #[.int .i64 2, .string ⟨#[48]⟩, .bool true, .slice none 0 0, .int .i64 0, .int .i64 1] 32)) (w2.heap.size + 1) 6 (.slice (some ⟨w2.heap.size, 0, none⟩) 1 1) 1 [.int .i64 2, .string ⟨#[48]⟩, .bool true, .slice none 0 0, .int .i64 0, .int .i64 1]) := Lib.hid hsl
  have HZ := Lib.hid hB4.size
  have HONE : Hid (∀ u ∈ ([.int .i64 2, .string ⟨#[48]⟩, .bool true, .slice none 0 0, .int .i64 0, .int .i64 1] : List Value), u.oneCell' = true) := Lib.hid (by intro u hu; simp at hu; rcases hu with rfl | rfl | rfl | rfl | rfl | rfl <;> rfl)
  clear hB3 hB4 hs3 hsl
  go_wp2_with (at_builtin; refine append_row (base := w.heap.size) (size := 6) (xs := []) Tryd.underlying22 info_call rfl (by decide) rfl _ _ rfl rfl Row.nil rfl HSL.out HONE.out ?_ ?_ ?_ ?_; omega; omega; exact HZ.out)
  intro v5 w5 hr5 hb5
  have HR5 : Hid (Row w.heap.size 32 6 w5 v5 1 (exCells ⟨#[48]⟩)) := Lib.hid (by simpa [exCells] using hr5)
  have HB5 := Lib.hid (HB4.out.trans hb5)
  clear hr5 hb5
  go_wp2_with (fail)
  refine Eq.mpr (rounds_succ (n := 0)) ?_
  go_wp2_with (fail)
  go_ret
  exact ⟨_, rfl, HR5.out, HB5.out⟩
end Go.Proofs.YtmcbgjkogggneaaDoor
