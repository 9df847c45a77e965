/- The law's refs. -/
import Derived.Test.YtmcbgjkogggneaaDoorLkE
namespace Go.Proofs.YtmcbgjkogggneaaDoor
set_option maxRecDepth 100000
set_option linter.unusedVariables false
set_option linter.unusedSimpArgs false
open Go.RowKit
theorem info_ref : (Tryd.prog.info? 34).map (fun i => (i.zero, i.size, i.bytes)) = some (some (.agg #[.int .i64 0, .string ⟨#[]⟩, .bool false, .slice none 0 0, .int .i64 0, .int .i64 0]), 6, 72) := by kernel_rfl
theorem cells_one (c : CallV) : ∀ u ∈ c.cells, u.oneCell' = true := by
  intro u hu
  simp [CallV.cells] at hu
  rcases hu with rfl | rfl | rfl | rfl | rfl | rfl <;> rfl
set_option maxHeartbeats 4000000 in
theorem refs_any (n : Nat) (cv : Nat → CallV) (v : Value) (B : Nat) (w : World) (h : Sl w B 6 v n (ccells n cv)) (hB : B ≤ w.heap.size) (hn : n ≤ 20) :
    Calls Tryd.prog 9 #[v] w fun e w' => ∃ v', e = .returned v' ∧ Row w.heap.size 34 6 w' v' n (ccells n cv) ∧ Below w.heap.size w w' := by
  obtain ⟨a, cap, rfl, hcap⟩ := h.form
  have HC := Lib.hid (fun (W : World) (hW : Below w.heap.size w W) => h.below (hW.mono hB))
  clear h
  go_enter Tryd.func9, Tryd.ntmps9
  go_wp2_with (fail)
  go_loopw [3, 4] (fun v i wr => ∃ j : Nat, i = .int .i64 j ∧ j ≤ n ∧ Hid (Row w.heap.size 34 6 wr v j (ccells j cv)) ∧ Hid (Below w.heap.size w wr)) (fun _ i _ => n - (intOf i).toNat)
  case atStart => exact ⟨0, rfl, Nat.zero_le _, Lib.hid Row.nil, Lib.hid (Below.refl _ _)⟩
  case round =>
    obtain ⟨j, rfl, hj, HR, HB2⟩ := hrel
    obtain ⟨wo, rfl⟩ : ∃ z : World, z = wr := ⟨_, rfl⟩
    obtain ⟨ba, bcp, hbv, hbc⟩ := HR.out.form
    subst hbv
    by_cases hlt : j < n
    rotate_left
    · have d1 : decide (j < n) = false := decide_eq_false hlt
      have d2 : decide ((j : Int) < (n : Int)) = false := decide_eq_false (by omega)
      obtain rfl : j = n := by omega
      go_wp2_with (fail)
      go_ret
      exact ⟨_, rfl, HR.out, HB2.out⟩
    have d1 : decide (j < n) = true := decide_eq_true hlt
    have d2 : decide ((j : Int) < (n : Int)) = true := decide_eq_true (by omega)
    have q1 : IntKind.i64.wrap ((j : Int) + 1) = (j : Int) + 1 := IntWalk.i64_in _ (by omega)
    have hbi : (j : Int) < (n : Int) := by omega
    obtain ⟨b, off, rfl, hk0⟩ := sl_cells (HC.out wo HB2.out) (by omega)
    have hz := HB2.out.size
    have HCC := Lib.hid (fun (W : World) (hW : Below wo.heap.size wo W) => call_cells (HC.out W (HB2.out.trans (hW.mono hz))) hlt)
    have HCL := Lib.hid (fun (W : World) (hW : Below w.heap.size w W) => call_cells (HC.out W hW) hlt)
    have HCS := Lib.hid (ccells_succ j cv)
    have HONE := Lib.hid (cells_one (cv j))
    clear hk0
    unfold CallV.cells at HCS HONE
    generalize (cv j).kind = f0 at *
    generalize (cv j).name = f1 at *
    generalize (cv j).told = f2 at *
    generalize (cv j).na = f3 at *
    generalize (cv j).nn = f4 at *
    generalize (cv j).nc = f5 at *
    generalize (cv j).beg = f6 at *
    generalize (cv j).fin = f7 at *
    have hX : Below wo.heap.size wo (wo.drew.alloc (.cells #[.int .i64 f0, .string f1, .bool f2, .slice f3 f4 f5, .int .i64 f6, .int .i64 f7] 34)) := ((Below.refl _ wo).drew).alloc (Nat.le_refl _) _
    have HX := Lib.hid hX
    have HRX := Lib.hid (HR.out.below hX)
    have HBX := Lib.hid (HB2.out.trans (hX.mono hz))
    have HZX := Lib.hid HBX.out.size
    have HSL := Lib.hid (Sl.new wo.drew 6 1 [.int .i64 f0, .string f1, .bool f2, .slice f3 f4 f5, .int .i64 f6, .int .i64 f7] 34 rfl)
    obtain ⟨c0, c1, c2, c3, c4, c5⟩ := HCC.out wo (Below.refl _ _)
    have hblt := World.block_lt_of_cell? wo _ c0
    have hblt' : b < wo.heap.size := hblt
    clear hX hblt
    go_wp2_with (fail)
    go_region_held3 (fun w' => w'.cell? ⟨b, off + j * 6, none⟩ = some (.int .i64 f0) ∧ w'.cell? ⟨b, off + j * 6 + 1, none⟩ = some (.string f1) ∧ w'.cell? ⟨b, off + j * 6 + 2, none⟩ = some (.bool f2) ∧ w'.cell? ⟨b, off + j * 6 + 3, none⟩ = some (.slice f3 f4 f5) ∧ w'.cell? ⟨b, off + j * 6 + 4, none⟩ = some (.int .i64 f6) ∧ w'.cell? ⟨b, off + j * 6 + 5, none⟩ = some (.int .i64 f7))
      (first
        | exact ⟨e0, e1, e2, e3, e4, e5⟩
        | go_keep)
      ((first
        | (refine step_append_row Tryd.underlying27 info_ref rfl (by decide) rfl (.tmp 11) (.tmp 43) rfl rfl HRX.out rfl HSL.out HONE.out (by omega) (by omega) HZX.out ?_
           intro v7 w7 hr7 hb7 hg7
           have HC7 := Lib.hid (HCL.out w7 (HBX.out.trans hb7))
           obtain ⟨e0, e1, e2, e3, e4, e5⟩ := HC7.out)))
    have HR7 : Hid (Row w.heap.size 34 6 w7 v7 (j + 1) (ccells (j + 1) cv)) := Lib.hid (by rw [HCS.out]; exact hr7)
    have HB7 := Lib.hid (HBX.out.trans hb7)
    clear hr7 hb7 hg7 e0 e1 e2 e3 e4 e5
    go_wp2_with (fail)
    go_roundw
    case rel => exact ⟨j + 1, rfl, by omega, HR7, HB7⟩
    case measure => simp [intOf] <;> omega
end Go.Proofs.YtmcbgjkogggneaaDoor
