/- The search's state; isNext. -/
import Derived.Test.YtmcbgjkogggneaaDoorLsC
namespace Go.Proofs.YtmcbgjkogggneaaDoor
set_option maxRecDepth 100000
set_option linter.unusedVariables false
set_option linter.unusedSimpArgs false
open Go.RowKit Go.Maps Go.WideMaps
/-- The cells of a search. -/
def usedC (o : List Nat) : List Value := (List.range 8).map fun i => .bool (decide (i ∈ o))
def scl (sv ov : Value) (o : List Nat) (must : Nat) (mb : Nat) : List Value := sv :: ov :: (usedC o ++ [.int .i64 (must : Nat), .pointer (some ⟨mb, 0, none⟩)])
theorem usedC_len (o : List Nat) : (usedC o).length = 8 := by unfold usedC; simp
theorem scl_used {sv ov : Value} {o : List Nat} {must mb i : Nat} (h : i < 8) : (scl sv ov o must mb)[2 + i]? = some (.bool (decide (i ∈ o))) := by
  unfold scl
  rw [show 2 + i = i + 1 + 1 by omega, List.getElem?_cons_succ, List.getElem?_cons_succ, List.getElem?_append_left (by rw [usedC_len]; exact h)]
  unfold usedC
  rw [List.getElem?_map, List.getElem?_range h]
  rfl
theorem scl_must {sv ov : Value} {o : List Nat} {must mb : Nat} : (scl sv ov o must mb)[10]? = some (.int .i64 (must : Nat)) := by
  unfold scl
  rw [List.getElem?_cons_succ, List.getElem?_cons_succ, List.getElem?_append_right (by rw [usedC_len]; omega), usedC_len]
  rfl
theorem scl_model {sv ov : Value} {o : List Nat} {must mb : Nat} : (scl sv ov o must mb)[11]? = some (.pointer (some ⟨mb, 0, none⟩)) := by
  unfold scl
  rw [List.getElem?_cons_succ, List.getElem?_cons_succ, List.getElem?_append_right (by rw [usedC_len]; omega), usedC_len]
  rfl
/-- May a call come next? -/
def nxJ (cv : Nat → CallV) (o : List Nat) (i j : Nat) : Bool := decide (j ≠ i) && !decide (j ∈ o) && decide (0 ≤ (cv j).fin) && befB (cv j) (cv i)
def nxB (n : Nat) (cv : Nat → CallV) (o : List Nat) (i : Nat) : Bool := !decide (i ∈ o) && canB (cv i) && (List.range n).all fun j => !nxJ cv o i j
theorem nxB_no {n : Nat} {cv : Nat → CallV} {o : List Nat} {i j : Nat} (hj : j < n) (h : nxJ cv o i j = true) : nxB n cv o i = false := by
  unfold nxB
  rw [Bool.and_eq_false_iff]
  right
  rw [List.all_eq_false]
  exact ⟨j, List.mem_range.2 hj, by rw [h]; simp⟩
theorem nxB_yes {n : Nat} {cv : Nat → CallV} {o : List Nat} {i : Nat} (h1 : decide (i ∈ o) = false) (h2 : canB (cv i) = true) (h : ∀ j, j < n → nxJ cv o i j = false) : nxB n cv o i = true := by
  unfold nxB
  rw [h1, h2, Bool.not_false, Bool.true_and, Bool.true_and, List.all_eq_true]
  exact fun j hj => by rw [h j (List.mem_range.1 hj)]; rfl
set_option maxHeartbeats 8000000 in
theorem isNext_any (sb n i must mb C : Nat) (cv : Nat → CallV) (o : List Nat) (sv ov : Value) (w : World) (hs : Cells w sb (scl sv ov o must mb)) (hsb : sb < w.heap.size) (hc : Sl w C 6 sv n (ccells n cv)) (hC : C ≤ w.heap.size) (hi : i < n) (hn : n ≤ 8) :
    Calls Tryd.prog 40 #[.pointer (some ⟨sb, 0, none⟩), .int .i64 (i : Nat)] w fun e w' => e = .returned (.bool (nxB n cv o i)) ∧ Below w.heap.size w w' := by
  obtain ⟨a, cap, rfl, hcap⟩ := hc.form
  have HK : Hid (∀ W, Below w.heap.size w W → W.cell? ⟨sb, 0, none⟩ = some (.slice a n cap) ∧ True ∧ ∀ j, j < 8 → W.cell? ⟨sb, 2 + j, none⟩ = some (.bool (decide (j ∈ o)))) := Lib.hid (fun W hW => ⟨hs.below hW hsb 0 _ rfl, trivial, fun j hj => hs.below hW hsb (2 + j) _ (scl_used hj)⟩)
  have HC := Lib.hid (fun (W : World) (hW : Below w.heap.size w W) => hc.below (hW.mono hC))
  obtain ⟨b, off, rfl, _⟩ := sl_cells hc (by omega)
  have HI := Lib.hid (fun (W : World) (hW : Below w.heap.size w W) => call_cells (HC.out W hW) hi)
  clear hs hc
  obtain ⟨k0, _, k2⟩ := HK.out w (Below.refl _ _)
  have ku := k2 i (by omega)
  have hii : (i : Int) < (n : Int) := by omega
  have hi8 : (i : Int) < 8 := by omega
  obtain ⟨u, hu⟩ : ∃ u, decide (i ∈ o) = u := ⟨_, rfl⟩
  rw [hu] at ku
  have HUS := Lib.hid hu
  clear hu k2
  cases u with
  | true =>
    have HNX : Hid (nxB n cv o i = false) := Lib.hid (by unfold nxB; rw [HUS.out]; rfl)
    go_enter Tryd.func40, Tryd.ntmps40
    go_wp2_with (fail)
    go_ret
    exact ⟨by rw [HNX.out]; rfl, Below.refl _ _⟩
  | false =>
  obtain ⟨c0, c1, c2, c3, c4, c5⟩ := HI.out w (Below.refl _ _)
  have HCAN : Hid (∀ W, Calls Tryd.prog 12 #[(cv i).agg] W fun e w' => e = .returned (.bool (canB (cv i))) ∧ Below W.heap.size W w') := Lib.hid (can_any (cv i))
  obtain ⟨ca, hca⟩ : ∃ ca, canB (cv i) = ca := ⟨_, rfl⟩
  rw [hca] at HCAN
  have HCA := Lib.hid hca
  clear hca
  unfold CallV.agg at HCAN
  go_enter Tryd.func40, Tryd.ntmps40
  go_wp2_with (fail)
  refine (HCAN.out w).mono ?_
  rintro e w1 ⟨rfl, hb1⟩
  have HB1 := Lib.hid hb1
  clear hb1 c0 c1 c2 c3 c4 c5 k0 ku HCAN
  cases ca with
  | false =>
    have HNX : Hid (nxB n cv o i = false) := Lib.hid (by unfold nxB; rw [HUS.out, HCA.out]; rfl)
    go_wp2_with (fail)
    go_ret
    exact ⟨by rw [HNX.out]; rfl, HB1.out⟩
  | true =>
  have k0 := (HK.out w1 HB1.out).1
  go_wp2_with (fail)
  clear k0
  go_loopw [29] (fun i' wr => ∃ j : Nat, i' = .int .i64 j ∧ j ≤ n ∧ Hid (Below w.heap.size w wr) ∧ Hid (∀ k, k < j → nxJ cv o i k = false)) (fun i _ => n - (intOf i).toNat)
  case atStart => exact ⟨0, rfl, Nat.zero_le _, HB1, Lib.hid (fun k hk => by omega)⟩
  case round =>
    obtain ⟨j, rfl, hj, HB2, HAL⟩ := hrel
    obtain ⟨wo, rfl⟩ : ∃ z : World, z = wr := ⟨_, rfl⟩
    by_cases hlt : j < n
    rotate_left
    · have d1 : decide (j < n) = false := decide_eq_false hlt
      have d2 : decide ((j : Int) < (n : Int)) = false := decide_eq_false (by omega)
      have HNX : Hid (nxB n cv o i = true) := Lib.hid (nxB_yes HUS.out HCA.out (fun k hk => HAL.out k (by omega)))
      go_wp2_with (fail)
      go_ret
      exact ⟨by rw [HNX.out]; rfl, HB2.out⟩
    have d1 : decide (j < n) = true := decide_eq_true hlt
    have d2 : decide ((j : Int) < (n : Int)) = true := decide_eq_true (by omega)
    have q1 : IntKind.i64.wrap ((j : Int) + 1) = (j : Int) + 1 := IntWalk.i64_in _ (by omega)
    have hji : (j : Int) < (n : Int) := by omega
    have hj8 : (j : Int) < 8 := by omega
    have hz := HB2.out.size
    have HMU := Lib.hid (must_any (cv j))
    have HBE := Lib.hid (before_any (cv j) (cv i))
    obtain ⟨c0, c1, c2, c3, c4, c5⟩ := call_cells (HC.out wo HB2.out) hlt
    obtain ⟨wx, hwx⟩ : ∃ z : World, z = wo.alloc (.cells #[.int .i64 (cv j).kind, .string (cv j).name, .bool (cv j).told, .slice (cv j).na (cv j).nn (cv j).nc, .int .i64 (cv j).beg, .int .i64 (cv j).fin] 32) := ⟨_, rfl⟩
    have HBX : Hid (Below w.heap.size w wx) := Lib.hid (by rw [hwx]; exact HB2.out.alloc hz _)
    have hzx := HBX.out.size
    have hox : wo.heap.size < wx.heap.size := by rw [hwx]; simp
    have FB : Hid (∀ W, Below wx.heap.size wx W → W.cell? ⟨wo.heap.size, 0, none⟩ = some (.int .i64 (cv j).kind) ∧ W.cell? ⟨wo.heap.size, 1, none⟩ = some (.string (cv j).name) ∧ W.cell? ⟨wo.heap.size, 2, none⟩ = some (.bool (cv j).told) ∧ W.cell? ⟨wo.heap.size, 3, none⟩ = some (.slice (cv j).na (cv j).nn (cv j).nc) ∧ W.cell? ⟨wo.heap.size, 4, none⟩ = some (.int .i64 (cv j).beg) ∧ W.cell? ⟨wo.heap.size, 5, none⟩ = some (.int .i64 (cv j).fin)) := Lib.hid (fun W hW => by
      have h : Cells W wo.heap.size (cv j).cells := Cells.below (by rw [hwx]; exact Cells.new wo (cv j).cells _) hW hox
      exact ⟨h 0 _ rfl, h 1 _ rfl, h 2 _ rfl, h 3 _ rfl, h 4 _ rfl, h 5 _ rfl⟩)
    have HWX := Lib.hid hwx
    have HTE : Hid (nxJ cv o i j = (decide (j ≠ i) && !decide (j ∈ o) && decide (0 ≤ (cv j).fin) && befB (cv j) (cv i))) := Lib.hid rfl
    clear hwx
    by_cases hne : j = i
    · have e1 : ((j : Int) != (i : Int)) = false := by subst hne; simp
      have e2 : ((j : Int) == (i : Int)) = true := by subst hne; simp
      have HTJ : Hid (nxJ cv o i j = false) := Lib.hid (by rw [HTE.out]; simp [hne])
      clear hne
      go_upto_region 6 with (fail)
      rw [← HWX.out]
      clear c0 c1 c2 c3 c4 c5
      refine Mono.region_below (by kernel_rfl) (by kernel_rfl) (by kernel_rfl) ?_
      refine Mono.rgl_val (v := ?va0) rfl Mono.rr (fun ρ a W hR hd hf => ?ha0) ?_
      case ha0 =>
        have e5 := Mono.init_get hf (t := 5) (by kernel_rfl)
        clear hd hf
        (go_simp; try with_reducible rfl)
      refine Mono.rgl_val (v := ?va1) rfl Mono.rr (fun ρ a W hR hd hf => ?ha1) ?_
      case ha1 =>
        have e1 := Mono.init_get hf (t := 1) (by kernel_rfl)
        clear hd hf
        (go_simp; try with_reducible rfl)
      refine Mono.rgl_val (v := ?va2) rfl Mono.rr (fun ρ a W hR hd hf => ?ha2) ?_
      case ha2 =>
        have e34 := Mono.dep_val hd hf (t := 34) (k := 0) (by kernel_rfl) rfl
        have e35 := Mono.dep_val hd hf (t := 35) (k := 1) (by kernel_rfl) rfl
        clear hd hf
        (go_simp; try with_reducible rfl)
      refine Mono.rgl_val (v := ?va3) rfl Mono.rr (fun ρ a W hR hd hf => ?ha3) ?_
      case ha3 =>
        have e36 := Mono.dep_val hd hf (t := 36) (k := 2) (by kernel_rfl) rfl
        clear hd hf
        (go_simp; try with_reducible rfl)
      refine Mono.rgl_skip rfl (by decide) (fun ρ W hd => Mono.guard_val hd (t := 37) (k := 3) (by kernel_rfl) rfl) ?_
      refine Mono.rgl_skip rfl (by decide) (fun ρ W hd => Mono.guard_val hd (t := 37) (k := 3) (by kernel_rfl) rfl) ?_
      refine Mono.rgl_skip rfl (by decide) (fun ρ W hd => Mono.guard_val hd (t := 37) (k := 3) (by kernel_rfl) rfl) ?_
      refine Mono.rgl_skip rfl (by decide) (fun ρ W hd => Mono.guard_val hd (t := 37) (k := 3) (by kernel_rfl) rfl) ?_
      refine Mono.rgl_skip rfl (by decide) (fun ρ W hd => Mono.guard_val hd (t := 37) (k := 3) (by kernel_rfl) rfl) ?_
      refine Mono.rgl_skip rfl (by decide) (fun ρ W hd => Mono.guard_val hd (t := 37) (k := 3) (by kernel_rfl) rfl) ?_
      refine Mono.rgl_skip rfl (by decide) (fun ρ W hd => Mono.guard_val hd (t := 37) (k := 3) (by kernel_rfl) rfl) ?_
      refine Mono.rgl_val (v := ?va11) rfl Mono.rr (fun ρ a W hR hd hf => ?ha11) ?_
      case ha11 =>
        have e37 := Mono.dep_val hd hf (t := 37) (k := 3) (by kernel_rfl) rfl
        have e44 := Mono.dep_val hd hf (t := 44) (k := 10) (by kernel_rfl) rfl
        clear hd hf
        (go_simp; try with_reducible rfl)
      refine Mono.rgl_val (v := ?va12) rfl Mono.rr (fun ρ a W hR hd hf => ?ha12) ?_
      case ha12 =>
        have e45 := Mono.dep_val hd hf (t := 45) (k := 11) (by kernel_rfl) rfl
        clear hd hf
        (go_simp; try with_reducible rfl)
      refine Mono.rgl_skip rfl (by decide) (fun ρ W hd => Mono.guard_val hd (t := 46) (k := 12) (by kernel_rfl) rfl) ?_
      refine Mono.rgl_skip rfl (by decide) (fun ρ W hd => Mono.guard_val hd (t := 46) (k := 12) (by kernel_rfl) rfl) ?_
      refine Mono.rgl_val (v := ?va15) rfl Mono.rr (fun ρ a W hR hd hf => ?ha15) ?_
      case ha15 =>
        have e46 := Mono.dep_val hd hf (t := 46) (k := 12) (by kernel_rfl) rfl
        have e48 := Mono.dep_val hd hf (t := 48) (k := 14) (by kernel_rfl) rfl
        clear hd hf
        (go_simp; try with_reducible rfl)
      refine Mono.rgl_val (v := ?va16) rfl Mono.rr (fun ρ a W hR hd hf => ?ha16) ?_
      case ha16 =>
        have e49 := Mono.dep_val hd hf (t := 49) (k := 15) (by kernel_rfl) rfl
        clear hd hf
        (go_simp; try with_reducible rfl)
      refine Mono.rgl_skip rfl (by decide) (fun ρ W hd => Mono.guard_val hd (t := 50) (k := 16) (by kernel_rfl) rfl) ?_
      refine Mono.rgl_skip rfl (by decide) (fun ρ W hd => Mono.guard_val hd (t := 50) (k := 16) (by kernel_rfl) rfl) ?_
      refine Mono.rgl_skip rfl (by decide) (fun ρ W hd => Mono.guard_val hd (t := 50) (k := 16) (by kernel_rfl) rfl) ?_
      refine Mono.rgl_skip rfl (by decide) (fun ρ W hd => Mono.guard_val hd (t := 50) (k := 16) (by kernel_rfl) rfl) ?_
      refine Mono.rgl_skip rfl (by decide) (fun ρ W hd => Mono.guard_val hd (t := 50) (k := 16) (by kernel_rfl) rfl) ?_
      refine Mono.rgl_skip rfl (by decide) (fun ρ W hd => Mono.guard_val hd (t := 50) (k := 16) (by kernel_rfl) rfl) ?_
      refine Mono.rgl_skip rfl (by decide) (fun ρ W hd => Mono.guard_val hd (t := 50) (k := 16) (by kernel_rfl) rfl) ?_
      refine Mono.rgl_skip rfl (by decide) (fun ρ W hd => Mono.guard_val hd (t := 50) (k := 16) (by kernel_rfl) rfl) ?_
      refine Mono.rgl_skip rfl (by decide) (fun ρ W hd => Mono.guard_val hd (t := 50) (k := 16) (by kernel_rfl) rfl) ?_
      refine Mono.rgl_val (v := ?va26) rfl Mono.rr (fun ρ a W hR hd hf => ?ha26) ?_
      case ha26 =>
        have e50 := Mono.dep_val hd hf (t := 50) (k := 16) (by kernel_rfl) rfl
        have e59 := Mono.dep_val hd hf (t := 59) (k := 25) (by kernel_rfl) rfl
        clear hd hf
        (go_simp; try with_reducible rfl)
      refine Mono.rgl_done rfl (fun ρ W hR ht => ?_)
      obtain ⟨da26, da25, da24, da23, da22, da21, da20, da19, da18, da17, da16, da15, da14, da13, da12, da11, da10, da9, da8, da7, da6, da5, da4, da3, da2, da1, da0, _⟩ := ht
      simp only [List.length_cons, List.length_nil, Nat.reduceAdd] at da0 da1 da2 da3 da4 da5 da6 da7 da8 da9 da10 da11 da12 da13 da14 da15 da16 da17 da18 da19 da20 da21 da22 da23 da24 da25 da26
      simp only [Mono.putAll, Nat.reduceAdd, da0, da1, da2, da3, da4, da5, da6, da7, da8, da9, da10, da11, da12, da13, da14, da15, da16, da17, da18, da19, da20, da21, da22, da23, da24, da25, da26, Act.put, List.setIfInBounds_toArray, List.set_cons_zero, List.set_cons_succ]
      clear da0 da1 da2 da3 da4 da5 da6 da7 da8 da9 da10 da11 da12 da13 da14 da15 da16 da17 da18 da19 da20 da21 da22 da23 da24 da25 da26
      have HB3 := Lib.hid (HBX.out.trans (hR.mono hzx))
      clear hR
      go_wp2_with (fail)
      go_roundw
      case rel => exact ⟨j + 1, rfl, by omega, HB3, Lib.hid (fun k hk => by
        by_cases e : k = j
        · subst e; exact HTJ.out
        · exact HAL.out k (by omega))⟩
      case measure => simp [intOf] <;> omega
    have e1 : ((j : Int) != (i : Int)) = true := by simp; omega
    have e2 : ((j : Int) == (i : Int)) = false := by simp; omega
    obtain ⟨us, hus⟩ : ∃ us, decide (j ∈ o) = us := ⟨_, rfl⟩
    obtain ⟨mu, hmu⟩ : ∃ mu, decide (0 ≤ (cv j).fin) = mu := ⟨_, rfl⟩
    obtain ⟨be, hbe⟩ : ∃ be, befB (cv j) (cv i) = be := ⟨_, rfl⟩
    have hkj : ∀ W, Below w.heap.size w W → W.cell? ⟨sb, 2 + j, none⟩ = some (.bool us) := fun W hW => by rw [← hus]; exact (HK.out W hW).2.2 j (by omega)
    have HKJ := Lib.hid hkj
    rw [hmu] at HMU HTE
    rw [hbe] at HBE HTE
    rw [hus] at HTE
    clear hus hmu hbe hkj
    go_upto_region 6 with (fail)
    rw [← HWX.out]
    clear c0 c1 c2 c3 c4 c5
    cases us with
    | true =>
      have HTJ : Hid (nxJ cv o i j = false) := Lib.hid (by rw [HTE.out]; simp)
      refine Mono.region_below (by kernel_rfl) (by kernel_rfl) (by kernel_rfl) ?_
      refine Mono.rgl_val (v := ?vb0) rfl Mono.rr (fun ρ a W hR hd hf => ?hb0) ?_
      case hb0 =>
        have e5 := Mono.init_get hf (t := 5) (by kernel_rfl)
        clear hd hf
        (go_simp; try with_reducible rfl)
      refine Mono.rgl_val (v := ?vb1) rfl Mono.rr (fun ρ a W hR hd hf => ?hb1) ?_
      case hb1 =>
        have e1 := Mono.init_get hf (t := 1) (by kernel_rfl)
        clear hd hf
        (go_simp; try with_reducible rfl)
      refine Mono.rgl_val (v := ?vb2) rfl Mono.rr (fun ρ a W hR hd hf => ?hb2) ?_
      case hb2 =>
        have e34 := Mono.dep_val hd hf (t := 34) (k := 0) (by kernel_rfl) rfl
        have e35 := Mono.dep_val hd hf (t := 35) (k := 1) (by kernel_rfl) rfl
        clear hd hf
        (go_simp; try with_reducible rfl)
      refine Mono.rgl_val (v := ?vb3) rfl Mono.rr (fun ρ a W hR hd hf => ?hb3) ?_
      case hb3 =>
        have e36 := Mono.dep_val hd hf (t := 36) (k := 2) (by kernel_rfl) rfl
        clear hd hf
        (go_simp; try with_reducible rfl)
      refine Mono.rgl_valg (v := ?vb4) rfl Mono.rr (fun ρ W hd => Mono.guard_val hd (t := 37) (k := 3) (by kernel_rfl) rfl) (fun ρ a W hR hd hf => ?hb4) ?_
      case hb4 =>
        have e0 := Mono.init_get hf (t := 0) (by kernel_rfl)
        clear hd hf
        (go_simp; try with_reducible rfl)
      refine Mono.rgl_valg (v := ?vb5) rfl Mono.rr (fun ρ W hd => Mono.guard_val hd (t := 37) (k := 3) (by kernel_rfl) rfl) (fun ρ a W hR hd hf => ?hb5) ?_
      case hb5 =>
        have e5 := Mono.init_get hf (t := 5) (by kernel_rfl)
        clear hd hf
        (go_simp; try with_reducible rfl)
      refine Mono.rgl_valg (v := ?vb6) rfl Mono.rr (fun ρ W hd => Mono.guard_val hd (t := 37) (k := 3) (by kernel_rfl) rfl) (fun ρ a W hR hd hf => ?hb6) ?_
      case hb6 =>
        have e38 := Mono.dep_val hd hf (t := 38) (k := 4) (by kernel_rfl) rfl
        clear hd hf
        (go_simp; try with_reducible rfl)
      refine Mono.rgl_valg (v := ?vb7) rfl Mono.rr (fun ρ W hd => Mono.guard_val hd (t := 37) (k := 3) (by kernel_rfl) rfl) (fun ρ a W hR hd hf => ?hb7) ?_
      case hb7 =>
        have e40 := Mono.dep_val hd hf (t := 40) (k := 6) (by kernel_rfl) rfl
        clear hd hf
        (go_simp; try with_reducible rfl)
      refine Mono.rgl_valg (v := ?vb8) rfl Mono.rr (fun ρ W hd => Mono.guard_val hd (t := 37) (k := 3) (by kernel_rfl) rfl) (fun ρ a W hR hd hf => ?hb8) ?_
      case hb8 =>
        have e41 := Mono.dep_val hd hf (t := 41) (k := 7) (by kernel_rfl) rfl
        have e39 := Mono.dep_val hd hf (t := 39) (k := 5) (by kernel_rfl) rfl
        clear hd hf
        (go_simp; try with_reducible rfl)
      refine Mono.rgl_valg (v := ?vb9) rfl Mono.rr (fun ρ W hd => Mono.guard_val hd (t := 37) (k := 3) (by kernel_rfl) rfl) (fun ρ a W hR hd hf => ?hb9) ?_
      case hb9 =>
        have e42 := Mono.dep_val hd hf (t := 42) (k := 8) (by kernel_rfl) rfl
        have hk := HKJ.out W (HBX.out.trans (hR.mono hzx))
        clear hd hf
        (go_simp; try with_reducible rfl)
      refine Mono.rgl_valg (v := ?vb10) rfl Mono.rr (fun ρ W hd => Mono.guard_val hd (t := 37) (k := 3) (by kernel_rfl) rfl) (fun ρ a W hR hd hf => ?hb10) ?_
      case hb10 =>
        have e43 := Mono.dep_val hd hf (t := 43) (k := 9) (by kernel_rfl) rfl
        clear hd hf
        (go_simp; try with_reducible rfl)
      refine Mono.rgl_val (v := ?vb11) rfl Mono.rr (fun ρ a W hR hd hf => ?hb11) ?_
      case hb11 =>
        have e37 := Mono.dep_val hd hf (t := 37) (k := 3) (by kernel_rfl) rfl
        have e44 := Mono.dep_val hd hf (t := 44) (k := 10) (by kernel_rfl) rfl
        clear hd hf
        (go_simp; try with_reducible rfl)
      refine Mono.rgl_val (v := ?vb12) rfl Mono.rr (fun ρ a W hR hd hf => ?hb12) ?_
      case hb12 =>
        have e45 := Mono.dep_val hd hf (t := 45) (k := 11) (by kernel_rfl) rfl
        clear hd hf
        (go_simp; try with_reducible rfl)
      refine Mono.rgl_skip rfl (by decide) (fun ρ W hd => Mono.guard_val hd (t := 46) (k := 12) (by kernel_rfl) rfl) ?_
      refine Mono.rgl_skip rfl (by decide) (fun ρ W hd => Mono.guard_val hd (t := 46) (k := 12) (by kernel_rfl) rfl) ?_
      refine Mono.rgl_val (v := ?vb15) rfl Mono.rr (fun ρ a W hR hd hf => ?hb15) ?_
      case hb15 =>
        have e46 := Mono.dep_val hd hf (t := 46) (k := 12) (by kernel_rfl) rfl
        have e48 := Mono.dep_val hd hf (t := 48) (k := 14) (by kernel_rfl) rfl
        clear hd hf
        (go_simp; try with_reducible rfl)
      refine Mono.rgl_val (v := ?vb16) rfl Mono.rr (fun ρ a W hR hd hf => ?hb16) ?_
      case hb16 =>
        have e49 := Mono.dep_val hd hf (t := 49) (k := 15) (by kernel_rfl) rfl
        clear hd hf
        (go_simp; try with_reducible rfl)
      refine Mono.rgl_skip rfl (by decide) (fun ρ W hd => Mono.guard_val hd (t := 50) (k := 16) (by kernel_rfl) rfl) ?_
      refine Mono.rgl_skip rfl (by decide) (fun ρ W hd => Mono.guard_val hd (t := 50) (k := 16) (by kernel_rfl) rfl) ?_
      refine Mono.rgl_skip rfl (by decide) (fun ρ W hd => Mono.guard_val hd (t := 50) (k := 16) (by kernel_rfl) rfl) ?_
      refine Mono.rgl_skip rfl (by decide) (fun ρ W hd => Mono.guard_val hd (t := 50) (k := 16) (by kernel_rfl) rfl) ?_
      refine Mono.rgl_skip rfl (by decide) (fun ρ W hd => Mono.guard_val hd (t := 50) (k := 16) (by kernel_rfl) rfl) ?_
      refine Mono.rgl_skip rfl (by decide) (fun ρ W hd => Mono.guard_val hd (t := 50) (k := 16) (by kernel_rfl) rfl) ?_
      refine Mono.rgl_skip rfl (by decide) (fun ρ W hd => Mono.guard_val hd (t := 50) (k := 16) (by kernel_rfl) rfl) ?_
      refine Mono.rgl_skip rfl (by decide) (fun ρ W hd => Mono.guard_val hd (t := 50) (k := 16) (by kernel_rfl) rfl) ?_
      refine Mono.rgl_skip rfl (by decide) (fun ρ W hd => Mono.guard_val hd (t := 50) (k := 16) (by kernel_rfl) rfl) ?_
      refine Mono.rgl_val (v := ?vb26) rfl Mono.rr (fun ρ a W hR hd hf => ?hb26) ?_
      case hb26 =>
        have e50 := Mono.dep_val hd hf (t := 50) (k := 16) (by kernel_rfl) rfl
        have e59 := Mono.dep_val hd hf (t := 59) (k := 25) (by kernel_rfl) rfl
        clear hd hf
        (go_simp; try with_reducible rfl)
      refine Mono.rgl_done rfl (fun ρ W hR ht => ?_)
      obtain ⟨db26, db25, db24, db23, db22, db21, db20, db19, db18, db17, db16, db15, db14, db13, db12, db11, db10, db9, db8, db7, db6, db5, db4, db3, db2, db1, db0, _⟩ := ht
      simp only [List.length_cons, List.length_nil, Nat.reduceAdd] at db0 db1 db2 db3 db4 db5 db6 db7 db8 db9 db10 db11 db12 db13 db14 db15 db16 db17 db18 db19 db20 db21 db22 db23 db24 db25 db26
      simp only [Mono.putAll, Nat.reduceAdd, db0, db1, db2, db3, db4, db5, db6, db7, db8, db9, db10, db11, db12, db13, db14, db15, db16, db17, db18, db19, db20, db21, db22, db23, db24, db25, db26, Act.put, List.setIfInBounds_toArray, List.set_cons_zero, List.set_cons_succ]
      clear db0 db1 db2 db3 db4 db5 db6 db7 db8 db9 db10 db11 db12 db13 db14 db15 db16 db17 db18 db19 db20 db21 db22 db23 db24 db25 db26
      have HB3 := Lib.hid (HBX.out.trans (hR.mono hzx))
      clear hR
      go_wp2_with (fail)
      go_roundw
      case rel => exact ⟨j + 1, rfl, by omega, HB3, Lib.hid (fun k hk => by
        by_cases e : k = j
        · subst e; exact HTJ.out
        · exact HAL.out k (by omega))⟩
      case measure => simp [intOf] <;> omega
    | false =>
    cases mu with
    | false =>
      have HTJ : Hid (nxJ cv o i j = false) := Lib.hid (by rw [HTE.out]; simp)
      refine Mono.region_below (by kernel_rfl) (by kernel_rfl) (by kernel_rfl) ?_
      refine Mono.rgl_val (v := ?vc0) rfl Mono.rr (fun ρ a W hR hd hf => ?hc0) ?_
      case hc0 =>
        have e5 := Mono.init_get hf (t := 5) (by kernel_rfl)
        clear hd hf
        (go_simp; try with_reducible rfl)
      refine Mono.rgl_val (v := ?vc1) rfl Mono.rr (fun ρ a W hR hd hf => ?hc1) ?_
      case hc1 =>
        have e1 := Mono.init_get hf (t := 1) (by kernel_rfl)
        clear hd hf
        (go_simp; try with_reducible rfl)
      refine Mono.rgl_val (v := ?vc2) rfl Mono.rr (fun ρ a W hR hd hf => ?hc2) ?_
      case hc2 =>
        have e34 := Mono.dep_val hd hf (t := 34) (k := 0) (by kernel_rfl) rfl
        have e35 := Mono.dep_val hd hf (t := 35) (k := 1) (by kernel_rfl) rfl
        clear hd hf
        (go_simp; try with_reducible rfl)
      refine Mono.rgl_val (v := ?vc3) rfl Mono.rr (fun ρ a W hR hd hf => ?hc3) ?_
      case hc3 =>
        have e36 := Mono.dep_val hd hf (t := 36) (k := 2) (by kernel_rfl) rfl
        clear hd hf
        (go_simp; try with_reducible rfl)
      refine Mono.rgl_valg (v := ?vc4) rfl Mono.rr (fun ρ W hd => Mono.guard_val hd (t := 37) (k := 3) (by kernel_rfl) rfl) (fun ρ a W hR hd hf => ?hc4) ?_
      case hc4 =>
        have e0 := Mono.init_get hf (t := 0) (by kernel_rfl)
        clear hd hf
        (go_simp; try with_reducible rfl)
      refine Mono.rgl_valg (v := ?vc5) rfl Mono.rr (fun ρ W hd => Mono.guard_val hd (t := 37) (k := 3) (by kernel_rfl) rfl) (fun ρ a W hR hd hf => ?hc5) ?_
      case hc5 =>
        have e5 := Mono.init_get hf (t := 5) (by kernel_rfl)
        clear hd hf
        (go_simp; try with_reducible rfl)
      refine Mono.rgl_valg (v := ?vc6) rfl Mono.rr (fun ρ W hd => Mono.guard_val hd (t := 37) (k := 3) (by kernel_rfl) rfl) (fun ρ a W hR hd hf => ?hc6) ?_
      case hc6 =>
        have e38 := Mono.dep_val hd hf (t := 38) (k := 4) (by kernel_rfl) rfl
        clear hd hf
        (go_simp; try with_reducible rfl)
      refine Mono.rgl_valg (v := ?vc7) rfl Mono.rr (fun ρ W hd => Mono.guard_val hd (t := 37) (k := 3) (by kernel_rfl) rfl) (fun ρ a W hR hd hf => ?hc7) ?_
      case hc7 =>
        have e40 := Mono.dep_val hd hf (t := 40) (k := 6) (by kernel_rfl) rfl
        clear hd hf
        (go_simp; try with_reducible rfl)
      refine Mono.rgl_valg (v := ?vc8) rfl Mono.rr (fun ρ W hd => Mono.guard_val hd (t := 37) (k := 3) (by kernel_rfl) rfl) (fun ρ a W hR hd hf => ?hc8) ?_
      case hc8 =>
        have e41 := Mono.dep_val hd hf (t := 41) (k := 7) (by kernel_rfl) rfl
        have e39 := Mono.dep_val hd hf (t := 39) (k := 5) (by kernel_rfl) rfl
        clear hd hf
        (go_simp; try with_reducible rfl)
      refine Mono.rgl_valg (v := ?vc9) rfl Mono.rr (fun ρ W hd => Mono.guard_val hd (t := 37) (k := 3) (by kernel_rfl) rfl) (fun ρ a W hR hd hf => ?hc9) ?_
      case hc9 =>
        have e42 := Mono.dep_val hd hf (t := 42) (k := 8) (by kernel_rfl) rfl
        have hk := HKJ.out W (HBX.out.trans (hR.mono hzx))
        clear hd hf
        (go_simp; try with_reducible rfl)
      refine Mono.rgl_valg (v := ?vc10) rfl Mono.rr (fun ρ W hd => Mono.guard_val hd (t := 37) (k := 3) (by kernel_rfl) rfl) (fun ρ a W hR hd hf => ?hc10) ?_
      case hc10 =>
        have e43 := Mono.dep_val hd hf (t := 43) (k := 9) (by kernel_rfl) rfl
        clear hd hf
        (go_simp; try with_reducible rfl)
      refine Mono.rgl_val (v := ?vc11) rfl Mono.rr (fun ρ a W hR hd hf => ?hc11) ?_
      case hc11 =>
        have e37 := Mono.dep_val hd hf (t := 37) (k := 3) (by kernel_rfl) rfl
        have e44 := Mono.dep_val hd hf (t := 44) (k := 10) (by kernel_rfl) rfl
        clear hd hf
        (go_simp; try with_reducible rfl)
      refine Mono.rgl_val (v := ?vc12) rfl Mono.rr (fun ρ a W hR hd hf => ?hc12) ?_
      case hc12 =>
        have e45 := Mono.dep_val hd hf (t := 45) (k := 11) (by kernel_rfl) rfl
        clear hd hf
        (go_simp; try with_reducible rfl)
      refine Mono.rgl_valg (v := (cv j).agg) rfl Mono.rr (fun ρ W hd => Mono.guard_val hd (t := 46) (k := 12) (by kernel_rfl) rfl) (fun ρ a W hR hd hf => ?hc13) ?_
      case hc13 =>
        have e6 := Mono.init_get hf (t := 6) (by kernel_rfl)
        obtain ⟨c0, c1, c2, c3, c4, c5⟩ := FB.out W hR
        clear hd hf
        (go_simp; rfl)
      refine Mono.rgl_callg (fun x _ => x = .bool false) rfl Mono.rr (fun _ _ _ h _ => h) (fun ρ W hd => Mono.guard_val hd (t := 46) (k := 12) (by kernel_rfl) rfl) (fun ρ a W hR hd hf => ?hc14) ?_
      case hc14 =>
        have e47 := Mono.dep_val hd hf (t := 47) (k := 13) (by kernel_rfl) rfl
        clear hd hf
        refine ⟨_, _, by go_simp; first | rfl | exact ⟨rfl, rfl⟩, ?_⟩
        exact (HMU.out W).mono (fun e W' ⟨he, hb⟩ => ⟨_, he, hb, rfl⟩)
      refine Mono.rgl_val (v := ?vc15) rfl Mono.rr (fun ρ a W hR hd hf => ?hc15) ?_
      case hc15 =>
        have e46 := Mono.dep_val hd hf (t := 46) (k := 12) (by kernel_rfl) rfl
        have e48 := Mono.dep_val hd hf (t := 48) (k := 14) (by kernel_rfl) rfl
        clear hd hf
        (go_simp; try with_reducible rfl)
      refine Mono.rgl_val (v := ?vc16) rfl Mono.rr (fun ρ a W hR hd hf => ?hc16) ?_
      case hc16 =>
        have e49 := Mono.dep_val hd hf (t := 49) (k := 15) (by kernel_rfl) rfl
        clear hd hf
        (go_simp; try with_reducible rfl)
      refine Mono.rgl_skip rfl (by decide) (fun ρ W hd => Mono.guard_val hd (t := 50) (k := 16) (by kernel_rfl) rfl) ?_
      refine Mono.rgl_skip rfl (by decide) (fun ρ W hd => Mono.guard_val hd (t := 50) (k := 16) (by kernel_rfl) rfl) ?_
      refine Mono.rgl_skip rfl (by decide) (fun ρ W hd => Mono.guard_val hd (t := 50) (k := 16) (by kernel_rfl) rfl) ?_
      refine Mono.rgl_skip rfl (by decide) (fun ρ W hd => Mono.guard_val hd (t := 50) (k := 16) (by kernel_rfl) rfl) ?_
      refine Mono.rgl_skip rfl (by decide) (fun ρ W hd => Mono.guard_val hd (t := 50) (k := 16) (by kernel_rfl) rfl) ?_
      refine Mono.rgl_skip rfl (by decide) (fun ρ W hd => Mono.guard_val hd (t := 50) (k := 16) (by kernel_rfl) rfl) ?_
      refine Mono.rgl_skip rfl (by decide) (fun ρ W hd => Mono.guard_val hd (t := 50) (k := 16) (by kernel_rfl) rfl) ?_
      refine Mono.rgl_skip rfl (by decide) (fun ρ W hd => Mono.guard_val hd (t := 50) (k := 16) (by kernel_rfl) rfl) ?_
      refine Mono.rgl_skip rfl (by decide) (fun ρ W hd => Mono.guard_val hd (t := 50) (k := 16) (by kernel_rfl) rfl) ?_
      refine Mono.rgl_val (v := ?vc26) rfl Mono.rr (fun ρ a W hR hd hf => ?hc26) ?_
      case hc26 =>
        have e50 := Mono.dep_val hd hf (t := 50) (k := 16) (by kernel_rfl) rfl
        have e59 := Mono.dep_val hd hf (t := 59) (k := 25) (by kernel_rfl) rfl
        clear hd hf
        (go_simp; try with_reducible rfl)
      refine Mono.rgl_done rfl (fun ρ W hR ht => ?_)
      obtain ⟨dc26, dc25, dc24, dc23, dc22, dc21, dc20, dc19, dc18, dc17, dc16, dc15, dc14, dc13, dc12, dc11, dc10, dc9, dc8, dc7, dc6, dc5, dc4, dc3, dc2, dc1, dc0, _⟩ := ht
      simp only [List.length_cons, List.length_nil, Nat.reduceAdd] at dc0 dc1 dc2 dc3 dc4 dc5 dc6 dc7 dc8 dc9 dc10 dc11 dc12 dc13 dc14 dc15 dc16 dc17 dc18 dc19 dc20 dc21 dc22 dc23 dc24 dc25 dc26
      simp only [Mono.putAll, Nat.reduceAdd, dc0, dc1, dc2, dc3, dc4, dc5, dc6, dc7, dc8, dc9, dc10, dc11, dc12, dc13, dc14, dc15, dc16, dc17, dc18, dc19, dc20, dc21, dc22, dc23, dc24, dc25, dc26, Act.put, List.setIfInBounds_toArray, List.set_cons_zero, List.set_cons_succ]
      clear dc0 dc1 dc2 dc3 dc4 dc5 dc6 dc7 dc8 dc9 dc10 dc11 dc12 dc13 dc14 dc15 dc16 dc17 dc18 dc19 dc20 dc21 dc22 dc23 dc24 dc25 dc26
      have HB3 := Lib.hid (HBX.out.trans (hR.mono hzx))
      clear hR
      go_wp2_with (fail)
      go_roundw
      case rel => exact ⟨j + 1, rfl, by omega, HB3, Lib.hid (fun k hk => by
        by_cases e : k = j
        · subst e; exact HTJ.out
        · exact HAL.out k (by omega))⟩
      case measure => simp [intOf] <;> omega
    | true =>
    cases be with
    | false =>
      have HTJ : Hid (nxJ cv o i j = false) := Lib.hid (by rw [HTE.out]; simp)
      refine Mono.region_below (by kernel_rfl) (by kernel_rfl) (by kernel_rfl) ?_
      refine Mono.rgl_val (v := ?vd0) rfl Mono.rr (fun ρ a W hR hd hf => ?hd0) ?_
      case hd0 =>
        have e5 := Mono.init_get hf (t := 5) (by kernel_rfl)
        clear hd hf
        (go_simp; try with_reducible rfl)
      refine Mono.rgl_val (v := ?vd1) rfl Mono.rr (fun ρ a W hR hd hf => ?hd1) ?_
      case hd1 =>
        have e1 := Mono.init_get hf (t := 1) (by kernel_rfl)
        clear hd hf
        (go_simp; try with_reducible rfl)
      refine Mono.rgl_val (v := ?vd2) rfl Mono.rr (fun ρ a W hR hd hf => ?hd2) ?_
      case hd2 =>
        have e34 := Mono.dep_val hd hf (t := 34) (k := 0) (by kernel_rfl) rfl
        have e35 := Mono.dep_val hd hf (t := 35) (k := 1) (by kernel_rfl) rfl
        clear hd hf
        (go_simp; try with_reducible rfl)
      refine Mono.rgl_val (v := ?vd3) rfl Mono.rr (fun ρ a W hR hd hf => ?hd3) ?_
      case hd3 =>
        have e36 := Mono.dep_val hd hf (t := 36) (k := 2) (by kernel_rfl) rfl
        clear hd hf
        (go_simp; try with_reducible rfl)
      refine Mono.rgl_valg (v := ?vd4) rfl Mono.rr (fun ρ W hd => Mono.guard_val hd (t := 37) (k := 3) (by kernel_rfl) rfl) (fun ρ a W hR hd hf => ?hd4) ?_
      case hd4 =>
        have e0 := Mono.init_get hf (t := 0) (by kernel_rfl)
        clear hd hf
        (go_simp; try with_reducible rfl)
      refine Mono.rgl_valg (v := ?vd5) rfl Mono.rr (fun ρ W hd => Mono.guard_val hd (t := 37) (k := 3) (by kernel_rfl) rfl) (fun ρ a W hR hd hf => ?hd5) ?_
      case hd5 =>
        have e5 := Mono.init_get hf (t := 5) (by kernel_rfl)
        clear hd hf
        (go_simp; try with_reducible rfl)
      refine Mono.rgl_valg (v := ?vd6) rfl Mono.rr (fun ρ W hd => Mono.guard_val hd (t := 37) (k := 3) (by kernel_rfl) rfl) (fun ρ a W hR hd hf => ?hd6) ?_
      case hd6 =>
        have e38 := Mono.dep_val hd hf (t := 38) (k := 4) (by kernel_rfl) rfl
        clear hd hf
        (go_simp; try with_reducible rfl)
      refine Mono.rgl_valg (v := ?vd7) rfl Mono.rr (fun ρ W hd => Mono.guard_val hd (t := 37) (k := 3) (by kernel_rfl) rfl) (fun ρ a W hR hd hf => ?hd7) ?_
      case hd7 =>
        have e40 := Mono.dep_val hd hf (t := 40) (k := 6) (by kernel_rfl) rfl
        clear hd hf
        (go_simp; try with_reducible rfl)
      refine Mono.rgl_valg (v := ?vd8) rfl Mono.rr (fun ρ W hd => Mono.guard_val hd (t := 37) (k := 3) (by kernel_rfl) rfl) (fun ρ a W hR hd hf => ?hd8) ?_
      case hd8 =>
        have e41 := Mono.dep_val hd hf (t := 41) (k := 7) (by kernel_rfl) rfl
        have e39 := Mono.dep_val hd hf (t := 39) (k := 5) (by kernel_rfl) rfl
        clear hd hf
        (go_simp; try with_reducible rfl)
      refine Mono.rgl_valg (v := ?vd9) rfl Mono.rr (fun ρ W hd => Mono.guard_val hd (t := 37) (k := 3) (by kernel_rfl) rfl) (fun ρ a W hR hd hf => ?hd9) ?_
      case hd9 =>
        have e42 := Mono.dep_val hd hf (t := 42) (k := 8) (by kernel_rfl) rfl
        have hk := HKJ.out W (HBX.out.trans (hR.mono hzx))
        clear hd hf
        (go_simp; try with_reducible rfl)
      refine Mono.rgl_valg (v := ?vd10) rfl Mono.rr (fun ρ W hd => Mono.guard_val hd (t := 37) (k := 3) (by kernel_rfl) rfl) (fun ρ a W hR hd hf => ?hd10) ?_
      case hd10 =>
        have e43 := Mono.dep_val hd hf (t := 43) (k := 9) (by kernel_rfl) rfl
        clear hd hf
        (go_simp; try with_reducible rfl)
      refine Mono.rgl_val (v := ?vd11) rfl Mono.rr (fun ρ a W hR hd hf => ?hd11) ?_
      case hd11 =>
        have e37 := Mono.dep_val hd hf (t := 37) (k := 3) (by kernel_rfl) rfl
        have e44 := Mono.dep_val hd hf (t := 44) (k := 10) (by kernel_rfl) rfl
        clear hd hf
        (go_simp; try with_reducible rfl)
      refine Mono.rgl_val (v := ?vd12) rfl Mono.rr (fun ρ a W hR hd hf => ?hd12) ?_
      case hd12 =>
        have e45 := Mono.dep_val hd hf (t := 45) (k := 11) (by kernel_rfl) rfl
        clear hd hf
        (go_simp; try with_reducible rfl)
      refine Mono.rgl_valg (v := (cv j).agg) rfl Mono.rr (fun ρ W hd => Mono.guard_val hd (t := 46) (k := 12) (by kernel_rfl) rfl) (fun ρ a W hR hd hf => ?hd13) ?_
      case hd13 =>
        have e6 := Mono.init_get hf (t := 6) (by kernel_rfl)
        obtain ⟨c0, c1, c2, c3, c4, c5⟩ := FB.out W hR
        clear hd hf
        (go_simp; rfl)
      refine Mono.rgl_callg (fun x _ => x = .bool true) rfl Mono.rr (fun _ _ _ h _ => h) (fun ρ W hd => Mono.guard_val hd (t := 46) (k := 12) (by kernel_rfl) rfl) (fun ρ a W hR hd hf => ?hd14) ?_
      case hd14 =>
        have e47 := Mono.dep_val hd hf (t := 47) (k := 13) (by kernel_rfl) rfl
        clear hd hf
        refine ⟨_, _, by go_simp; first | rfl | exact ⟨rfl, rfl⟩, ?_⟩
        exact (HMU.out W).mono (fun e W' ⟨he, hb⟩ => ⟨_, he, hb, rfl⟩)
      refine Mono.rgl_val (v := ?vd15) rfl Mono.rr (fun ρ a W hR hd hf => ?hd15) ?_
      case hd15 =>
        have e46 := Mono.dep_val hd hf (t := 46) (k := 12) (by kernel_rfl) rfl
        have e48 := Mono.dep_val hd hf (t := 48) (k := 14) (by kernel_rfl) rfl
        clear hd hf
        (go_simp; try with_reducible rfl)
      refine Mono.rgl_val (v := ?vd16) rfl Mono.rr (fun ρ a W hR hd hf => ?hd16) ?_
      case hd16 =>
        have e49 := Mono.dep_val hd hf (t := 49) (k := 15) (by kernel_rfl) rfl
        clear hd hf
        (go_simp; try with_reducible rfl)
      refine Mono.rgl_valg (v := (cv j).agg) rfl Mono.rr (fun ρ W hd => Mono.guard_val hd (t := 50) (k := 16) (by kernel_rfl) rfl) (fun ρ a W hR hd hf => ?hd17) ?_
      case hd17 =>
        have e6 := Mono.init_get hf (t := 6) (by kernel_rfl)
        obtain ⟨c0, c1, c2, c3, c4, c5⟩ := FB.out W hR
        clear hd hf
        (go_simp; rfl)
      refine Mono.rgl_valg (v := ?vd18) rfl Mono.rr (fun ρ W hd => Mono.guard_val hd (t := 50) (k := 16) (by kernel_rfl) rfl) (fun ρ a W hR hd hf => ?hd18) ?_
      case hd18 =>
        have e0 := Mono.init_get hf (t := 0) (by kernel_rfl)
        clear hd hf
        (go_simp; try with_reducible rfl)
      refine Mono.rgl_valg (v := ?vd19) rfl Mono.rr (fun ρ W hd => Mono.guard_val hd (t := 50) (k := 16) (by kernel_rfl) rfl) (fun ρ a W hR hd hf => ?hd19) ?_
      case hd19 =>
        have e52 := Mono.dep_val hd hf (t := 52) (k := 18) (by kernel_rfl) rfl
        clear hd hf
        (go_simp; try with_reducible rfl)
      refine Mono.rgl_valg (v := ?vd20) rfl Mono.rr (fun ρ W hd => Mono.guard_val hd (t := 50) (k := 16) (by kernel_rfl) rfl) (fun ρ a W hR hd hf => ?hd20) ?_
      case hd20 =>
        have e53 := Mono.dep_val hd hf (t := 53) (k := 19) (by kernel_rfl) rfl
        clear hd hf
        (go_simp; try with_reducible rfl)
      refine Mono.rgl_valg (v := ?vd21) rfl Mono.rr (fun ρ W hd => Mono.guard_val hd (t := 50) (k := 16) (by kernel_rfl) rfl) (fun ρ a W hR hd hf => ?hd21) ?_
      case hd21 =>
        have e54 := Mono.dep_val hd hf (t := 54) (k := 20) (by kernel_rfl) rfl
        have hk := (HK.out W (HBX.out.trans (hR.mono hzx))).1
        clear hd hf
        (go_simp; try with_reducible rfl)
      refine Mono.rgl_valg (v := ?vd22) rfl Mono.rr (fun ρ W hd => Mono.guard_val hd (t := 50) (k := 16) (by kernel_rfl) rfl) (fun ρ a W hR hd hf => ?hd22) ?_
      case hd22 =>
        have e1 := Mono.init_get hf (t := 1) (by kernel_rfl)
        clear hd hf
        (go_simp; try with_reducible rfl)
      refine Mono.rgl_valg (v := ?vd23) rfl Mono.rr (fun ρ W hd => Mono.guard_val hd (t := 50) (k := 16) (by kernel_rfl) rfl) (fun ρ a W hR hd hf => ?hd23) ?_
      case hd23 =>
        have e55 := Mono.dep_val hd hf (t := 55) (k := 21) (by kernel_rfl) rfl
        have e56 := Mono.dep_val hd hf (t := 56) (k := 22) (by kernel_rfl) rfl
        clear hd hf
        (go_simp; try with_reducible rfl)
      refine Mono.rgl_valg (v := (cv i).agg) rfl Mono.rr (fun ρ W hd => Mono.guard_val hd (t := 50) (k := 16) (by kernel_rfl) rfl) (fun ρ a W hR hd hf => ?hd24) ?_
      case hd24 =>
        have e57 := Mono.dep_val hd hf (t := 57) (k := 23) (by kernel_rfl) rfl
        obtain ⟨c0, c1, c2, c3, c4, c5⟩ := HI.out W (HBX.out.trans (hR.mono hzx))
        clear hd hf
        (go_simp; rfl)
      refine Mono.rgl_callg (fun x _ => x = .bool false) rfl Mono.rr (fun _ _ _ h _ => h) (fun ρ W hd => Mono.guard_val hd (t := 50) (k := 16) (by kernel_rfl) rfl) (fun ρ a W hR hd hf => ?hd25) ?_
      case hd25 =>
        have e51 := Mono.dep_val hd hf (t := 51) (k := 17) (by kernel_rfl) rfl
        have e58 := Mono.dep_val hd hf (t := 58) (k := 24) (by kernel_rfl) rfl
        clear hd hf
        refine ⟨_, _, by go_simp; first | rfl | exact ⟨rfl, rfl⟩, ?_⟩
        exact (HBE.out W).mono (fun e W' ⟨he, hb⟩ => ⟨_, he, hb, rfl⟩)
      refine Mono.rgl_val (v := ?vd26) rfl Mono.rr (fun ρ a W hR hd hf => ?hd26) ?_
      case hd26 =>
        have e50 := Mono.dep_val hd hf (t := 50) (k := 16) (by kernel_rfl) rfl
        have e59 := Mono.dep_val hd hf (t := 59) (k := 25) (by kernel_rfl) rfl
        clear hd hf
        (go_simp; try with_reducible rfl)
      refine Mono.rgl_done rfl (fun ρ W hR ht => ?_)
      obtain ⟨dd26, dd25, dd24, dd23, dd22, dd21, dd20, dd19, dd18, dd17, dd16, dd15, dd14, dd13, dd12, dd11, dd10, dd9, dd8, dd7, dd6, dd5, dd4, dd3, dd2, dd1, dd0, _⟩ := ht
      simp only [List.length_cons, List.length_nil, Nat.reduceAdd] at dd0 dd1 dd2 dd3 dd4 dd5 dd6 dd7 dd8 dd9 dd10 dd11 dd12 dd13 dd14 dd15 dd16 dd17 dd18 dd19 dd20 dd21 dd22 dd23 dd24 dd25 dd26
      simp only [Mono.putAll, Nat.reduceAdd, dd0, dd1, dd2, dd3, dd4, dd5, dd6, dd7, dd8, dd9, dd10, dd11, dd12, dd13, dd14, dd15, dd16, dd17, dd18, dd19, dd20, dd21, dd22, dd23, dd24, dd25, dd26, Act.put, List.setIfInBounds_toArray, List.set_cons_zero, List.set_cons_succ]
      clear dd0 dd1 dd2 dd3 dd4 dd5 dd6 dd7 dd8 dd9 dd10 dd11 dd12 dd13 dd14 dd15 dd16 dd17 dd18 dd19 dd20 dd21 dd22 dd23 dd24 dd25 dd26
      have HB3 := Lib.hid (HBX.out.trans (hR.mono hzx))
      clear hR
      go_wp2_with (fail)
      go_roundw
      case rel => exact ⟨j + 1, rfl, by omega, HB3, Lib.hid (fun k hk => by
        by_cases e : k = j
        · subst e; exact HTJ.out
        · exact HAL.out k (by omega))⟩
      case measure => simp [intOf] <;> omega
    | true =>
      have HNX : Hid (nxB n cv o i = false) := Lib.hid (nxB_no hlt (by rw [HTE.out]; simp; omega))
      refine Mono.region_below (by kernel_rfl) (by kernel_rfl) (by kernel_rfl) ?_
      refine Mono.rgl_val (v := ?ve0) rfl Mono.rr (fun ρ a W hR hd hf => ?he0) ?_
      case he0 =>
        have e5 := Mono.init_get hf (t := 5) (by kernel_rfl)
        clear hd hf
        (go_simp; try with_reducible rfl)
      refine Mono.rgl_val (v := ?ve1) rfl Mono.rr (fun ρ a W hR hd hf => ?he1) ?_
      case he1 =>
        have e1 := Mono.init_get hf (t := 1) (by kernel_rfl)
        clear hd hf
        (go_simp; try with_reducible rfl)
      refine Mono.rgl_val (v := ?ve2) rfl Mono.rr (fun ρ a W hR hd hf => ?he2) ?_
      case he2 =>
        have e34 := Mono.dep_val hd hf (t := 34) (k := 0) (by kernel_rfl) rfl
        have e35 := Mono.dep_val hd hf (t := 35) (k := 1) (by kernel_rfl) rfl
        clear hd hf
        (go_simp; try with_reducible rfl)
      refine Mono.rgl_val (v := ?ve3) rfl Mono.rr (fun ρ a W hR hd hf => ?he3) ?_
      case he3 =>
        have e36 := Mono.dep_val hd hf (t := 36) (k := 2) (by kernel_rfl) rfl
        clear hd hf
        (go_simp; try with_reducible rfl)
      refine Mono.rgl_valg (v := ?ve4) rfl Mono.rr (fun ρ W hd => Mono.guard_val hd (t := 37) (k := 3) (by kernel_rfl) rfl) (fun ρ a W hR hd hf => ?he4) ?_
      case he4 =>
        have e0 := Mono.init_get hf (t := 0) (by kernel_rfl)
        clear hd hf
        (go_simp; try with_reducible rfl)
      refine Mono.rgl_valg (v := ?ve5) rfl Mono.rr (fun ρ W hd => Mono.guard_val hd (t := 37) (k := 3) (by kernel_rfl) rfl) (fun ρ a W hR hd hf => ?he5) ?_
      case he5 =>
        have e5 := Mono.init_get hf (t := 5) (by kernel_rfl)
        clear hd hf
        (go_simp; try with_reducible rfl)
      refine Mono.rgl_valg (v := ?ve6) rfl Mono.rr (fun ρ W hd => Mono.guard_val hd (t := 37) (k := 3) (by kernel_rfl) rfl) (fun ρ a W hR hd hf => ?he6) ?_
      case he6 =>
        have e38 := Mono.dep_val hd hf (t := 38) (k := 4) (by kernel_rfl) rfl
        clear hd hf
        (go_simp; try with_reducible rfl)
      refine Mono.rgl_valg (v := ?ve7) rfl Mono.rr (fun ρ W hd => Mono.guard_val hd (t := 37) (k := 3) (by kernel_rfl) rfl) (fun ρ a W hR hd hf => ?he7) ?_
      case he7 =>
        have e40 := Mono.dep_val hd hf (t := 40) (k := 6) (by kernel_rfl) rfl
        clear hd hf
        (go_simp; try with_reducible rfl)
      refine Mono.rgl_valg (v := ?ve8) rfl Mono.rr (fun ρ W hd => Mono.guard_val hd (t := 37) (k := 3) (by kernel_rfl) rfl) (fun ρ a W hR hd hf => ?he8) ?_
      case he8 =>
        have e41 := Mono.dep_val hd hf (t := 41) (k := 7) (by kernel_rfl) rfl
        have e39 := Mono.dep_val hd hf (t := 39) (k := 5) (by kernel_rfl) rfl
        clear hd hf
        (go_simp; try with_reducible rfl)
      refine Mono.rgl_valg (v := ?ve9) rfl Mono.rr (fun ρ W hd => Mono.guard_val hd (t := 37) (k := 3) (by kernel_rfl) rfl) (fun ρ a W hR hd hf => ?he9) ?_
      case he9 =>
        have e42 := Mono.dep_val hd hf (t := 42) (k := 8) (by kernel_rfl) rfl
        have hk := HKJ.out W (HBX.out.trans (hR.mono hzx))
        clear hd hf
        (go_simp; try with_reducible rfl)
      refine Mono.rgl_valg (v := ?ve10) rfl Mono.rr (fun ρ W hd => Mono.guard_val hd (t := 37) (k := 3) (by kernel_rfl) rfl) (fun ρ a W hR hd hf => ?he10) ?_
      case he10 =>
        have e43 := Mono.dep_val hd hf (t := 43) (k := 9) (by kernel_rfl) rfl
        clear hd hf
        (go_simp; try with_reducible rfl)
      refine Mono.rgl_val (v := ?ve11) rfl Mono.rr (fun ρ a W hR hd hf => ?he11) ?_
      case he11 =>
        have e37 := Mono.dep_val hd hf (t := 37) (k := 3) (by kernel_rfl) rfl
        have e44 := Mono.dep_val hd hf (t := 44) (k := 10) (by kernel_rfl) rfl
        clear hd hf
        (go_simp; try with_reducible rfl)
      refine Mono.rgl_val (v := ?ve12) rfl Mono.rr (fun ρ a W hR hd hf => ?he12) ?_
      case he12 =>
        have e45 := Mono.dep_val hd hf (t := 45) (k := 11) (by kernel_rfl) rfl
        clear hd hf
        (go_simp; try with_reducible rfl)
      refine Mono.rgl_valg (v := (cv j).agg) rfl Mono.rr (fun ρ W hd => Mono.guard_val hd (t := 46) (k := 12) (by kernel_rfl) rfl) (fun ρ a W hR hd hf => ?he13) ?_
      case he13 =>
        have e6 := Mono.init_get hf (t := 6) (by kernel_rfl)
        obtain ⟨c0, c1, c2, c3, c4, c5⟩ := FB.out W hR
        clear hd hf
        (go_simp; rfl)
      refine Mono.rgl_callg (fun x _ => x = .bool true) rfl Mono.rr (fun _ _ _ h _ => h) (fun ρ W hd => Mono.guard_val hd (t := 46) (k := 12) (by kernel_rfl) rfl) (fun ρ a W hR hd hf => ?he14) ?_
      case he14 =>
        have e47 := Mono.dep_val hd hf (t := 47) (k := 13) (by kernel_rfl) rfl
        clear hd hf
        refine ⟨_, _, by go_simp; first | rfl | exact ⟨rfl, rfl⟩, ?_⟩
        exact (HMU.out W).mono (fun e W' ⟨he, hb⟩ => ⟨_, he, hb, rfl⟩)
      refine Mono.rgl_val (v := ?ve15) rfl Mono.rr (fun ρ a W hR hd hf => ?he15) ?_
      case he15 =>
        have e46 := Mono.dep_val hd hf (t := 46) (k := 12) (by kernel_rfl) rfl
        have e48 := Mono.dep_val hd hf (t := 48) (k := 14) (by kernel_rfl) rfl
        clear hd hf
        (go_simp; try with_reducible rfl)
      refine Mono.rgl_val (v := ?ve16) rfl Mono.rr (fun ρ a W hR hd hf => ?he16) ?_
      case he16 =>
        have e49 := Mono.dep_val hd hf (t := 49) (k := 15) (by kernel_rfl) rfl
        clear hd hf
        (go_simp; try with_reducible rfl)
      refine Mono.rgl_valg (v := (cv j).agg) rfl Mono.rr (fun ρ W hd => Mono.guard_val hd (t := 50) (k := 16) (by kernel_rfl) rfl) (fun ρ a W hR hd hf => ?he17) ?_
      case he17 =>
        have e6 := Mono.init_get hf (t := 6) (by kernel_rfl)
        obtain ⟨c0, c1, c2, c3, c4, c5⟩ := FB.out W hR
        clear hd hf
        (go_simp; rfl)
      refine Mono.rgl_valg (v := ?ve18) rfl Mono.rr (fun ρ W hd => Mono.guard_val hd (t := 50) (k := 16) (by kernel_rfl) rfl) (fun ρ a W hR hd hf => ?he18) ?_
      case he18 =>
        have e0 := Mono.init_get hf (t := 0) (by kernel_rfl)
        clear hd hf
        (go_simp; try with_reducible rfl)
      refine Mono.rgl_valg (v := ?ve19) rfl Mono.rr (fun ρ W hd => Mono.guard_val hd (t := 50) (k := 16) (by kernel_rfl) rfl) (fun ρ a W hR hd hf => ?he19) ?_
      case he19 =>
        have e52 := Mono.dep_val hd hf (t := 52) (k := 18) (by kernel_rfl) rfl
        clear hd hf
        (go_simp; try with_reducible rfl)
      refine Mono.rgl_valg (v := ?ve20) rfl Mono.rr (fun ρ W hd => Mono.guard_val hd (t := 50) (k := 16) (by kernel_rfl) rfl) (fun ρ a W hR hd hf => ?he20) ?_
      case he20 =>
        have e53 := Mono.dep_val hd hf (t := 53) (k := 19) (by kernel_rfl) rfl
        clear hd hf
        (go_simp; try with_reducible rfl)
      refine Mono.rgl_valg (v := ?ve21) rfl Mono.rr (fun ρ W hd => Mono.guard_val hd (t := 50) (k := 16) (by kernel_rfl) rfl) (fun ρ a W hR hd hf => ?he21) ?_
      case he21 =>
        have e54 := Mono.dep_val hd hf (t := 54) (k := 20) (by kernel_rfl) rfl
        have hk := (HK.out W (HBX.out.trans (hR.mono hzx))).1
        clear hd hf
        (go_simp; try with_reducible rfl)
      refine Mono.rgl_valg (v := ?ve22) rfl Mono.rr (fun ρ W hd => Mono.guard_val hd (t := 50) (k := 16) (by kernel_rfl) rfl) (fun ρ a W hR hd hf => ?he22) ?_
      case he22 =>
        have e1 := Mono.init_get hf (t := 1) (by kernel_rfl)
        clear hd hf
        (go_simp; try with_reducible rfl)
      refine Mono.rgl_valg (v := ?ve23) rfl Mono.rr (fun ρ W hd => Mono.guard_val hd (t := 50) (k := 16) (by kernel_rfl) rfl) (fun ρ a W hR hd hf => ?he23) ?_
      case he23 =>
        have e55 := Mono.dep_val hd hf (t := 55) (k := 21) (by kernel_rfl) rfl
        have e56 := Mono.dep_val hd hf (t := 56) (k := 22) (by kernel_rfl) rfl
        clear hd hf
        (go_simp; try with_reducible rfl)
      refine Mono.rgl_valg (v := (cv i).agg) rfl Mono.rr (fun ρ W hd => Mono.guard_val hd (t := 50) (k := 16) (by kernel_rfl) rfl) (fun ρ a W hR hd hf => ?he24) ?_
      case he24 =>
        have e57 := Mono.dep_val hd hf (t := 57) (k := 23) (by kernel_rfl) rfl
        obtain ⟨c0, c1, c2, c3, c4, c5⟩ := HI.out W (HBX.out.trans (hR.mono hzx))
        clear hd hf
        (go_simp; rfl)
      refine Mono.rgl_callg (fun x _ => x = .bool true) rfl Mono.rr (fun _ _ _ h _ => h) (fun ρ W hd => Mono.guard_val hd (t := 50) (k := 16) (by kernel_rfl) rfl) (fun ρ a W hR hd hf => ?he25) ?_
      case he25 =>
        have e51 := Mono.dep_val hd hf (t := 51) (k := 17) (by kernel_rfl) rfl
        have e58 := Mono.dep_val hd hf (t := 58) (k := 24) (by kernel_rfl) rfl
        clear hd hf
        refine ⟨_, _, by go_simp; first | rfl | exact ⟨rfl, rfl⟩, ?_⟩
        exact (HBE.out W).mono (fun e W' ⟨he, hb⟩ => ⟨_, he, hb, rfl⟩)
      refine Mono.rgl_val (v := ?ve26) rfl Mono.rr (fun ρ a W hR hd hf => ?he26) ?_
      case he26 =>
        have e50 := Mono.dep_val hd hf (t := 50) (k := 16) (by kernel_rfl) rfl
        have e59 := Mono.dep_val hd hf (t := 59) (k := 25) (by kernel_rfl) rfl
        clear hd hf
        (go_simp; try with_reducible rfl)
      refine Mono.rgl_done rfl (fun ρ W hR ht => ?_)
      obtain ⟨de26, de25, de24, de23, de22, de21, de20, de19, de18, de17, de16, de15, de14, de13, de12, de11, de10, de9, de8, de7, de6, de5, de4, de3, de2, de1, de0, _⟩ := ht
      simp only [List.length_cons, List.length_nil, Nat.reduceAdd] at de0 de1 de2 de3 de4 de5 de6 de7 de8 de9 de10 de11 de12 de13 de14 de15 de16 de17 de18 de19 de20 de21 de22 de23 de24 de25 de26
      simp only [Mono.putAll, Nat.reduceAdd, de0, de1, de2, de3, de4, de5, de6, de7, de8, de9, de10, de11, de12, de13, de14, de15, de16, de17, de18, de19, de20, de21, de22, de23, de24, de25, de26, Act.put, List.setIfInBounds_toArray, List.set_cons_zero, List.set_cons_succ]
      clear de0 de1 de2 de3 de4 de5 de6 de7 de8 de9 de10 de11 de12 de13 de14 de15 de16 de17 de18 de19 de20 de21 de22 de23 de24 de25 de26
      have HB3 := Lib.hid (HBX.out.trans (hR.mono hzx))
      clear hR
      go_wp2_with (fail)
      go_ret
      exact ⟨by rw [HNX.out]; rfl, HB3.out⟩
end Go.Proofs.YtmcbgjkogggneaaDoor
