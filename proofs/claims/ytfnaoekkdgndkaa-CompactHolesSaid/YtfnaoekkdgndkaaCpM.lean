/- The document's spans, joined, and their bytes. -/
import Derived.Test.YtfnaoekkdgndkaaCpL
namespace Go.Proofs.Ytfnaoekkdgndkaa
set_option maxRecDepth 100000
set_option linter.unusedVariables false
set_option linter.unusedSimpArgs false
open Go.RowKit
set_option maxHeartbeats 8000000 in
theorem refs_any (l : List Sp) (v : Value) (B : Nat) (w : World) (h : Sl w B 2 v l.length (lc spC l)) (hB : B ≤ w.heap.size) (hn : l.length ≤ 100000) :
    Calls Try.prog 16 #[v] w fun e w' => ∃ v', e = .returned v' ∧ Row w.heap.size 34 2 w' v' l.length (lc spC l) ∧ Below w.heap.size w w' := by
  obtain ⟨a, cap, rfl, hcap⟩ := h.form
  have HS := Lib.hid (fun (W : World) (hW : Below w.heap.size w W) => h.below (hW.mono hB))
  obtain ⟨n, hn0⟩ : ∃ z, l.length = z := ⟨_, rfl⟩
  rw [hn0] at HS hcap hn ⊢
  have HN0 := Lib.hid hn0
  clear h hn0
  go_enter Try.func16, Try.ntmps16
  go_wp2_with (fail)
  go_loopw [3, 4] (fun x i wr => ∃ (j : Nat), i = .int .i64 j ∧ j ≤ n ∧ Hid (Row w.heap.size 34 2 wr x j (lc spC (l.take j))) ∧ Hid (Below w.heap.size w wr)) (fun _ i _ => n - (intOf i).toNat)
  case atStart => exact ⟨0, rfl, Nat.zero_le _, Lib.hid Row.nil, Lib.hid (Below.refl _ _)⟩
  case round =>
    obtain ⟨j, rfl, hj, HR, HB⟩ := hrel
    obtain ⟨wo, rfl⟩ : ∃ z : World, z = wr := ⟨_, rfl⟩
    obtain ⟨xa, xc, rfl, _⟩ := HR.out.form
    by_cases hlt : j < n
    rotate_left
    · have d1 : decide (j < n) = false := decide_eq_false hlt
      have d2 : decide ((j : Int) < (n : Int)) = false := decide_eq_false (by omega)
      obtain rfl : j = n := by omega
      go_wp2_with (fail)
      go_ret
      refine ⟨_, rfl, ?_, HB.out⟩
      have := HR.out
      rwa [List.take_of_length_le (by rw [HN0.out]; exact Nat.le_refl _)] at this
    have d1 : decide (j < n) = true := decide_eq_true hlt
    have d2 : decide ((j : Int) < (n : Int)) = true := decide_eq_true (by omega)
    have q1 : IntKind.i64.wrap ((j : Int) + 1) = (j : Int) + 1 := IntWalk.i64_in _ (by omega)
    have hbi : (j : Int) < (n : Int) := by omega
    obtain ⟨b, off, rfl, _⟩ := sl_cells (HS.out wo HB.out) (by omega)
    obtain ⟨x, hx⟩ : ∃ x, l[j]? = some x := ⟨_, List.getElem?_eq_getElem (by rw [HN0.out]; exact hlt)⟩
    obtain ⟨k0, k1⟩ := sp_cells (HS.out wo HB.out) HN0.out.symm hx
    have htk : l.take (j + 1) = l.take j ++ [x] := by rw [List.take_add_one, hx]; rfl
    obtain ⟨x1, x2⟩ := x
    simp only at k0 k1
    have HTK := Lib.hid htk
    have HX : Hid (Below wo.heap.size wo (wo.drew.alloc (.cells #[.int .i64 (x1 : Nat), .int .i64 (x2 : Nat)] 34))) := Lib.hid (Below.alloc ((Below.refl _ wo).drew) (Nat.le_refl _) _)
    have HRX := Lib.hid (HR.out.below HX.out)
    have HZX : Hid (w.heap.size ≤ (wo.drew.alloc (.cells #[.int .i64 (x1 : Nat), .int .i64 (x2 : Nat)] 34)).heap.size) := Lib.hid (by have := HX.out.size; have := HB.out.size; omega)
    clear htk hx
    go_upto_region 5 with (fail)
    go_region_law (first
      | (refine step_append_row Try.underlying39 info_rs rfl (by decide) rfl (.tmp 11) (.tmp 23) rfl rfl HRX.out rfl (Sl.new wo.drew 2 1 [.int .i64 (x1 : Nat), .int .i64 (x2 : Nat)] 34 rfl) (by intro u hu; simp at hu; rcases hu with rfl | rfl <;> rfl) (by omega) (by omega) HZX.out ?_
         intro v24 w24 hr24 hb24 hg24
         have HR24 := Lib.hid hr24
         have HB24 : Hid (Below w.heap.size (wo.drew.alloc (.cells #[.int .i64 (x1 : Nat), .int .i64 (x2 : Nat)] 34)) w24) := Lib.hid hb24
         clear hr24 hb24 hg24))
    all_goals
      have HR2 : Hid (Row w.heap.size 34 2 w24 v24 (j + 1) (lc spC (l.take (j + 1)))) := Lib.hid (by rw [HTK.out, lc_app, lc_one]; exact HR24.out)
      have HB2 := Lib.hid ((HB.out.trans (HX.out.mono HB.out.size)).trans HB24.out)
      clear k0 k1 HX HRX HZX HB24 HR24
      go_wp2_with (fail)
      go_roundw
      case rel => exact ⟨j + 1, rfl, hlt, HR2, HB2⟩
      case measure => simp [intOf] <;> omega
set_option maxHeartbeats 8000000 in
theorem rjoin_any (l : List Sp) (v : Value) (B : Nat) (w : World) (h : Sl w B 2 v l.length (lc spC l)) (hB : B ≤ w.heap.size) (hn : l.length ≤ 100000) (hbd : BdS l) :
    Calls Try.prog 13 #[v] w fun e w' => ∃ v', e = .returned v' ∧ Row w.heap.size 34 2 w' v' (joinL l).length (lc spC (joinL l)) ∧ Below w.heap.size w w' := by
  obtain ⟨a, cap, rfl, hcap⟩ := h.form
  have HS := Lib.hid (fun (W : World) (hW : Below w.heap.size w W) => h.below (hW.mono hB))
  have HBD := Lib.hid hbd
  obtain ⟨n, hn0⟩ : ∃ z, l.length = z := ⟨_, rfl⟩
  rw [hn0] at HS hcap hn ⊢
  have HN0 := Lib.hid hn0
  clear h hbd hn0
  go_enter Try.func13, Try.ntmps13
  go_wp2_with (fail)
  go_loopw [3, 4] (fun x i wr => ∃ (j : Nat), i = .int .i64 j ∧ j ≤ n ∧ Hid (Row w.heap.size 34 2 wr x (joinL (l.take j)).length (lc spC (joinL (l.take j)))) ∧ Hid (Below w.heap.size w wr)) (fun _ i _ => n - (intOf i).toNat)
  case atStart => exact ⟨0, rfl, Nat.zero_le _, Lib.hid Row.nil, Lib.hid (Below.refl _ _)⟩
  case round =>
    obtain ⟨j, rfl, hj, HR, HB⟩ := hrel
    obtain ⟨wo, rfl⟩ : ∃ z : World, z = wr := ⟨_, rfl⟩
    obtain ⟨xa, xc, rfl, _⟩ := HR.out.form
    by_cases hlt : j < n
    rotate_left
    · have d1 : decide (j < n) = false := decide_eq_false hlt
      have d2 : decide ((j : Int) < (n : Int)) = false := decide_eq_false (by omega)
      obtain rfl : j = n := by omega
      go_wp2_with (fail)
      go_ret
      refine ⟨_, rfl, ?_, HB.out⟩
      have := HR.out
      have e : l.take j = l := List.take_of_length_le (by rw [HN0.out]; exact Nat.le_refl _)
      rw [e] at this
      rw [e]
      exact this
    have d1 : decide (j < n) = true := decide_eq_true hlt
    have d2 : decide ((j : Int) < (n : Int)) = true := decide_eq_true (by omega)
    have q1 : IntKind.i64.wrap ((j : Int) + 1) = (j : Int) + 1 := IntWalk.i64_in _ (by omega)
    have hbi : (j : Int) < (n : Int) := by omega
    obtain ⟨b, off, rfl, _⟩ := sl_cells (HS.out wo HB.out) (by omega)
    obtain ⟨x, hx⟩ : ∃ x, l[j]? = some x := ⟨_, List.getElem?_eq_getElem (by rw [HN0.out]; exact hlt)⟩
    have kx := fun (W : World) (hW : Below w.heap.size w W) => sp_cells (HS.out W hW) HN0.out.symm hx
    have hxb := HBD.out x (List.mem_of_getElem? hx)
    have hjs : joinL (l.take (j + 1)) = app (joinL (l.take j)) x := by rw [List.take_add_one, hx]; exact joinL_snoc _ _
    have hlj : (joinL (l.take j)).length ≤ 100000 := by
      have h1 := join_len (l.take j)
      rw [List.length_take] at h1
      omega
    have hbj : BdS (joinL (l.take j)) := BdS.join fun s hs => HBD.out s (List.mem_of_mem_take hs)
    obtain ⟨x1, x2⟩ := x
    simp only at kx hxb
    have KX := Lib.hid kx
    obtain ⟨k0, k1⟩ := kx wo HB.out
    have HJS := Lib.hid hjs
    clear kx hx hjs
    by_cases h0 : x2 = 0
    · have d3 : decide (x2 < 1) = true := decide_eq_true (by omega)
      have d4 : decide ((x2 : Int) < 1) = true := decide_eq_true (by omega)
      have HJ2 : Hid (Row w.heap.size 34 2 wo (.slice xa (joinL (l.take j)).length xc) (joinL (l.take (j + 1))).length (lc spC (joinL (l.take (j + 1))))) := Lib.hid (by rw [HJS.out, app_zero h0]; exact HR.out)
      clear h0
      go_wp2_with (fail)
      go_roundw
      case rel => exact ⟨j + 1, rfl, hlt, HJ2, HB⟩
      case measure => simp [intOf] <;> omega
    have d3 : decide (x2 < 1) = false := decide_eq_false (by omega)
    have d4 : decide ((x2 : Int) < 1) = false := decide_eq_false (by omega)
    have H0 : Hid (x2 ≠ 0) := Lib.hid h0
    clear h0
    generalize joinL (l.take j) = J at *
    rcases snoc_cases J with rfl | ⟨i, y, rfl⟩
    · as_aux_lemma =>
      have d5 : decide ((0 : Int) < ((0 : Nat) : Int)) = false := by simp
      go_upto_region 7 with (fail)
      refine Mono.region_below (by kernel_rfl) (by kernel_rfl) (by kernel_rfl) ?_
      refine Mono.rgl_val (v := ?vn0) rfl Mono.rr (fun ρ a W hR hd hf => ?hn0) ?_
      case hn0 =>
        have e5 := Mono.init_get hf (t := 5) (by kernel_rfl)
        clear hd hf
        (go_simp; try with_reducible rfl)
      refine Mono.rgl_val (v := ?vn1) rfl Mono.rr (fun ρ a W hR hd hf => ?hn1) ?_
      case hn1 =>
        have e20 := Mono.dep_val hd hf (t := 20) (k := 0) (by kernel_rfl) rfl
        clear hd hf
        (go_simp; try with_reducible rfl)
      refine Mono.rgl_val (v := ?vn2) rfl Mono.rr (fun ρ a W hR hd hf => ?hn2) ?_
      case hn2 =>
        have e21 := Mono.dep_val hd hf (t := 21) (k := 1) (by kernel_rfl) rfl
        clear hd hf
        (go_simp; try with_reducible rfl)
      refine Mono.rgl_skip rfl (by decide) (fun ρ W hd => Mono.guard_val hd (t := 22) (k := 2) (by kernel_rfl) rfl) ?_
      refine Mono.rgl_skip rfl (by decide) (fun ρ W hd => Mono.guard_val hd (t := 22) (k := 2) (by kernel_rfl) rfl) ?_
      refine Mono.rgl_skip rfl (by decide) (fun ρ W hd => Mono.guard_val hd (t := 22) (k := 2) (by kernel_rfl) rfl) ?_
      refine Mono.rgl_skip rfl (by decide) (fun ρ W hd => Mono.guard_val hd (t := 22) (k := 2) (by kernel_rfl) rfl) ?_
      refine Mono.rgl_skip rfl (by decide) (fun ρ W hd => Mono.guard_val hd (t := 22) (k := 2) (by kernel_rfl) rfl) ?_
      refine Mono.rgl_skip rfl (by decide) (fun ρ W hd => Mono.guard_val hd (t := 22) (k := 2) (by kernel_rfl) rfl) ?_
      refine Mono.rgl_skip rfl (by decide) (fun ρ W hd => Mono.guard_val hd (t := 22) (k := 2) (by kernel_rfl) rfl) ?_
      refine Mono.rgl_skip rfl (by decide) (fun ρ W hd => Mono.guard_val hd (t := 22) (k := 2) (by kernel_rfl) rfl) ?_
      refine Mono.rgl_skip rfl (by decide) (fun ρ W hd => Mono.guard_val hd (t := 22) (k := 2) (by kernel_rfl) rfl) ?_
      refine Mono.rgl_skip rfl (by decide) (fun ρ W hd => Mono.guard_val hd (t := 22) (k := 2) (by kernel_rfl) rfl) ?_
      refine Mono.rgl_skip rfl (by decide) (fun ρ W hd => Mono.guard_val hd (t := 22) (k := 2) (by kernel_rfl) rfl) ?_
      refine Mono.rgl_skip rfl (by decide) (fun ρ W hd => Mono.guard_val hd (t := 22) (k := 2) (by kernel_rfl) rfl) ?_
      refine Mono.rgl_skip rfl (by decide) (fun ρ W hd => Mono.guard_val hd (t := 22) (k := 2) (by kernel_rfl) rfl) ?_
      refine Mono.rgl_skip rfl (by decide) (fun ρ W hd => Mono.guard_val hd (t := 22) (k := 2) (by kernel_rfl) rfl) ?_
      refine Mono.rgl_skip rfl (by decide) (fun ρ W hd => Mono.guard_val hd (t := 22) (k := 2) (by kernel_rfl) rfl) ?_
      refine Mono.rgl_skip rfl (by decide) (fun ρ W hd => Mono.guard_val hd (t := 22) (k := 2) (by kernel_rfl) rfl) ?_
      refine Mono.rgl_skip rfl (by decide) (fun ρ W hd => Mono.guard_val hd (t := 22) (k := 2) (by kernel_rfl) rfl) ?_
      refine Mono.rgl_skip rfl (by decide) (fun ρ W hd => Mono.guard_val hd (t := 22) (k := 2) (by kernel_rfl) rfl) ?_
      refine Mono.rgl_skip rfl (by decide) (fun ρ W hd => Mono.guard_val hd (t := 22) (k := 2) (by kernel_rfl) rfl) ?_
      refine Mono.rgl_val (v := ?vn22) rfl Mono.rr (fun ρ a W hR hd hf => ?hn22) ?_
      case hn22 =>
        have e22 := Mono.dep_val hd hf (t := 22) (k := 2) (by kernel_rfl) rfl
        have e41 := Mono.dep_val hd hf (t := 41) (k := 21) (by kernel_rfl) rfl
        clear hd hf
        (go_simp; try with_reducible rfl)
      refine Mono.rgl_done rfl (fun ρ W hR ht => ?_)
      obtain ⟨dn22, dn21, dn20, dn19, dn18, dn17, dn16, dn15, dn14, dn13, dn12, dn11, dn10, dn9, dn8, dn7, dn6, dn5, dn4, dn3, dn2, dn1, dn0, _⟩ := ht
      simp only [List.length_cons, List.length_nil, Nat.reduceAdd] at dn0 dn1 dn2 dn3 dn4 dn5 dn6 dn7 dn8 dn9 dn10 dn11 dn12 dn13 dn14 dn15 dn16 dn17 dn18 dn19 dn20 dn21 dn22
      simp only [Mono.putAll, Nat.reduceAdd, dn0, dn1, dn2, dn3, dn4, dn5, dn6, dn7, dn8, dn9, dn10, dn11, dn12, dn13, dn14, dn15, dn16, dn17, dn18, dn19, dn20, dn21, dn22, Act.put, List.setIfInBounds_toArray, List.set_cons_zero, List.set_cons_succ]
      clear dn0 dn1 dn2 dn3 dn4 dn5 dn6 dn7 dn8 dn9 dn10 dn11 dn12 dn13 dn14 dn15 dn16 dn17 dn18 dn19 dn20 dn21 dn22
      have HRW := Lib.hid (HR.out.below hR)
      have HBW := Lib.hid (HB.out.trans (hR.mono HB.out.size))
      clear hR k0 k1
      obtain ⟨wx, hwx⟩ : ∃ z : World, z = W.alloc (.cells #[.int .i64 (x1 : Nat), .int .i64 (x2 : Nat)] 34) := ⟨_, rfl⟩
      have hbx : Below W.heap.size W wx := by rw [hwx]; exact (Below.refl _ _).alloc (Nat.le_refl _) _
      have HSX : Hid (Sl wx (W.heap.size + 1) 2 (.slice (some ⟨W.heap.size, 0, none⟩) 1 1) 1 [.int .i64 (x1 : Nat), .int .i64 (x2 : Nat)]) := Lib.hid (by rw [hwx]; exact Sl.new W 2 1 _ 34 rfl)
      have HON : Hid (∀ u ∈ ([.int .i64 (x1 : Nat), .int .i64 (x2 : Nat)] : List Value), u.oneCell' = true) := Lib.hid (by intro u hu; simp at hu; rcases hu with rfl | rfl <;> rfl)
      have HRX := Lib.hid (HRW.out.below hbx)
      have HBX := Lib.hid (HBW.out.trans (hbx.mono HBW.out.size))
      have HZX := Lib.hid HBX.out.size
      have HWX := Lib.hid hwx
      obtain ⟨k0, k1⟩ := KX.out W HBW.out
      clear hbx hwx
      go_wp2_with (at_builtin; rw [← HWX.out]; refine append_row (base := w.heap.size) (size := 2) (xs := []) Try.underlying39 info_rs rfl (by decide) rfl _ _ rfl rfl HRX.out rfl HSX.out HON.out ?_ ?_ ?_ ?_; omega; omega; exact HZX.out)
      intro v3 w3 hr3 hb3
      have HJ3 : Hid (Row w.heap.size 34 2 w3 v3 (joinL (l.take (j + 1))).length (lc spC (joinL (l.take (j + 1))))) := Lib.hid (by rw [HJS.out, app_nil H0.out]; exact hr3)
      have HB3 := Lib.hid (HBX.out.trans hb3)
      clear hr3 hb3 k0 k1
      go_wp2_with (fail)
      go_roundw
      case rel => exact ⟨j + 1, rfl, hlt, HJ3, HB3⟩
      case measure => simp [intOf] <;> omega
    · have hlen : (i ++ [y]).length = i.length + 1 := by simp
      have hy : (i ++ [y])[i.length]? = some y := by simp
      have hyb := hbj y (by simp)
      rcases row_form HR.out with ⟨_, hq, _⟩ | ⟨g, xc', hxv, hcap2, hgb, hgl⟩
      · simp at hq
      injection hxv with hv1 _ hv3
      subst hv1 hv3
      have hr0 := HR.out
      rw [hlen] at hr0 hcap2 hlj ⊢
      obtain ⟨m, hm0⟩ : ∃ z, i.length = z := ⟨_, rfl⟩
      rw [hm0] at hr0 hcap2 hlj hy ⊢
      have HM0 := Lib.hid hm0
      have HY := Lib.hid hy
      have HR0 := Lib.hid hr0
      have kg := fun (W : World) (hW : Below wo.heap.size wo W) => sp_row (hr0.below hW) (by simp; omega) hy
      obtain ⟨y1, y2⟩ := y
      simp only at kg hyb
      have KG := Lib.hid kg
      have d5 : decide ((0 : Int) < (m : Int) + 1) = true := decide_eq_true (by omega)
      have d6 : decide (0 < m + 1) = true := decide_eq_true (by omega)
      have q3 : IntKind.i64.wrap ((m : Int) + 1 - 1) = (m : Int) := by rw [IntWalk.i64_in _ (by omega)]; omega
      have q4 : IntKind.i64.wrap (m : Int) = (m : Int) := IntWalk.i64_in _ (by omega)
      have q5 : IntKind.i64.wrap ((y1 : Int) + (y2 : Int)) = ((y1 + y2 : Nat) : Int) := by rw [IntWalk.i64_in _ (by omega)]; omega
      have b1 : m < m + 1 := by omega
      have b2 : (m : Int) < (m : Int) + 1 := by omega
      clear hr0 kg hy hm0 hlen hbj HR k0 k1
      by_cases hje : y1 + y2 = x1
      · as_aux_lemma =>
        have dj : (((y1 + y2 : Nat) : Int) == (x1 : Int)) = true := by simp; omega
        have dj2 : ((y1 + y2) == x1) = true := by simpa using hje
        have HJ := Lib.hid hje
        clear hje
        obtain ⟨k0, k1⟩ := KX.out wo HB.out
        go_upto_region 7 with (fail)
        clear k0 k1
        refine Mono.region_below (by kernel_rfl) (by kernel_rfl) (by kernel_rfl) ?_
        refine Mono.rgl_val (v := ?vj0) rfl Mono.rr (fun ρ a W hR hd hf => ?hj0) ?_
        case hj0 =>
          have e5 := Mono.init_get hf (t := 5) (by kernel_rfl)
          clear hd hf
          (go_simp; try with_reducible rfl)
        refine Mono.rgl_val (v := ?vj1) rfl Mono.rr (fun ρ a W hR hd hf => ?hj1) ?_
        case hj1 =>
          have e20 := Mono.dep_val hd hf (t := 20) (k := 0) (by kernel_rfl) rfl
          clear hd hf
          (go_simp; try with_reducible rfl)
        refine Mono.rgl_val (v := ?vj2) rfl Mono.rr (fun ρ a W hR hd hf => ?hj2) ?_
        case hj2 =>
          have e21 := Mono.dep_val hd hf (t := 21) (k := 1) (by kernel_rfl) rfl
          clear hd hf
          (go_simp; try with_reducible rfl)
        refine Mono.rgl_valg (v := ?vj3) rfl Mono.rr (fun ρ W hd => Mono.guard_val hd (t := 22) (k := 2) (by kernel_rfl) rfl) (fun ρ a W hR hd hf => ?hj3) ?_
        case hj3 =>
          have e3 := Mono.init_get hf (t := 3) (by kernel_rfl)
          clear hd hf
          (go_simp; try with_reducible rfl)
        refine Mono.rgl_valg (v := ?vj4) rfl Mono.rr (fun ρ W hd => Mono.guard_val hd (t := 22) (k := 2) (by kernel_rfl) rfl) (fun ρ a W hR hd hf => ?hj4) ?_
        case hj4 =>
          have e5 := Mono.init_get hf (t := 5) (by kernel_rfl)
          clear hd hf
          (go_simp; try with_reducible rfl)
        refine Mono.rgl_valg (v := ?vj5) rfl Mono.rr (fun ρ W hd => Mono.guard_val hd (t := 22) (k := 2) (by kernel_rfl) rfl) (fun ρ a W hR hd hf => ?hj5) ?_
        case hj5 =>
          have e24 := Mono.dep_val hd hf (t := 24) (k := 4) (by kernel_rfl) rfl
          clear hd hf
          (go_simp; try with_reducible rfl)
        refine Mono.rgl_valg (v := ?vj6) rfl Mono.rr (fun ρ W hd => Mono.guard_val hd (t := 22) (k := 2) (by kernel_rfl) rfl) (fun ρ a W hR hd hf => ?hj6) ?_
        case hj6 =>
          have e23 := Mono.dep_val hd hf (t := 23) (k := 3) (by kernel_rfl) rfl
          have e25 := Mono.dep_val hd hf (t := 25) (k := 5) (by kernel_rfl) rfl
          clear hd hf
          (go_simp; try with_reducible rfl)
        refine Mono.rgl_valg (v := ?vj7) rfl Mono.rr (fun ρ W hd => Mono.guard_val hd (t := 22) (k := 2) (by kernel_rfl) rfl) (fun ρ a W hR hd hf => ?hj7) ?_
        case hj7 =>
          have e26 := Mono.dep_val hd hf (t := 26) (k := 6) (by kernel_rfl) rfl
          clear hd hf
          (go_simp; try with_reducible rfl)
        refine Mono.rgl_valg (v := ?vj8) rfl Mono.rr (fun ρ W hd => Mono.guard_val hd (t := 22) (k := 2) (by kernel_rfl) rfl) (fun ρ a W hR hd hf => ?hj8) ?_
        case hj8 =>
          have e27 := Mono.dep_val hd hf (t := 27) (k := 7) (by kernel_rfl) rfl
          have hk := (KG.out W hR).1
          clear hd hf
          (go_simp; try with_reducible rfl)
        refine Mono.rgl_valg (v := ?vj9) rfl Mono.rr (fun ρ W hd => Mono.guard_val hd (t := 22) (k := 2) (by kernel_rfl) rfl) (fun ρ a W hR hd hf => ?hj9) ?_
        case hj9 =>
          have e3 := Mono.init_get hf (t := 3) (by kernel_rfl)
          clear hd hf
          (go_simp; try with_reducible rfl)
        refine Mono.rgl_valg (v := ?vj10) rfl Mono.rr (fun ρ W hd => Mono.guard_val hd (t := 22) (k := 2) (by kernel_rfl) rfl) (fun ρ a W hR hd hf => ?hj10) ?_
        case hj10 =>
          have e5 := Mono.init_get hf (t := 5) (by kernel_rfl)
          clear hd hf
          (go_simp; try with_reducible rfl)
        refine Mono.rgl_valg (v := ?vj11) rfl Mono.rr (fun ρ W hd => Mono.guard_val hd (t := 22) (k := 2) (by kernel_rfl) rfl) (fun ρ a W hR hd hf => ?hj11) ?_
        case hj11 =>
          have e30 := Mono.dep_val hd hf (t := 30) (k := 10) (by kernel_rfl) rfl
          clear hd hf
          (go_simp; try with_reducible rfl)
        refine Mono.rgl_valg (v := ?vj12) rfl Mono.rr (fun ρ W hd => Mono.guard_val hd (t := 22) (k := 2) (by kernel_rfl) rfl) (fun ρ a W hR hd hf => ?hj12) ?_
        case hj12 =>
          have e29 := Mono.dep_val hd hf (t := 29) (k := 9) (by kernel_rfl) rfl
          have e31 := Mono.dep_val hd hf (t := 31) (k := 11) (by kernel_rfl) rfl
          clear hd hf
          (go_simp; try with_reducible rfl)
        refine Mono.rgl_valg (v := ?vj13) rfl Mono.rr (fun ρ W hd => Mono.guard_val hd (t := 22) (k := 2) (by kernel_rfl) rfl) (fun ρ a W hR hd hf => ?hj13) ?_
        case hj13 =>
          have e32 := Mono.dep_val hd hf (t := 32) (k := 12) (by kernel_rfl) rfl
          clear hd hf
          (go_simp; try with_reducible rfl)
        refine Mono.rgl_valg (v := ?vj14) rfl Mono.rr (fun ρ W hd => Mono.guard_val hd (t := 22) (k := 2) (by kernel_rfl) rfl) (fun ρ a W hR hd hf => ?hj14) ?_
        case hj14 =>
          have e33 := Mono.dep_val hd hf (t := 33) (k := 13) (by kernel_rfl) rfl
          have hk := (KG.out W hR).2
          clear hd hf
          (go_simp; try with_reducible rfl)
        refine Mono.rgl_valg (v := ?vj15) rfl Mono.rr (fun ρ W hd => Mono.guard_val hd (t := 22) (k := 2) (by kernel_rfl) rfl) (fun ρ a W hR hd hf => ?hj15) ?_
        case hj15 =>
          have e28 := Mono.dep_val hd hf (t := 28) (k := 8) (by kernel_rfl) rfl
          have e34 := Mono.dep_val hd hf (t := 34) (k := 14) (by kernel_rfl) rfl
          clear hd hf
          (go_simp; try with_reducible rfl)
        refine Mono.rgl_valg (v := ?vj16) rfl Mono.rr (fun ρ W hd => Mono.guard_val hd (t := 22) (k := 2) (by kernel_rfl) rfl) (fun ρ a W hR hd hf => ?hj16) ?_
        case hj16 =>
          have e0 := Mono.init_get hf (t := 0) (by kernel_rfl)
          clear hd hf
          (go_simp; try with_reducible rfl)
        refine Mono.rgl_valg (v := ?vj17) rfl Mono.rr (fun ρ W hd => Mono.guard_val hd (t := 22) (k := 2) (by kernel_rfl) rfl) (fun ρ a W hR hd hf => ?hj17) ?_
        case hj17 =>
          have e4 := Mono.init_get hf (t := 4) (by kernel_rfl)
          clear hd hf
          (go_simp; try with_reducible rfl)
        refine Mono.rgl_valg (v := ?vj18) rfl Mono.rr (fun ρ W hd => Mono.guard_val hd (t := 22) (k := 2) (by kernel_rfl) rfl) (fun ρ a W hR hd hf => ?hj18) ?_
        case hj18 =>
          have e36 := Mono.dep_val hd hf (t := 36) (k := 16) (by kernel_rfl) rfl
          have e37 := Mono.dep_val hd hf (t := 37) (k := 17) (by kernel_rfl) rfl
          clear hd hf
          (go_simp; try with_reducible rfl)
        refine Mono.rgl_valg (v := ?vj19) rfl Mono.rr (fun ρ W hd => Mono.guard_val hd (t := 22) (k := 2) (by kernel_rfl) rfl) (fun ρ a W hR hd hf => ?hj19) ?_
        case hj19 =>
          have e38 := Mono.dep_val hd hf (t := 38) (k := 18) (by kernel_rfl) rfl
          clear hd hf
          (go_simp; try with_reducible rfl)
        refine Mono.rgl_valg (v := ?vj20) rfl Mono.rr (fun ρ W hd => Mono.guard_val hd (t := 22) (k := 2) (by kernel_rfl) rfl) (fun ρ a W hR hd hf => ?hj20) ?_
        case hj20 =>
          have e39 := Mono.dep_val hd hf (t := 39) (k := 19) (by kernel_rfl) rfl
          have hk := (KX.out W (HB.out.trans (hR.mono HB.out.size))).1
          clear hd hf
          (go_simp; try with_reducible rfl)
        refine Mono.rgl_valg (v := ?vj21) rfl Mono.rr (fun ρ W hd => Mono.guard_val hd (t := 22) (k := 2) (by kernel_rfl) rfl) (fun ρ a W hR hd hf => ?hj21) ?_
        case hj21 =>
          have e35 := Mono.dep_val hd hf (t := 35) (k := 15) (by kernel_rfl) rfl
          have e40 := Mono.dep_val hd hf (t := 40) (k := 20) (by kernel_rfl) rfl
          clear hd hf
          (go_simp; try with_reducible rfl)
        refine Mono.rgl_val (v := ?vj22) rfl Mono.rr (fun ρ a W hR hd hf => ?hj22) ?_
        case hj22 =>
          have e22 := Mono.dep_val hd hf (t := 22) (k := 2) (by kernel_rfl) rfl
          have e41 := Mono.dep_val hd hf (t := 41) (k := 21) (by kernel_rfl) rfl
          clear hd hf
          (go_simp; try with_reducible rfl)
        refine Mono.rgl_done rfl (fun ρ W hR ht => ?_)
        obtain ⟨dj22, dj21, dj20, dj19, dj18, dj17, dj16, dj15, dj14, dj13, dj12, dj11, dj10, dj9, dj8, dj7, dj6, dj5, dj4, dj3, dj2, dj1, dj0, _⟩ := ht
        simp only [List.length_cons, List.length_nil, Nat.reduceAdd] at dj0 dj1 dj2 dj3 dj4 dj5 dj6 dj7 dj8 dj9 dj10 dj11 dj12 dj13 dj14 dj15 dj16 dj17 dj18 dj19 dj20 dj21 dj22
        simp only [Mono.putAll, Nat.reduceAdd, dj0, dj1, dj2, dj3, dj4, dj5, dj6, dj7, dj8, dj9, dj10, dj11, dj12, dj13, dj14, dj15, dj16, dj17, dj18, dj19, dj20, dj21, dj22, Act.put, List.setIfInBounds_toArray, List.set_cons_zero, List.set_cons_succ]
        clear dj0 dj1 dj2 dj3 dj4 dj5 dj6 dj7 dj8 dj9 dj10 dj11 dj12 dj13 dj14 dj15 dj16 dj17 dj18 dj19 dj20 dj21 dj22
        have HRW := Lib.hid (HR0.out.below hR)
        have HBW := Lib.hid (HB.out.trans (hR.mono HB.out.size))
        obtain ⟨g1, g2⟩ := KG.out W hR
        obtain ⟨k0, k1⟩ := KX.out W HBW.out
        have fz := HRW.out.frozenAt (m * 2 + 1)
        have q6 : IntKind.i64.wrap ((y2 : Int) + (x2 : Int)) = ((y2 + x2 : Nat) : Int) := by rw [IntWalk.i64_in _ (by omega)]; omega
        clear hR
        go_upto_region 8 with (fail)
        go_region
        all_goals
          have hD : Below (W.setCell ⟨g, m * 2 + 1, none⟩ (.int .i64 ((y2 : Int) + (x2 : Int)))).heap.size (W.setCell ⟨g, m * 2 + 1, none⟩ (.int .i64 ((y2 : Int) + (x2 : Int)))) (W.setCell ⟨g, m * 2 + 1, none⟩ (.int .i64 ((y2 : Int) + (x2 : Int)))).drew := (Below.refl _ _).drew
          have HJ3 : Hid (Row w.heap.size 34 2 (W.setCell ⟨g, m * 2 + 1, none⟩ (.int .i64 ((y2 : Int) + (x2 : Int)))).drew (.slice (some ⟨g, 0, none⟩) (m + 1) xc) (joinL (l.take (j + 1))).length (lc spC (joinL (l.take (j + 1))))) := Lib.hid (by
            have h1 := (HRW.out.stored (m * 2 + 1) (.int .i64 ((y2 : Int) + (x2 : Int)))).1
            rw [lc_set spC_len (a' := (y1, y2 + x2)) HY.out (by omega) rfl] at h1
            have e : (i ++ [(y1, y2)]).set m (y1, y2 + x2) = i ++ [(y1, y2 + x2)] := by rw [← HM0.out]; simp
            rw [e] at h1
            rw [HJS.out, app_join H0.out HJ.out]
            have e2 : (i ++ [(y1, y2 + x2)]).length = m + 1 := by simp [HM0.out]
            rw [e2]
            exact Row.below h1 hD)
          have HB3 : Hid (Below w.heap.size w (W.setCell ⟨g, m * 2 + 1, none⟩ (.int .i64 ((y2 : Int) + (x2 : Int)))).drew) := Lib.hid (below_drewN (HBW.out.setCell (p := ⟨g, m * 2 + 1, none⟩) hgb _) 1)
          clear g1 g2 k0 k1 fz hD
          generalize (W.setCell ⟨g, m * 2 + 1, none⟩ (.int .i64 ((y2 : Int) + (x2 : Int)))).drew = w3 at *
          go_wp2_with (fail)
          go_roundw
          case rel => exact ⟨j + 1, rfl, hlt, HJ3, HB3⟩
          case measure => simp [intOf] <;> omega
      · as_aux_lemma =>
        have dj : (((y1 + y2 : Nat) : Int) == (x1 : Int)) = false := by simp; omega
        have dj2 : ((y1 + y2) == x1) = false := by simpa using hje
        have HJ := Lib.hid hje
        clear hje
        obtain ⟨k0, k1⟩ := KX.out wo HB.out
        go_upto_region 7 with (fail)
        clear k0 k1
        refine Mono.region_below (by kernel_rfl) (by kernel_rfl) (by kernel_rfl) ?_
        refine Mono.rgl_val (v := ?vk0) rfl Mono.rr (fun ρ a W hR hd hf => ?hk0) ?_
        case hk0 =>
          have e5 := Mono.init_get hf (t := 5) (by kernel_rfl)
          clear hd hf
          (go_simp; try with_reducible rfl)
        refine Mono.rgl_val (v := ?vk1) rfl Mono.rr (fun ρ a W hR hd hf => ?hk1) ?_
        case hk1 =>
          have e20 := Mono.dep_val hd hf (t := 20) (k := 0) (by kernel_rfl) rfl
          clear hd hf
          (go_simp; try with_reducible rfl)
        refine Mono.rgl_val (v := ?vk2) rfl Mono.rr (fun ρ a W hR hd hf => ?hk2) ?_
        case hk2 =>
          have e21 := Mono.dep_val hd hf (t := 21) (k := 1) (by kernel_rfl) rfl
          clear hd hf
          (go_simp; try with_reducible rfl)
        refine Mono.rgl_valg (v := ?vk3) rfl Mono.rr (fun ρ W hd => Mono.guard_val hd (t := 22) (k := 2) (by kernel_rfl) rfl) (fun ρ a W hR hd hf => ?hk3) ?_
        case hk3 =>
          have e3 := Mono.init_get hf (t := 3) (by kernel_rfl)
          clear hd hf
          (go_simp; try with_reducible rfl)
        refine Mono.rgl_valg (v := ?vk4) rfl Mono.rr (fun ρ W hd => Mono.guard_val hd (t := 22) (k := 2) (by kernel_rfl) rfl) (fun ρ a W hR hd hf => ?hk4) ?_
        case hk4 =>
          have e5 := Mono.init_get hf (t := 5) (by kernel_rfl)
          clear hd hf
          (go_simp; try with_reducible rfl)
        refine Mono.rgl_valg (v := ?vk5) rfl Mono.rr (fun ρ W hd => Mono.guard_val hd (t := 22) (k := 2) (by kernel_rfl) rfl) (fun ρ a W hR hd hf => ?hk5) ?_
        case hk5 =>
          have e24 := Mono.dep_val hd hf (t := 24) (k := 4) (by kernel_rfl) rfl
          clear hd hf
          (go_simp; try with_reducible rfl)
        refine Mono.rgl_valg (v := ?vk6) rfl Mono.rr (fun ρ W hd => Mono.guard_val hd (t := 22) (k := 2) (by kernel_rfl) rfl) (fun ρ a W hR hd hf => ?hk6) ?_
        case hk6 =>
          have e23 := Mono.dep_val hd hf (t := 23) (k := 3) (by kernel_rfl) rfl
          have e25 := Mono.dep_val hd hf (t := 25) (k := 5) (by kernel_rfl) rfl
          clear hd hf
          (go_simp; try with_reducible rfl)
        refine Mono.rgl_valg (v := ?vk7) rfl Mono.rr (fun ρ W hd => Mono.guard_val hd (t := 22) (k := 2) (by kernel_rfl) rfl) (fun ρ a W hR hd hf => ?hk7) ?_
        case hk7 =>
          have e26 := Mono.dep_val hd hf (t := 26) (k := 6) (by kernel_rfl) rfl
          clear hd hf
          (go_simp; try with_reducible rfl)
        refine Mono.rgl_valg (v := ?vk8) rfl Mono.rr (fun ρ W hd => Mono.guard_val hd (t := 22) (k := 2) (by kernel_rfl) rfl) (fun ρ a W hR hd hf => ?hk8) ?_
        case hk8 =>
          have e27 := Mono.dep_val hd hf (t := 27) (k := 7) (by kernel_rfl) rfl
          have hk := (KG.out W hR).1
          clear hd hf
          (go_simp; try with_reducible rfl)
        refine Mono.rgl_valg (v := ?vk9) rfl Mono.rr (fun ρ W hd => Mono.guard_val hd (t := 22) (k := 2) (by kernel_rfl) rfl) (fun ρ a W hR hd hf => ?hk9) ?_
        case hk9 =>
          have e3 := Mono.init_get hf (t := 3) (by kernel_rfl)
          clear hd hf
          (go_simp; try with_reducible rfl)
        refine Mono.rgl_valg (v := ?vk10) rfl Mono.rr (fun ρ W hd => Mono.guard_val hd (t := 22) (k := 2) (by kernel_rfl) rfl) (fun ρ a W hR hd hf => ?hk10) ?_
        case hk10 =>
          have e5 := Mono.init_get hf (t := 5) (by kernel_rfl)
          clear hd hf
          (go_simp; try with_reducible rfl)
        refine Mono.rgl_valg (v := ?vk11) rfl Mono.rr (fun ρ W hd => Mono.guard_val hd (t := 22) (k := 2) (by kernel_rfl) rfl) (fun ρ a W hR hd hf => ?hk11) ?_
        case hk11 =>
          have e30 := Mono.dep_val hd hf (t := 30) (k := 10) (by kernel_rfl) rfl
          clear hd hf
          (go_simp; try with_reducible rfl)
        refine Mono.rgl_valg (v := ?vk12) rfl Mono.rr (fun ρ W hd => Mono.guard_val hd (t := 22) (k := 2) (by kernel_rfl) rfl) (fun ρ a W hR hd hf => ?hk12) ?_
        case hk12 =>
          have e29 := Mono.dep_val hd hf (t := 29) (k := 9) (by kernel_rfl) rfl
          have e31 := Mono.dep_val hd hf (t := 31) (k := 11) (by kernel_rfl) rfl
          clear hd hf
          (go_simp; try with_reducible rfl)
        refine Mono.rgl_valg (v := ?vk13) rfl Mono.rr (fun ρ W hd => Mono.guard_val hd (t := 22) (k := 2) (by kernel_rfl) rfl) (fun ρ a W hR hd hf => ?hk13) ?_
        case hk13 =>
          have e32 := Mono.dep_val hd hf (t := 32) (k := 12) (by kernel_rfl) rfl
          clear hd hf
          (go_simp; try with_reducible rfl)
        refine Mono.rgl_valg (v := ?vk14) rfl Mono.rr (fun ρ W hd => Mono.guard_val hd (t := 22) (k := 2) (by kernel_rfl) rfl) (fun ρ a W hR hd hf => ?hk14) ?_
        case hk14 =>
          have e33 := Mono.dep_val hd hf (t := 33) (k := 13) (by kernel_rfl) rfl
          have hk := (KG.out W hR).2
          clear hd hf
          (go_simp; try with_reducible rfl)
        refine Mono.rgl_valg (v := ?vk15) rfl Mono.rr (fun ρ W hd => Mono.guard_val hd (t := 22) (k := 2) (by kernel_rfl) rfl) (fun ρ a W hR hd hf => ?hk15) ?_
        case hk15 =>
          have e28 := Mono.dep_val hd hf (t := 28) (k := 8) (by kernel_rfl) rfl
          have e34 := Mono.dep_val hd hf (t := 34) (k := 14) (by kernel_rfl) rfl
          clear hd hf
          (go_simp; try with_reducible rfl)
        refine Mono.rgl_valg (v := ?vk16) rfl Mono.rr (fun ρ W hd => Mono.guard_val hd (t := 22) (k := 2) (by kernel_rfl) rfl) (fun ρ a W hR hd hf => ?hk16) ?_
        case hk16 =>
          have e0 := Mono.init_get hf (t := 0) (by kernel_rfl)
          clear hd hf
          (go_simp; try with_reducible rfl)
        refine Mono.rgl_valg (v := ?vk17) rfl Mono.rr (fun ρ W hd => Mono.guard_val hd (t := 22) (k := 2) (by kernel_rfl) rfl) (fun ρ a W hR hd hf => ?hk17) ?_
        case hk17 =>
          have e4 := Mono.init_get hf (t := 4) (by kernel_rfl)
          clear hd hf
          (go_simp; try with_reducible rfl)
        refine Mono.rgl_valg (v := ?vk18) rfl Mono.rr (fun ρ W hd => Mono.guard_val hd (t := 22) (k := 2) (by kernel_rfl) rfl) (fun ρ a W hR hd hf => ?hk18) ?_
        case hk18 =>
          have e36 := Mono.dep_val hd hf (t := 36) (k := 16) (by kernel_rfl) rfl
          have e37 := Mono.dep_val hd hf (t := 37) (k := 17) (by kernel_rfl) rfl
          clear hd hf
          (go_simp; try with_reducible rfl)
        refine Mono.rgl_valg (v := ?vk19) rfl Mono.rr (fun ρ W hd => Mono.guard_val hd (t := 22) (k := 2) (by kernel_rfl) rfl) (fun ρ a W hR hd hf => ?hk19) ?_
        case hk19 =>
          have e38 := Mono.dep_val hd hf (t := 38) (k := 18) (by kernel_rfl) rfl
          clear hd hf
          (go_simp; try with_reducible rfl)
        refine Mono.rgl_valg (v := ?vk20) rfl Mono.rr (fun ρ W hd => Mono.guard_val hd (t := 22) (k := 2) (by kernel_rfl) rfl) (fun ρ a W hR hd hf => ?hk20) ?_
        case hk20 =>
          have e39 := Mono.dep_val hd hf (t := 39) (k := 19) (by kernel_rfl) rfl
          have hk := (KX.out W (HB.out.trans (hR.mono HB.out.size))).1
          clear hd hf
          (go_simp; try with_reducible rfl)
        refine Mono.rgl_valg (v := ?vk21) rfl Mono.rr (fun ρ W hd => Mono.guard_val hd (t := 22) (k := 2) (by kernel_rfl) rfl) (fun ρ a W hR hd hf => ?hk21) ?_
        case hk21 =>
          have e35 := Mono.dep_val hd hf (t := 35) (k := 15) (by kernel_rfl) rfl
          have e40 := Mono.dep_val hd hf (t := 40) (k := 20) (by kernel_rfl) rfl
          clear hd hf
          (go_simp; try with_reducible rfl)
        refine Mono.rgl_val (v := ?vk22) rfl Mono.rr (fun ρ a W hR hd hf => ?hk22) ?_
        case hk22 =>
          have e22 := Mono.dep_val hd hf (t := 22) (k := 2) (by kernel_rfl) rfl
          have e41 := Mono.dep_val hd hf (t := 41) (k := 21) (by kernel_rfl) rfl
          clear hd hf
          (go_simp; try with_reducible rfl)
        refine Mono.rgl_done rfl (fun ρ W hR ht => ?_)
        obtain ⟨dk22, dk21, dk20, dk19, dk18, dk17, dk16, dk15, dk14, dk13, dk12, dk11, dk10, dk9, dk8, dk7, dk6, dk5, dk4, dk3, dk2, dk1, dk0, _⟩ := ht
        simp only [List.length_cons, List.length_nil, Nat.reduceAdd] at dk0 dk1 dk2 dk3 dk4 dk5 dk6 dk7 dk8 dk9 dk10 dk11 dk12 dk13 dk14 dk15 dk16 dk17 dk18 dk19 dk20 dk21 dk22
        simp only [Mono.putAll, Nat.reduceAdd, dk0, dk1, dk2, dk3, dk4, dk5, dk6, dk7, dk8, dk9, dk10, dk11, dk12, dk13, dk14, dk15, dk16, dk17, dk18, dk19, dk20, dk21, dk22, Act.put, List.setIfInBounds_toArray, List.set_cons_zero, List.set_cons_succ]
        clear dk0 dk1 dk2 dk3 dk4 dk5 dk6 dk7 dk8 dk9 dk10 dk11 dk12 dk13 dk14 dk15 dk16 dk17 dk18 dk19 dk20 dk21 dk22
        have HRW := Lib.hid (HR0.out.below hR)
        have HBW := Lib.hid (HB.out.trans (hR.mono HB.out.size))
        clear hR
        obtain ⟨wx, hwx⟩ : ∃ z : World, z = W.alloc (.cells #[.int .i64 (x1 : Nat), .int .i64 (x2 : Nat)] 34) := ⟨_, rfl⟩
        have hbx : Below W.heap.size W wx := by rw [hwx]; exact (Below.refl _ _).alloc (Nat.le_refl _) _
        have HSX : Hid (Sl wx (W.heap.size + 1) 2 (.slice (some ⟨W.heap.size, 0, none⟩) 1 1) 1 [.int .i64 (x1 : Nat), .int .i64 (x2 : Nat)]) := Lib.hid (by rw [hwx]; exact Sl.new W 2 1 _ 34 rfl)
        have HON : Hid (∀ u ∈ ([.int .i64 (x1 : Nat), .int .i64 (x2 : Nat)] : List Value), u.oneCell' = true) := Lib.hid (by intro u hu; simp at hu; rcases hu with rfl | rfl <;> rfl)
        have HRX := Lib.hid (HRW.out.below hbx)
        have HBX := Lib.hid (HBW.out.trans (hbx.mono HBW.out.size))
        have HZX := Lib.hid HBX.out.size
        have HWX := Lib.hid hwx
        obtain ⟨k0, k1⟩ := KX.out W HBW.out
        clear hbx hwx
        go_wp2_with (at_builtin; rw [← HWX.out]; refine append_row (base := w.heap.size) (size := 2) (xs := lc spC (i ++ [(y1, y2)])) Try.underlying39 info_rs rfl (by decide) rfl _ _ rfl rfl HRX.out rfl HSX.out HON.out ?_ ?_ ?_ ?_; omega; omega; exact HZX.out)
        intro v3 w3 hr3 hb3
        have HJ3 : Hid (Row w.heap.size 34 2 w3 v3 (joinL (l.take (j + 1))).length (lc spC (joinL (l.take (j + 1))))) := Lib.hid (by rw [HJS.out, app_new H0.out HJ.out, lc_app, lc_one]; have e2 : (i ++ [(y1, y2)] ++ [(x1, x2)]).length = m + 1 + 1 := (by simp [HM0.out]); rw [e2]; exact hr3)
        have HB3 := Lib.hid (HBX.out.trans hb3)
        clear hr3 hb3 k0 k1
        go_wp2_with (fail)
        go_roundw
        case rel => exact ⟨j + 1, rfl, hlt, HJ3, HB3⟩
        case measure => simp [intOf] <;> omega
end Go.Proofs.Ytfnaoekkdgndkaa
