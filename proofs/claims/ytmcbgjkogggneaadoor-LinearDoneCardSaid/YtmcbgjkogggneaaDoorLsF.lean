/- add and undo. -/
import Derived.Test.YtmcbgjkogggneaaDoorLsE
import Derived.Test.YtmcbgjkogggneaaDoorMonoT
namespace Go.Proofs.YtmcbgjkogggneaaDoor
set_option maxRecDepth 100000
set_option linter.unusedVariables false
set_option linter.unusedSimpArgs false
open Go.RowKit Go.Maps Go.WideMaps
theorem own_c {w : World} {b : Nat} {c : CallV} (h : Own w b c.cells) : w.cell? ⟨b, 0, none⟩ = some (.int .i64 c.kind) ∧ w.cell? ⟨b, 1, none⟩ = some (.string c.name) ∧ w.cell? ⟨b, 2, none⟩ = some (.bool c.told) ∧ w.cell? ⟨b, 3, none⟩ = some (.slice c.na c.nn c.nc) ∧ w.cell? ⟨b, 4, none⟩ = some (.int .i64 c.beg) ∧ w.cell? ⟨b, 5, none⟩ = some (.int .i64 c.fin) :=
  ⟨h.1 0 _ rfl, h.1 1 _ rfl, h.1 2 _ rfl, h.1 3 _ rfl, h.1 4 _ rfl, h.1 5 _ rfl⟩
theorem info_int43 : (Tryd.prog.info? 3).map (fun i => (i.zero, i.size, i.bytes)) = some (some (.int .i64 0), 1, 8) := by kernel_rfl
theorem ModelAt.setC {w : World} {mb mm base : Nat} {l : List ByteArray} (h : ModelAt w mb mm base l) {c : Nat} (h1 : mb < c) (h2 : c < base) (k : Nat) (x : Value) : ModelAt (w.setCell ⟨c, k, none⟩ x) mb mm base l := by
  obtain ⟨a1, a2, a3, v, D, n, ho, hr, hm, hn, hh⟩ := h
  exact ⟨a1, a2, by simpa using a3, v, D, n, ho.other (by omega) k x, hr.other h2 k x, World.ownsMap.setCell hm (a := ⟨c, k, none⟩) (show mm ≠ c by omega) x, hn, hh⟩
theorem ModelAt.int {w w' : World} {mb mm base size m : Nat} {l : List ByteArray} {v : Value} {xs : List Value} (h : ModelAt w mb mm base l) (hr : Row base 3 size w v m xs) (hg : w.grownBy w' v.ownBlock) : ModelAt w' mb mm base l := by
  obtain ⟨a1, a2, a3, u, D, n, ho, hs, hm, hn, hh⟩ := h
  exact ⟨a1, a2, Nat.le_trans a3 hg.size, u, D, n, ho.grown hg (row_block_ne hr (.inl a2)) (by omega), hs.kept_ne hr hg (by decide), World.ownsMap.kept hm hg (row_block_ne hr (.inl (by omega))), hn, hh⟩
def Add_p (C n : Nat) (sv : Value) (cv : Nat → CallV) (nm : Nat → List ByteArray) (sb mb mm base : Nat) (l : List ByteArray) (o : List Nat) (w : World) (e : Ending) (w' : World) : Prop :=
  e = .returned (.tuple #[]) ∧ StA C n sv cv nm sb mb mm base w' l o ∧ FrS mb mm sb base w w'
set_option maxHeartbeats 8000000 in
theorem add_in (C n i : Nat) (sv : Value) (cv : Nat → CallV) (nm : Nat → List ByteArray) (sb mb mm base : Nat) (l : List ByteArray) (o : List Nat) (w : World) (h : StA C n sv cv nm sb mb mm base w l o) (hi : i < n) (hn : n ≤ 8) (hio : i ∉ o) (hol : o.length ≤ 8) :
    Calls Tryd.prog 41 #[.pointer (some ⟨sb, 0, none⟩), .int .i64 (i : Nat), (cv i).agg, .bool true] w (Add_p C n sv cv nm sb mb mm base l (o ++ [i]) w) := by
  obtain ⟨hcm, hms, hsb, hmod, ⟨ov, hos, hro⟩, hcalls⟩ := id h
  have HH := Lib.hid h
  have HRO := Lib.hid hro
  have hlt1 := hmod.lt1
  have hlt2 := hmod.lt2
  have hlt3 := hmod.lt3
  have hMM := mustN_in (cv := cv) hi hio
  have HMM := Lib.hid hMM
  have HMU := Lib.hid (must_any (cv i))
  obtain ⟨mu, hmu⟩ : ∃ b, decide (0 ≤ (cv i).fin) = b := ⟨_, rfl⟩
  rw [hmu] at HMU HMM hMM
  have HMUE := Lib.hid hmu
  have hmn := cntN_le (muB cv o) n
  have hmn2 := cntN_le (muB cv (o ++ [i])) n
  change mustN n cv o ≤ n at hmn
  change mustN n cv (o ++ [i]) ≤ n at hmn2
  obtain ⟨M1, hM1⟩ : ∃ m, mustN n cv o = m := ⟨_, rfl⟩
  obtain ⟨M2, hM2⟩ : ∃ m, mustN n cv (o ++ [i]) = m := ⟨_, rfl⟩
  rw [hM1] at HMM hMM hmn hos
  rw [hM2] at HMM hMM hmn2
  have HM1 := Lib.hid hM1
  have HM2 := Lib.hid hM2
  clear hM1 hM2 hmu h
  have hii : (i : Int) < 8 := by omega
  obtain ⟨w1, hw1⟩ : ∃ z : World, z = w.alloc (.cells #[.int .i64 (cv i).kind, .string (cv i).name, .bool (cv i).told, .slice (cv i).na (cv i).nn (cv i).nc, .int .i64 (cv i).beg, .int .i64 (cv i).fin] 32) := ⟨_, rfl⟩
  have hb1 : Below w.heap.size w w1 := by rw [hw1]; exact (Below.refl _ _).alloc (Nat.le_refl _) _
  have HB1 := Lib.hid hb1
  have HC1 : Hid (Own w1 w.heap.size (cv i).cells) := Lib.hid (by rw [hw1]; exact Own.new_at w (cv i).cells _ _ rfl)
  have HS1 := Lib.hid (hos.below hb1 (by omega))
  have HR1 := Lib.hid (hro.below hb1)
  have hz1 : w.heap.size < w1.heap.size := by rw [hw1]; simp
  have HW1 := Lib.hid hw1
  have HMOD1 := Lib.hid (hmod.below hb1)
  have HCA := Lib.hid hcalls
  have hb2 : Below w1.heap.size w1 (w1.alloc (.cells #[.int .i64 (i : Nat)] 3)) := (Below.refl _ _).alloc (Nat.le_refl _) _
  have HB2 := Lib.hid hb2
  have HS2 := Lib.hid (HS1.out.below hb2 (by omega))
  have HC2 := Lib.hid (HC1.out.below hb2 hz1)
  have HR2 := Lib.hid (HR1.out.below hb2)
  have HMOD2 := Lib.hid (HMOD1.out.below hb2)
  have HZ2 : Hid ((w1.alloc (.cells #[.int .i64 (i : Nat)] 3)).heap.size = w1.heap.size + 1) := Lib.hid (by simp)
  have HF2 : Hid (FrS mb mm sb base w (w1.alloc (.cells #[.int .i64 (i : Nat)] 3))) := Lib.hid ((FrS.of_below hb1).trans (FrS.of_below hb2))
  have k1 := HS1.out.1 1 _ rfl
  unfold CallV.agg
  go_enter Tryd.func41, Tryd.ntmps41
  clear hos hro hmod hcalls hb1 hw1 hb2
  go_upto_region 3 with (fail)
  rw [← HW1.out]
  go_wp2_with (at_builtin; refine append_rowG (base := base) (size := 1) Tryd.underlying23 info_int43 rfl (by decide) rfl _ _ rfl rfl HR2.out rfl (Sl.new w1 1 1 [.int .i64 (i : Nat)] 3 rfl) (by intro u hu; simp at hu; subst hu; rfl) (by omega) (by omega) (by rw [HZ2.out]; omega) ?_)
  intro ov3 w3 hr3 hb3 hg3
  have HR3 : Hid (Row base 3 1 w3 ov3 (o ++ [i]).length ((o ++ [i]).map fun i => .int .i64 (i : Nat))) := Lib.hid (by rw [List.length_append, List.map_append]; exact hr3)
  have HF3 : Hid (FrS mb mm sb base w w3) := Lib.hid (HF2.out.trans (FrS.of_int HR2.out hg3))
  have HMOD3 := Lib.hid (HMOD2.out.int HR2.out hg3)
  have HS3 := Lib.hid (HS2.out.grown hg3 (row_block_ne HR2.out (.inl hsb)) (by rw [HZ2.out]; omega))
  have HC3 := Lib.hid (HC2.out.grown hg3 (row_block_ne HRO.out (.inr (Nat.le_refl _))) (by rw [HZ2.out]; omega))
  have hz3 : w1.heap.size + 1 ≤ w3.heap.size := by rw [← HZ2.out]; exact hg3.size
  have s1 := HS3.out.1 1 _ rfl
  have f1 := HS3.out.2 1
  clear hr3 hb3 hg3 k1 HR1 HR2 HS1 HS2 HC1 HC2 HMOD1 HMOD2 HF2
  obtain ⟨q3, hq3⟩ : ∃ q, (o ++ [i]).length = q := ⟨_, rfl⟩
  rw [hq3] at HR3
  have HQ3 := Lib.hid hq3
  clear hq3
  obtain ⟨a3, cap3, hv3, _⟩ := HR3.out.form
  subst hv3
  go_upto_region 6 with (fail)
  have HS4' := (HS3.out.set (1) (.slice a3 q3 cap3) (by rw [scl_len]; omega))
  have HS4a : Hid (Own (w3.setCell ⟨sb, 1, none⟩ (.slice a3 q3 cap3)) sb (scl sv (.slice a3 q3 cap3) o M1 mb)) := Lib.hid (by exact HS4')
  have HC4a := Lib.hid (HC3.out.other (show sb ≠ w.heap.size by omega) (1) (.slice a3 q3 cap3))
  have HR4a := Lib.hid (HR3.out.other hsb (1) (.slice a3 q3 cap3))
  have HMOD4a := Lib.hid (HMOD3.out.setC hms hsb (1) (.slice a3 q3 cap3))
  have HF4a : Hid (FrS mb mm sb base w _) := Lib.hid (HF3.out.trans (FrS.setSb mb mm sb base w3 (1) (.slice a3 q3 cap3)))
  have hz4 : w1.heap.size ≤ (w3.setCell ⟨sb, 1, none⟩ (.slice a3 q3 cap3)).heap.size := by simp; omega
  clear HS4' HS3 HC3 HR3 HMOD3 HF3 s1 f1
  generalize w3.setCell ⟨sb, 1, none⟩ (.slice a3 q3 cap3) = w4 at *
  have HS4 := HS4a; have HC4 := HC4a; have HR4 := HR4a; have HMOD4 := HMOD4a; have HF4 := HF4a
  clear HS4a HC4a HR4a HMOD4a HF4a
  have s1 := HS4.out.1 (2 + i) _ (scl_used (by omega))
  have f1 := HS4.out.2 (2 + i)
  go_upto_region 7 with (fail)
  have HS5' := (HS4.out.set (2 + i) (.bool true) (by rw [scl_len]; omega))
  have HS5a : Hid (Own (w4.setCell ⟨sb, 2 + i, none⟩ (.bool true)) sb (scl sv (.slice a3 q3 cap3) (o ++ [i]) M1 mb)) := Lib.hid (by rw [scl_setU (by omega) (usedC_in (by omega))] at HS5'; exact HS5')
  have HC5a := Lib.hid (HC4.out.other (show sb ≠ w.heap.size by omega) (2 + i) (.bool true))
  have HR5a := Lib.hid (HR4.out.other hsb (2 + i) (.bool true))
  have HMOD5a := Lib.hid (HMOD4.out.setC hms hsb (2 + i) (.bool true))
  have HF5a : Hid (FrS mb mm sb base w _) := Lib.hid (HF4.out.trans (FrS.setSb mb mm sb base w4 (2 + i) (.bool true)))
  have hz5 : w1.heap.size ≤ (w4.setCell ⟨sb, 2 + i, none⟩ (.bool true)).heap.size := by simp; omega
  clear HS5' HS4 HC4 HR4 HMOD4 HF4 s1 f1
  generalize w4.setCell ⟨sb, 2 + i, none⟩ (.bool true) = w5 at *
  have HS5 := HS5a; have HC5 := HC5a; have HR5 := HR5a; have HMOD5 := HMOD5a; have HF5 := HF5a
  clear HS5a HC5a HR5a HMOD5a HF5a
  have k5 := own_c HC5.out
  obtain ⟨c0, c1, c2, c3, c4, c5⟩ := k5
  unfold CallV.agg at HMU
  go_wp2_with (fail)
  refine (HMU.out _).mono ?_
  rintro e w6 ⟨rfl, hb6⟩
  have HB6 := Lib.hid hb6
  have HS6 := Lib.hid (HS5.out.below hb6 (by omega))
  have HR6 := Lib.hid (HR5.out.below hb6)
  have HMOD6 := Lib.hid (HMOD5.out.below hb6)
  have HF6 : Hid (FrS mb mm sb base w w6) := Lib.hid (HF5.out.trans (FrS.of_below hb6))
  have hz6 := hb6.size
  clear hb6 c0 c1 c2 c3 c4 c5
  cases mu with
  | false =>
    simp at hMM
    go_wp2_with (fail)
    go_end0
    have hB : Below mm w w6 := HF6.out.below hlt1 hms hsb (by omega)
    exact ⟨rfl, ⟨hcm, hms, hsb, HMOD6.out, ⟨_, by rw [HM2.out, hMM]; exact HS6.out, (by rw [HQ3.out]; exact HR6.out)⟩, HCA.out.below (hB.mono hcm)⟩, HF6.out⟩
  | true =>
    simp at hMM
    have k10 := HS6.out.1 10 _ scl_must
    have f10 := HS6.out.2 10
    have q1 : IntKind.i64.wrap ((M1 : Int) + (-1)) = (M2 : Int) := by rw [IntWalk.i64_in _ (by omega)]; omega
    go_wp2_with (fail)
    go_end0
    have hF : FrS mb mm sb base w _ := HF6.out.trans (FrS.setSb mb mm sb base w6 10 (.int .i64 (M2 : Nat)))
    have hB : Below mm w _ := hF.below hlt1 hms hsb (by omega)
    exact ⟨rfl, ⟨hcm, hms, hsb, HMOD6.out.setC hms hsb 10 _, ⟨_, by rw [HM2.out, ← scl_setM (must := M1)]; exact HS6.out.set 10 (.int .i64 (M2 : Nat)) (by rw [scl_len]; omega), (by rw [HQ3.out]; exact HR6.out.other (by omega) 10 _)⟩, HCA.out.below (hB.mono hcm)⟩, hF⟩
set_option maxHeartbeats 8000000 in
theorem add_out (C n i : Nat) (sv : Value) (cv : Nat → CallV) (nm : Nat → List ByteArray) (sb mb mm base : Nat) (l : List ByteArray) (o : List Nat) (w : World) (h : StA C n sv cv nm sb mb mm base w l (o ++ [i])) (hi : i < n) (hn : n ≤ 8) (hio : i ∉ o) (hol : o.length ≤ 8) :
    Calls Tryd.prog 41 #[.pointer (some ⟨sb, 0, none⟩), .int .i64 (i : Nat), (cv i).agg, .bool false] w (Add_p C n sv cv nm sb mb mm base l o w) := by
  obtain ⟨hcm, hms, hsb, hmod, ⟨ov, hos, hro⟩, hcalls⟩ := id h
  have HH := Lib.hid h
  have HRO := Lib.hid hro
  have hlt1 := hmod.lt1
  have hlt2 := hmod.lt2
  have hlt3 := hmod.lt3
  have hMM := mustN_in (cv := cv) hi hio
  have HMM := Lib.hid hMM
  have HMU := Lib.hid (must_any (cv i))
  obtain ⟨mu, hmu⟩ : ∃ b, decide (0 ≤ (cv i).fin) = b := ⟨_, rfl⟩
  rw [hmu] at HMU HMM hMM
  have HMUE := Lib.hid hmu
  have hmn := cntN_le (muB cv o) n
  have hmn2 := cntN_le (muB cv (o ++ [i])) n
  change mustN n cv o ≤ n at hmn
  change mustN n cv (o ++ [i]) ≤ n at hmn2
  obtain ⟨M1, hM1⟩ : ∃ m, mustN n cv o = m := ⟨_, rfl⟩
  obtain ⟨M2, hM2⟩ : ∃ m, mustN n cv (o ++ [i]) = m := ⟨_, rfl⟩
  rw [hM1] at HMM hMM hmn 
  rw [hM2] at HMM hMM hmn2 hos
  have HM1 := Lib.hid hM1
  have HM2 := Lib.hid hM2
  clear hM1 hM2 hmu h
  have hii : (i : Int) < 8 := by omega
  obtain ⟨w1, hw1⟩ : ∃ z : World, z = w.alloc (.cells #[.int .i64 (cv i).kind, .string (cv i).name, .bool (cv i).told, .slice (cv i).na (cv i).nn (cv i).nc, .int .i64 (cv i).beg, .int .i64 (cv i).fin] 32) := ⟨_, rfl⟩
  have hb1 : Below w.heap.size w w1 := by rw [hw1]; exact (Below.refl _ _).alloc (Nat.le_refl _) _
  have HB1 := Lib.hid hb1
  have HC1 : Hid (Own w1 w.heap.size (cv i).cells) := Lib.hid (by rw [hw1]; exact Own.new_at w (cv i).cells _ _ rfl)
  have HS1 := Lib.hid (hos.below hb1 (by omega))
  have HR1 := Lib.hid (hro.below hb1)
  have hz1 : w.heap.size < w1.heap.size := by rw [hw1]; simp
  have HW1 := Lib.hid hw1
  have HMOD1 := Lib.hid (hmod.below hb1)
  have HCA := Lib.hid hcalls
  have HF1 : Hid (FrS mb mm sb base w w1) := Lib.hid (FrS.of_below hb1)
  obtain ⟨q3, hq3⟩ : ∃ q, o.length = q := ⟨_, rfl⟩
  have hr1 := HR1.out
  rw [List.length_append, List.map_append, hq3] at hr1
  have HQ3 := Lib.hid hq3
  rw [hq3] at hol
  clear hq3 HR1 HRO
  obtain ⟨a3, cap3, hv3, hc3⟩ := hr1.form
  subst hv3
  obtain ⟨g3, hg3⟩ : ∃ g, a3 = some ⟨g, 0, none⟩ := by
    rcases hr1.2 with ⟨hq, _⟩ | ⟨g, _, _, hq, _⟩
    · injection hq with _ hq; simp at hq
    · injection hq with hq; exact ⟨g, hq⟩
  subst hg3
  have HR1 : Hid (Row base 3 1 w1 (.slice (some ⟨g3, 0, none⟩) q3 cap3) q3 (o.map fun i => .int .i64 (i : Nat))) := Lib.hid (Row.shrink (x := .int .i64 (i : Nat)) hr1)
  have q1 : IntKind.i64.wrap (((q3 + 1 : Nat) : Int) - 1) = (q3 : Int) := by rw [IntWalk.i64_in _ (by omega)]; omega
  have q2 : IntKind.i64.wrap (q3 : Int) = (q3 : Int) := IntWalk.i64_in _ (by omega)
  simp only [List.length_cons, List.length_nil] at hc3
  have hqc : (q3 : Int) ≤ (cap3 : Int) := by omega
  have K1 : Hid (∀ W, Below w1.heap.size w1 W → W.cell? ⟨sb, 1, none⟩ = some (.slice (some ⟨g3, 0, none⟩) (q3 + 1) cap3)) := Lib.hid (fun W hW => (HS1.out.below hW (by omega)).1 1 _ rfl)
  unfold CallV.agg
  go_enter Tryd.func41, Tryd.ntmps41
  clear hos hro hmod hcalls hb1 hw1 hr1
  go_upto_region 4 with (fail)
  rw [← HW1.out]
  refine Mono.region_tail 14 (by kernel_rfl) (by kernel_rfl) (by kernel_rfl) (by kernel_rfl) ?_
  simp only [List.take_succ_cons, List.take_zero]
  refine Mono.hgl_val (v := ?vr0) rfl Mono.rr (fun ρ a W hR hd hf => ?hr0) ?_
  case hr0 =>
    have e0 := Mono.init_get hf (t := 0) (by kernel_rfl)
    clear hd hf
    (go_simp; try with_reducible rfl)
  refine Mono.hgl_val (v := ?vr1) rfl Mono.rr (fun ρ a W hR hd hf => ?hr1) ?_
  case hr1 =>
    have e0 := Mono.init_get hf (t := 0) (by kernel_rfl)
    clear hd hf
    (go_simp; try with_reducible rfl)
  refine Mono.hgl_val (v := ?vr2) rfl Mono.rr (fun ρ a W hR hd hf => ?hr2) ?_
  case hr2 =>
    have e21 := Mono.dep_val hd hf (t := 21) (k := 1) (by kernel_rfl) rfl
    clear hd hf
    (go_simp; try with_reducible rfl)
  refine Mono.hgl_val (v := ?vr3) rfl Mono.rr (fun ρ a W hR hd hf => ?hr3) ?_
  case hr3 =>
    have e22 := Mono.dep_val hd hf (t := 22) (k := 2) (by kernel_rfl) rfl
    clear hd hf
    (go_simp; try with_reducible rfl)
  refine Mono.hgl_val (v := ?vr4) rfl Mono.rr (fun ρ a W hR hd hf => ?hr4) ?_
  case hr4 =>
    have e23 := Mono.dep_val hd hf (t := 23) (k := 3) (by kernel_rfl) rfl
    have hk := K1.out W hR
    clear hd hf
    (go_simp; try with_reducible rfl)
  refine Mono.hgl_val (v := ?vr5) rfl Mono.rr (fun ρ a W hR hd hf => ?hr5) ?_
  case hr5 =>
    have e0 := Mono.init_get hf (t := 0) (by kernel_rfl)
    clear hd hf
    (go_simp; try with_reducible rfl)
  refine Mono.hgl_val (v := ?vr6) rfl Mono.rr (fun ρ a W hR hd hf => ?hr6) ?_
  case hr6 =>
    have e25 := Mono.dep_val hd hf (t := 25) (k := 5) (by kernel_rfl) rfl
    clear hd hf
    (go_simp; try with_reducible rfl)
  refine Mono.hgl_val (v := ?vr7) rfl Mono.rr (fun ρ a W hR hd hf => ?hr7) ?_
  case hr7 =>
    have e26 := Mono.dep_val hd hf (t := 26) (k := 6) (by kernel_rfl) rfl
    clear hd hf
    (go_simp; try with_reducible rfl)
  refine Mono.hgl_val (v := ?vr8) rfl Mono.rr (fun ρ a W hR hd hf => ?hr8) ?_
  case hr8 =>
    have e27 := Mono.dep_val hd hf (t := 27) (k := 7) (by kernel_rfl) rfl
    have hk := K1.out W hR
    clear hd hf
    (go_simp; try with_reducible rfl)
  refine Mono.hgl_val (v := ?vr9) rfl Mono.rr (fun ρ a W hR hd hf => ?hr9) ?_
  case hr9 =>
    have e28 := Mono.dep_val hd hf (t := 28) (k := 8) (by kernel_rfl) rfl
    clear hd hf
    (go_simp; try with_reducible rfl)
  refine Mono.hgl_val (v := ?vr10) rfl Mono.rr (fun ρ a W hR hd hf => ?hr10) ?_
  case hr10 =>
    have e29 := Mono.dep_val hd hf (t := 29) (k := 9) (by kernel_rfl) rfl
    clear hd hf
    (go_simp; try with_reducible rfl)
  refine Mono.hgl_val (v := ?vr11) rfl Mono.rr (fun ρ a W hR hd hf => ?hr11) ?_
  case hr11 =>
    have e24 := Mono.dep_val hd hf (t := 24) (k := 4) (by kernel_rfl) rfl
    have e30 := Mono.dep_val hd hf (t := 30) (k := 10) (by kernel_rfl) rfl
    clear hd hf
    (go_simp; try with_reducible rfl)
  refine Mono.hgl_val (v := ?vr12) rfl Mono.rr (fun ρ a W hR hd hf => ?hr12) ?_
  case hr12 =>
    have e20 := Mono.dep_val hd hf (t := 20) (k := 0) (by kernel_rfl) rfl
    clear hd hf
    (go_simp; try with_reducible rfl)
  refine Mono.hgl_val (v := ?vr13) rfl Mono.rr (fun ρ a W hR hd hf => ?hr13) ?_
  case hr13 =>
    have e32 := Mono.dep_val hd hf (t := 32) (k := 12) (by kernel_rfl) rfl
    clear hd hf
    (go_simp; try with_reducible rfl)
  refine Mono.hgl_done rfl (by decide) (fun ρ W hR ht => ?_)
  simp only [List.take_succ_cons, List.take_zero, List.drop_succ_cons, List.drop_zero]
  obtain ⟨dr13, dr12, dr11, dr10, dr9, dr8, dr7, dr6, dr5, dr4, dr3, dr2, dr1, dr0, _⟩ := ht
  simp only [List.length_cons, List.length_nil, Nat.reduceAdd] at dr0 dr1 dr2 dr3 dr4 dr5 dr6 dr7 dr8 dr9 dr10 dr11 dr12 dr13
  simp only [Mono.putAll, Nat.reduceAdd, dr0, dr1, dr2, dr3, dr4, dr5, dr6, dr7, dr8, dr9, dr10, dr11, dr12, dr13, Act.put, List.setIfInBounds_toArray, List.set_cons_zero, List.set_cons_succ]
  clear dr0 dr1 dr2 dr3 dr4 dr5 dr6 dr7 dr8 dr9 dr10 dr11 dr12 dr13
  have HS3 := Lib.hid (HS1.out.below hR (by omega))
  have HC3 := Lib.hid (HC1.out.below hR hz1)
  have HR3 := Lib.hid (HR1.out.below hR)
  have HMOD3 := Lib.hid (HMOD1.out.below hR)
  have HF3 : Hid (FrS mb mm sb base w W) := Lib.hid (HF1.out.trans (FrS.of_below hR))
  have hz3 : w1.heap.size ≤ W.heap.size := hR.size
  have s1 := HS3.out.1 1 _ rfl
  have f1 := HS3.out.2 1
  clear hR HS1 HC1 HR1 HMOD1 HF1 K1
  obtain ⟨w3, hw3⟩ : ∃ z : World, z = W := ⟨_, rfl⟩
  subst hw3
  go_upto_region 6 with (fail)
  have HS4' := (HS3.out.set (1) (.slice (some ⟨g3, 0, none⟩) q3 cap3) (by rw [scl_len]; omega))
  have HS4a : Hid (Own (w3.setCell ⟨sb, 1, none⟩ (.slice (some ⟨g3, 0, none⟩) q3 cap3)) sb (scl sv (.slice (some ⟨g3, 0, none⟩) q3 cap3) (o ++ [i]) M2 mb)) := Lib.hid (by exact HS4')
  have HC4a := Lib.hid (HC3.out.other (show sb ≠ w.heap.size by omega) (1) (.slice (some ⟨g3, 0, none⟩) q3 cap3))
  have HR4a := Lib.hid (HR3.out.other hsb (1) (.slice (some ⟨g3, 0, none⟩) q3 cap3))
  have HMOD4a := Lib.hid (HMOD3.out.setC hms hsb (1) (.slice (some ⟨g3, 0, none⟩) q3 cap3))
  have HF4a : Hid (FrS mb mm sb base w _) := Lib.hid (HF3.out.trans (FrS.setSb mb mm sb base w3 (1) (.slice (some ⟨g3, 0, none⟩) q3 cap3)))
  have hz4 : w1.heap.size ≤ (w3.setCell ⟨sb, 1, none⟩ (.slice (some ⟨g3, 0, none⟩) q3 cap3)).heap.size := by simp; omega
  clear HS4' HS3 HC3 HR3 HMOD3 HF3 s1 f1
  generalize w3.setCell ⟨sb, 1, none⟩ (.slice (some ⟨g3, 0, none⟩) q3 cap3) = w4 at *
  have HS4 := HS4a; have HC4 := HC4a; have HR4 := HR4a; have HMOD4 := HMOD4a; have HF4 := HF4a
  clear HS4a HC4a HR4a HMOD4a HF4a
  have s1 := HS4.out.1 (2 + i) _ (scl_used (by omega))
  have f1 := HS4.out.2 (2 + i)
  go_upto_region 7 with (fail)
  have HS5' := (HS4.out.set (2 + i) (.bool false) (by rw [scl_len]; omega))
  have HS5a : Hid (Own (w4.setCell ⟨sb, 2 + i, none⟩ (.bool false)) sb (scl sv (.slice (some ⟨g3, 0, none⟩) q3 cap3) o M2 mb)) := Lib.hid (by rw [scl_setU (by omega) (usedC_out (by omega) hio)] at HS5'; exact HS5')
  have HC5a := Lib.hid (HC4.out.other (show sb ≠ w.heap.size by omega) (2 + i) (.bool false))
  have HR5a := Lib.hid (HR4.out.other hsb (2 + i) (.bool false))
  have HMOD5a := Lib.hid (HMOD4.out.setC hms hsb (2 + i) (.bool false))
  have HF5a : Hid (FrS mb mm sb base w _) := Lib.hid (HF4.out.trans (FrS.setSb mb mm sb base w4 (2 + i) (.bool false)))
  have hz5 : w1.heap.size ≤ (w4.setCell ⟨sb, 2 + i, none⟩ (.bool false)).heap.size := by simp; omega
  clear HS5' HS4 HC4 HR4 HMOD4 HF4 s1 f1
  generalize w4.setCell ⟨sb, 2 + i, none⟩ (.bool false) = w5 at *
  have HS5 := HS5a; have HC5 := HC5a; have HR5 := HR5a; have HMOD5 := HMOD5a; have HF5 := HF5a
  clear HS5a HC5a HR5a HMOD5a HF5a
  have k5 := own_c HC5.out
  obtain ⟨c0, c1, c2, c3, c4, c5⟩ := k5
  unfold CallV.agg at HMU
  go_wp2_with (fail)
  refine (HMU.out _).mono ?_
  rintro e w6 ⟨rfl, hb6⟩
  have HB6 := Lib.hid hb6
  have HS6 := Lib.hid (HS5.out.below hb6 (by omega))
  have HR6 := Lib.hid (HR5.out.below hb6)
  have HMOD6 := Lib.hid (HMOD5.out.below hb6)
  have HF6 : Hid (FrS mb mm sb base w w6) := Lib.hid (HF5.out.trans (FrS.of_below hb6))
  have hz6 := hb6.size
  clear hb6 c0 c1 c2 c3 c4 c5
  cases mu with
  | false =>
    simp at hMM
    go_wp2_with (fail)
    go_end0
    have hB : Below mm w w6 := HF6.out.below hlt1 hms hsb (by omega)
    exact ⟨rfl, ⟨hcm, hms, hsb, HMOD6.out, ⟨_, by rw [HM1.out, ← hMM]; exact HS6.out, (by rw [HQ3.out]; exact HR6.out)⟩, HCA.out.below (hB.mono hcm)⟩, HF6.out⟩
  | true =>
    simp at hMM
    have k10 := HS6.out.1 10 _ scl_must
    have f10 := HS6.out.2 10
    have q1 : IntKind.i64.wrap ((M2 : Int) + (1)) = (M1 : Int) := by rw [IntWalk.i64_in _ (by omega)]; omega
    go_wp2_with (fail)
    go_end0
    have hF : FrS mb mm sb base w _ := HF6.out.trans (FrS.setSb mb mm sb base w6 10 (.int .i64 (M1 : Nat)))
    have hB : Below mm w _ := hF.below hlt1 hms hsb (by omega)
    exact ⟨rfl, ⟨hcm, hms, hsb, HMOD6.out.setC hms hsb 10 _, ⟨_, by rw [HM1.out, ← scl_setM (must := M2)]; exact HS6.out.set 10 (.int .i64 (M1 : Nat)) (by rw [scl_len]; omega), (by rw [HQ3.out]; exact HR6.out.other (by omega) 10 _)⟩, HCA.out.below (hB.mono hcm)⟩, hF⟩
theorem Mp.del {w : World} {b n : Nat} {D : DataW Unit} (h : Mp w b n D) (hm : Maps.size D ≤ n) : ∃ k, k ≤ Maps.size D ∧ Mp w b k D := by
  obtain ⟨es, clock, hb, F, hs, hD⟩ := h
  refine ⟨es.size, ?_, es, clock, hb, F, Nat.le_refl _, hD⟩
  rw [hD]
  simp [Maps.size, length_sorted]
set_option maxHeartbeats 8000000 in
theorem undo_any (mb mm base : Nat) (l : List ByteArray) (s : ByteArray) (w : World) (h : ModelAt w mb mm base (l ++ [s])) (hs : s.size ≤ maxLen) (hl : hasL l s = false) (hll : l.length ≤ 1000) :
    Calls Tryd.prog 42 #[.pointer (some ⟨mb, 0, none⟩)] w fun e w' => e = .returned (.tuple #[]) ∧ ModelAt w' mb mm base l ∧ FrD mb mm base w w' := by
  obtain ⟨lt1, lt2, lt3, v, D, n, ho, hr, hm, hn, hh⟩ := h
  obtain ⟨q3, hq3⟩ : ∃ q, l.length = q := ⟨_, rfl⟩
  rw [List.length_append, List.length_singleton, hq3] at hr hn
  rw [hq3] at hll
  have hsc : scells (l ++ [s]) = scells l ++ [.string s] := scells_app l s
  rw [hsc] at hr
  have HQ3 := Lib.hid hq3
  have hscl : (scells l).length = q3 := by unfold scells; rw [List.length_map]; exact hq3
  clear hq3 hsc
  obtain ⟨a3, cap3, hv3, hc3⟩ := hr.form
  subst hv3
  obtain ⟨g3, hg3⟩ : ∃ g, a3 = some ⟨g, 0, none⟩ := by
    rcases hr.2 with ⟨hq, _⟩ | ⟨g, _, _, hq, _⟩
    · injection hq with _ hq; simp at hq
    · injection hq with hq; exact ⟨g, hq⟩
  subst hg3
  have hgl := hr.lt g3 rfl
  have hcell : w.cell? ⟨g3, q3, none⟩ = some (.string s) := by
    have := World.ownsRow.cells hr (g := g3) rfl q3 (.string s) (by rw [List.getElem?_append_right (by omega), hscl]; simp)
    rw [add_plain, Nat.zero_add] at this
    exact this
  have HSZ : Hid (Maps.size (D.del (keyL s)) ≤ q3) := Lib.hid (by
    have h1 := size_del (World.ownsMap.tidy hm law) (k := keyL s)
    have h3 : Maps.has D (keyL s) = true := (hh s hs).trans (by rw [hasL_snoc]; simp)
    rw [h3] at h1
    simp only [if_true] at h1
    have h2 := World.ownsMap.size_le hm
    omega)
  have HH2 : Hid (∀ t : ByteArray, t.size ≤ maxLen → Maps.has (D.del (keyL s)) (keyL t) = hasL l t) := Lib.hid (fun t ht => by
    by_cases e : s = t
    · subst e
      rw [has_del_same, hl]
    · rw [has_del_other (fun h => e (keyL_inj.1 h).symm), hh t ht, hasL_snoc, decide_eq_false e, Bool.or_false])
  have q1 : IntKind.i64.wrap (((q3 + 1 : Nat) : Int) - 1) = (q3 : Int) := by rw [IntWalk.i64_in _ (by omega)]; omega
  have q2 : IntKind.i64.wrap (q3 : Int) = (q3 : Int) := IntWalk.i64_in _ (by omega)
  have hqc : (q3 : Int) ≤ (cap3 : Int) := by omega
  have hqc2 : (q3 : Int) < (q3 : Int) + 1 := by omega
  have K : Hid (∀ W, Below w.heap.size w W → W.cell? ⟨mb, 0, none⟩ = some (.slice (some ⟨g3, 0, none⟩) (q3 + 1) cap3) ∧ W.cell? ⟨mb, 1, none⟩ = some (.map (some mm)) ∧ W.cell? ⟨g3, q3, none⟩ = some (.string s)) := Lib.hid (fun W hW => ⟨(ho.below hW (by omega)).1 0 _ rfl, (ho.below hW (by omega)).1 1 _ rfl, (hW.cell (p := ⟨g3, q3, none⟩) hgl.2).trans hcell⟩)
  have HO := Lib.hid ho
  have HR : Hid (Row base 9 1 w (.slice (some ⟨g3, 0, none⟩) (q3 + 1) cap3) (q3 + 1) (scells l ++ [.string s])) := Lib.hid hr
  have HM := Lib.hid hm
  have HKL := Lib.hid (keyL_of hs)
  have k0 := ho.1 0 _ rfl
  clear ho hr hm hh hscl hcell
  go_enter Tryd.func42, Tryd.ntmps42
  go_upto_region 1 with (fail)
  clear k0
  refine Mono.region_tail 11 (by kernel_rfl) (by kernel_rfl) (by kernel_rfl) (by kernel_rfl) ?_
  simp only [List.take_succ_cons, List.take_zero]
  refine Mono.hgl_val (v := ?vu0) rfl Mono.rr (fun ρ a W hR hd hf => ?hu0) ?_
  case hu0 =>
    have e0 := Mono.init_get hf (t := 0) (by kernel_rfl)
    clear hd hf
    (go_simp; try with_reducible rfl)
  refine Mono.hgl_val (v := ?vu1) rfl Mono.rr (fun ρ a W hR hd hf => ?hu1) ?_
  case hu1 =>
    have e9 := Mono.dep_val hd hf (t := 9) (k := 0) (by kernel_rfl) rfl
    clear hd hf
    (go_simp; try with_reducible rfl)
  refine Mono.hgl_val (v := ?vu2) rfl Mono.rr (fun ρ a W hR hd hf => ?hu2) ?_
  case hu2 =>
    have e10 := Mono.dep_val hd hf (t := 10) (k := 1) (by kernel_rfl) rfl
    clear hd hf
    (go_simp; try with_reducible rfl)
  refine Mono.hgl_val (v := ?vu3) rfl Mono.rr (fun ρ a W hR hd hf => ?hu3) ?_
  case hu3 =>
    have e11 := Mono.dep_val hd hf (t := 11) (k := 2) (by kernel_rfl) rfl
    have hk := (K.out W hR).2.1
    clear hd hf
    (go_simp; try with_reducible rfl)
  refine Mono.hgl_val (v := ?vu4) rfl Mono.rr (fun ρ a W hR hd hf => ?hu4) ?_
  case hu4 =>
    have e0 := Mono.init_get hf (t := 0) (by kernel_rfl)
    clear hd hf
    (go_simp; try with_reducible rfl)
  refine Mono.hgl_val (v := ?vu5) rfl Mono.rr (fun ρ a W hR hd hf => ?hu5) ?_
  case hu5 =>
    have e13 := Mono.dep_val hd hf (t := 13) (k := 4) (by kernel_rfl) rfl
    clear hd hf
    (go_simp; try with_reducible rfl)
  refine Mono.hgl_val (v := ?vu6) rfl Mono.rr (fun ρ a W hR hd hf => ?hu6) ?_
  case hu6 =>
    have e14 := Mono.dep_val hd hf (t := 14) (k := 5) (by kernel_rfl) rfl
    clear hd hf
    (go_simp; try with_reducible rfl)
  refine Mono.hgl_val (v := ?vu7) rfl Mono.rr (fun ρ a W hR hd hf => ?hu7) ?_
  case hu7 =>
    have e15 := Mono.dep_val hd hf (t := 15) (k := 6) (by kernel_rfl) rfl
    have hk := (K.out W hR).1
    clear hd hf
    (go_simp; try with_reducible rfl)
  refine Mono.hgl_val (v := ?vu8) rfl Mono.rr (fun ρ a W hR hd hf => ?hu8) ?_
  case hu8 =>
    have e2 := Mono.init_get hf (t := 2) (by kernel_rfl)
    clear hd hf
    (go_simp; try with_reducible rfl)
  refine Mono.hgl_val (v := ?vu9) rfl Mono.rr (fun ρ a W hR hd hf => ?hu9) ?_
  case hu9 =>
    have e16 := Mono.dep_val hd hf (t := 16) (k := 7) (by kernel_rfl) rfl
    have e17 := Mono.dep_val hd hf (t := 17) (k := 8) (by kernel_rfl) rfl
    have hk := (K.out W hR).1
    clear hd hf
    (go_simp; try with_reducible rfl)
  refine Mono.hgl_val (v := ?vu10) rfl Mono.rr (fun ρ a W hR hd hf => ?hu10) ?_
  case hu10 =>
    have e18 := Mono.dep_val hd hf (t := 18) (k := 9) (by kernel_rfl) rfl
    have hk := (K.out W hR).2.2
    clear hd hf
    (go_simp; try with_reducible rfl)
  refine Mono.hgl_done rfl (by decide) (fun ρ W hR ht => ?_)
  simp only [List.take_succ_cons, List.take_zero, List.drop_succ_cons, List.drop_zero]
  obtain ⟨du10, du9, du8, du7, du6, du5, du4, du3, du2, du1, du0, _⟩ := ht
  simp only [List.length_cons, List.length_nil, Nat.reduceAdd] at du0 du1 du2 du3 du4 du5 du6 du7 du8 du9 du10
  simp only [Mono.putAll, Nat.reduceAdd, du0, du1, du2, du3, du4, du5, du6, du7, du8, du9, du10, Act.put, List.setIfInBounds_toArray, List.set_cons_zero, List.set_cons_succ]
  clear du0 du1 du2 du3 du4 du5 du6 du7 du8 du9 du10
  have hz0 := hR.size
  have HO1 := Lib.hid (HO.out.below hR (by omega))
  have HR1 := Lib.hid (HR.out.below hR)
  have HM1 : Hid (Mp W mm n D) := Lib.hid (HM.out.below hR)
  have HF1 : Hid (FrD mb mm base w W) := Lib.hid (FrD.of_below hR)
  clear hR HO HR HM K
  go_wp2_with (at_delete; refine wpList_delete_own _ rfl _ _ 67 9 rfl 3 law Tryd.underlying67 _ mm n D rfl HM1.out _ (keyL s) rfl HKL.out ?_; intro w1 hown1 hturn1; have hg := hturn1.grown; have HO2 := Lib.hid (HO1.out.grown hg (by simp; omega) (by omega)); have s1 := HO2.out.1 0 _ rfl; have f1 := HO2.out.2 0)
  have HR2 := Lib.hid ((Row.shrink HR1.out).kept_lt hg (by omega))
  have HM2 : Hid (Mp w1 mm n (D.del (keyL s))) := Lib.hid hown1
  have HF2 := Lib.hid (HF1.out.trans (FrD.of_mm hg))
  have hz1 := hg.size
  go_end0
  obtain ⟨k, hk, hm3⟩ := HM2.out.del (World.ownsMap.size_le HM2.out)
  refine ⟨rfl, ⟨lt1, lt2, by simp; omega, _, _, k, HO2.out.set 0 (.slice (some ⟨g3, 0, none⟩) q3 cap3) (by simp), by rw [HQ3.out]; exact HR2.out.other lt2 0 _, World.ownsMap.setCell hm3 (a := ⟨mb, 0, none⟩) (show mm ≠ mb by omega) _, by rw [HQ3.out]; exact Nat.le_trans hk HSZ.out, HH2.out⟩, HF2.out.trans (FrD.setMb _ _ _ _ _ _)⟩
end Go.Proofs.YtmcbgjkogggneaaDoor
