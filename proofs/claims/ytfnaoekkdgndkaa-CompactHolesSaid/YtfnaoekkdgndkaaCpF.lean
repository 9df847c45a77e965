/- Chains: the end, a span more, of spans, the list. -/
import Derived.Test.YtfnaoekkdgndkaaCpE
import Derived.Deep.RegionLawGrows
namespace Go.Proofs.Ytfnaoekkdgndkaa
set_option maxRecDepth 100000
set_option linter.unusedVariables false
set_option linter.unusedSimpArgs false
open Go.RowKit
set_option maxHeartbeats 1000000 in
theorem spEnd_any (a l : Nat) (w : World) (h : a + l ≤ 1099511627776) :
    Calls Try.prog 22 #[.agg #[.int .i64 (a : Nat), .int .i64 (l : Nat)]] w fun e w' => e = .returned (.int .i64 ((a + l : Nat) : Int)) ∧ Below w.heap.size w w' := by
  have q1 : IntKind.i64.wrap ((a : Int) + (l : Int)) = ((a + l : Nat) : Int) := by rw [IntWalk.i64_in _ (by omega)]; omega
  have hb := (Below.refl w.heap.size w).alloc (Nat.le_refl _) (.cells #[.int .i64 (a : Nat), .int .i64 (l : Nat)] 57)
  have HB := Lib.hid hb
  clear hb
  go_enter Try.func22, Try.ntmps22
  go_wp2_with (fail)
  go_ret
  exact ⟨by rfl, HB.out⟩
set_option maxHeartbeats 4000000 in
theorem chEnd_any (b : Nat) (v : Value) (l : List Sp) (y : Sp) (w : World) (h : ChB w b v (l ++ [y])) (hn : l.length ≤ 1000000) (hb : y.1 + y.2 ≤ 1099511627776) :
    Calls Try.prog 20 #[.pointer (some ⟨b, 0, none⟩)] w fun e w' => e = .returned (.int .i64 ((y.1 + y.2 : Nat) : Int)) ∧ Below w.heap.size w w' := by
  obtain ⟨ho, hbl, hr⟩ := h
  rcases row_form hr with ⟨_, h0, _⟩ | ⟨g, cap, rfl, hcap, hg, hgl⟩
  · simp at h0
  rw [show (l ++ [y]).length = l.length + 1 by simp] at hr hcap ho
  have hy : (l ++ [y])[l.length]? = some y := by simp
  have k0 := fun (W : World) (hW : Below w.heap.size w W) => (ho.below hW hbl).1 0 _ rfl
  have k1 := fun (W : World) (hW : Below w.heap.size w W) => (sp_row (hr.below hW) (by simp) hy)
  obtain ⟨n, hn0⟩ : ∃ z, l.length = z := ⟨_, rfl⟩
  rw [hn0] at k0 k1 hcap hn
  have K0 := Lib.hid k0
  have K1 := Lib.hid k1
  have HE := Lib.hid (fun W : World => spEnd_any y.1 y.2 W hb)
  obtain ⟨y1, y2⟩ := y
  simp only at K1 HE hb ⊢
  clear k0 k1 hr ho hy hn0
  have d1 : ((n + 1 == 0) : Bool) = false := by simp
  have d2 : (((n : Int) + 1 == 0) : Bool) = false := by simp; omega
  have q1 : IntKind.i64.wrap ((n : Int) + 1 - 1) = (n : Int) := by rw [IntWalk.i64_in _ (by omega)]; omega
  have q2 : IntKind.i64.wrap (n : Int) = (n : Int) := IntWalk.i64_in _ (by omega)
  have e0 := K0.out w (Below.refl _ _)
  have b1 : n < n + 1 := by omega
  have b2 : (n : Int) < (n : Int) + 1 := by omega
  go_enter Try.func20, Try.ntmps20
  go_upto_region 3 with (fail)
  clear e0
  refine Mono.region_below (by kernel_rfl) (by kernel_rfl) (by kernel_rfl) ?_
  refine Mono.rgl_val (v := ?va0) rfl Mono.rr (fun ρ a W hR hd hf => ?ha0) ?_
  case ha0 =>
    have e0 := Mono.init_get hf (t := 0) (by kernel_rfl)
    clear hd hf
    (go_simp; try with_reducible rfl)
  refine Mono.rgl_val (v := ?va1) rfl Mono.rr (fun ρ a W hR hd hf => ?ha1) ?_
  case ha1 =>
    have e9 := Mono.dep_val hd hf (t := 9) (k := 0) (by kernel_rfl) rfl
    clear hd hf
    (go_simp; try with_reducible rfl)
  refine Mono.rgl_val (v := ?va2) rfl Mono.rr (fun ρ a W hR hd hf => ?ha2) ?_
  case ha2 =>
    have e10 := Mono.dep_val hd hf (t := 10) (k := 1) (by kernel_rfl) rfl
    clear hd hf
    (go_simp; try with_reducible rfl)
  refine Mono.rgl_val (v := ?va3) rfl Mono.rr (fun ρ a W hR hd hf => ?ha3) ?_
  case ha3 =>
    have e11 := Mono.dep_val hd hf (t := 11) (k := 2) (by kernel_rfl) rfl
    have hk := K0.out W hR
    clear hd hf
    (go_simp; try with_reducible rfl)
  refine Mono.rgl_val (v := ?va4) rfl Mono.rr (fun ρ a W hR hd hf => ?ha4) ?_
  case ha4 =>
    have e0 := Mono.init_get hf (t := 0) (by kernel_rfl)
    clear hd hf
    (go_simp; try with_reducible rfl)
  refine Mono.rgl_val (v := ?va5) rfl Mono.rr (fun ρ a W hR hd hf => ?ha5) ?_
  case ha5 =>
    have e13 := Mono.dep_val hd hf (t := 13) (k := 4) (by kernel_rfl) rfl
    clear hd hf
    (go_simp; try with_reducible rfl)
  refine Mono.rgl_val (v := ?va6) rfl Mono.rr (fun ρ a W hR hd hf => ?ha6) ?_
  case ha6 =>
    have e14 := Mono.dep_val hd hf (t := 14) (k := 5) (by kernel_rfl) rfl
    clear hd hf
    (go_simp; try with_reducible rfl)
  refine Mono.rgl_val (v := ?va7) rfl Mono.rr (fun ρ a W hR hd hf => ?ha7) ?_
  case ha7 =>
    have e15 := Mono.dep_val hd hf (t := 15) (k := 6) (by kernel_rfl) rfl
    have hk := K0.out W hR
    clear hd hf
    (go_simp; try with_reducible rfl)
  refine Mono.rgl_val (v := ?va8) rfl Mono.rr (fun ρ a W hR hd hf => ?ha8) ?_
  case ha8 =>
    have e16 := Mono.dep_val hd hf (t := 16) (k := 7) (by kernel_rfl) rfl
    clear hd hf
    (go_simp; try with_reducible rfl)
  refine Mono.rgl_val (v := ?va9) rfl Mono.rr (fun ρ a W hR hd hf => ?ha9) ?_
  case ha9 =>
    have e17 := Mono.dep_val hd hf (t := 17) (k := 8) (by kernel_rfl) rfl
    clear hd hf
    (go_simp; try with_reducible rfl)
  refine Mono.rgl_val (v := ?va10) rfl Mono.rr (fun ρ a W hR hd hf => ?ha10) ?_
  case ha10 =>
    have e12 := Mono.dep_val hd hf (t := 12) (k := 3) (by kernel_rfl) rfl
    have e18 := Mono.dep_val hd hf (t := 18) (k := 9) (by kernel_rfl) rfl
    clear hd hf
    (go_simp; try with_reducible rfl)
  refine Mono.rgl_val (v := ?va11) rfl Mono.rr (fun ρ a W hR hd hf => ?ha11) ?_
  case ha11 =>
    have e19 := Mono.dep_val hd hf (t := 19) (k := 10) (by kernel_rfl) rfl
    obtain ⟨hk, hk2⟩ := K1.out W hR
    clear hd hf
    (go_simp; try with_reducible rfl)
  refine Mono.rgl_call (fun x _ => x = .int .i64 ((y1 + y2 : Nat) : Int)) rfl Mono.rr (fun _ _ _ h _ => h) (fun ρ a W hR hd hf => ?ha12) ?_
  case ha12 =>
    have e20 := Mono.dep_val hd hf (t := 20) (k := 11) (by kernel_rfl) rfl
    clear hd hf
    refine ⟨_, _, by go_simp; first | rfl | exact ⟨rfl, rfl⟩, ?_⟩
    exact (HE.out W).mono (by rintro e w' ⟨rfl, hb⟩; exact ⟨_, rfl, hb, rfl⟩)
  refine Mono.rgl_val (v := ?va13) rfl Mono.rr (fun ρ a W hR hd hf => ?ha13) ?_
  case ha13 =>
    have e21 := Mono.dep_val hd hf (t := 21) (k := 12) (by kernel_rfl) rfl
    clear hd hf
    (go_simp; try with_reducible rfl)
  refine Mono.rgl_done rfl (fun ρ W hR ht => ?_)
  obtain ⟨da13, da12, da11, da10, da9, da8, da7, da6, da5, da4, da3, da2, da1, da0, _⟩ := ht
  simp only [List.length_cons, List.length_nil, Nat.reduceAdd] at da0 da1 da2 da3 da4 da5 da6 da7 da8 da9 da10 da11 da12 da13
  simp only [Mono.putAll, Nat.reduceAdd, da0, da1, da2, da3, da4, da5, da6, da7, da8, da9, da10, da11, da12, da13, Act.put, List.setIfInBounds_toArray, List.set_cons_zero, List.set_cons_succ]
  clear da0 da1 da2 da3 da4 da5 da6 da7 da8 da9 da10 da11 da12 da13
  have HB := Lib.hid hR
  clear hR
  go_wp2_with (fail)
  go_ret
  exact ⟨by rfl, HB.out⟩
set_option maxHeartbeats 8000000 in
theorem append_any (b : Nat) (v : Value) (l : List Sp) (x : Sp) (w : World) (h : ChB w b v l) (hn : l.length ≤ 1000000) (hbd : BdS l) (hx : x.1 + x.2 ≤ 1099511627776) :
    Calls Try.prog 23 #[.pointer (some ⟨b, 0, none⟩), .agg #[.int .i64 (x.1 : Nat), .int .i64 (x.2 : Nat)]] w fun e w' => e = .returned (.tuple #[]) ∧ ∃ v', ChB w' b v' (app l x) ∧ Below b w w' := by
  obtain ⟨x1, x2⟩ := x
  simp only at hx ⊢
  obtain ⟨wa, hwa⟩ : ∃ z : World, z = w.alloc (.cells #[.int .i64 (x1 : Nat), .int .i64 (x2 : Nat)] 57) := ⟨_, rfl⟩
  have hA : Below w.heap.size w wa := by rw [hwa]; exact (Below.refl _ _).alloc (Nat.le_refl _) _
  have hOX : Own wa w.heap.size [.int .i64 (x1 : Nat), .int .i64 (x2 : Nat)] := by rw [hwa]; exact Own.new_at w _ _ _ rfl
  have hsz : w.heap.size < wa.heap.size := by rw [hwa]; simp
  have hbl := h.2.1
  have HCA := Lib.hid (h.below hA)
  have HA := Lib.hid hA
  have HOX := Lib.hid hOX
  have HBD := Lib.hid hbd
  have y0 := hOX.1 0 _ rfl
  have y1 := hOX.1 1 _ rfl
  clear h hA hOX hbd
  by_cases h0 : x2 = 0
  · have d1 : decide (x2 < 1) = true := decide_eq_true (by omega)
    have d2 : decide ((x2 : Int) < 1) = true := decide_eq_true (by omega)
    have H0 := Lib.hid h0
    clear h0
    go_enter Try.func23, Try.ntmps23
    go_upto_region 1 with (fail)
    rw [← hwa]
    clear hwa
    go_wp2_with (fail)
    (try simp only [Exit.inBlock, Exit.then]); refine bodyPost_ret (results_none rfl _ _ _) rfl ?_
    refine ⟨by rfl, v, ?_, HA.out.mono (Nat.le_of_lt hbl)⟩
    rw [app_zero H0.out]
    exact HCA.out
  have d1 : decide (x2 < 1) = false := decide_eq_false (by omega)
  have d2 : decide ((x2 : Int) < 1) = false := decide_eq_false (by omega)
  have H0 : Hid (x2 ≠ 0) := Lib.hid h0
  clear h0
  rcases snoc_cases l with rfl | ⟨i, y, rfl⟩
  · have hb0 := HCA.out.1
    have HR0 := Lib.hid HCA.out.2.2
    obtain ⟨va, vc, rfl, _⟩ := HCA.out.2.2.form
    have k0 : ∀ W, Below wa.heap.size wa W → W.cell? ⟨b, 0, none⟩ = some (.slice va 0 vc) := fun W hW => (hb0.below hW HCA.out.2.1).1 0 _ rfl
    have K0 := Lib.hid k0
    have hb0W := Lib.hid (fun W (hW : Below wa.heap.size wa W) => hb0.below hW HCA.out.2.1)
    clear k0 hb0
    have d3 : decide ((0 : Int) < ((0 : Nat) : Int)) = false := by simp
    go_enter Try.func23, Try.ntmps23
    go_upto_region 1 with (fail)
    rw [← hwa]
    clear hwa
    go_upto_region 2 with (fail)
    refine Mono.region_below (by kernel_rfl) (by kernel_rfl) (by kernel_rfl) ?_
    refine Mono.rgl_val (v := ?vn0) rfl Mono.rr (fun ρ a W hR hd hf => ?hn0) ?_
    case hn0 =>
      have e0 := Mono.init_get hf (t := 0) (by kernel_rfl)
      clear hd hf
      (go_simp; try with_reducible rfl)
    refine Mono.rgl_val (v := ?vn1) rfl Mono.rr (fun ρ a W hR hd hf => ?hn1) ?_
    case hn1 =>
      have e7 := Mono.dep_val hd hf (t := 7) (k := 0) (by kernel_rfl) rfl
      clear hd hf
      (go_simp; try with_reducible rfl)
    refine Mono.rgl_val (v := ?vn2) rfl Mono.rr (fun ρ a W hR hd hf => ?hn2) ?_
    case hn2 =>
      have e8 := Mono.dep_val hd hf (t := 8) (k := 1) (by kernel_rfl) rfl
      clear hd hf
      (go_simp; try with_reducible rfl)
    refine Mono.rgl_val (v := ?vn3) rfl Mono.rr (fun ρ a W hR hd hf => ?hn3) ?_
    case hn3 =>
      have e9 := Mono.dep_val hd hf (t := 9) (k := 2) (by kernel_rfl) rfl
      have hk := K0.out W hR
      clear hd hf
      (go_simp; try with_reducible rfl)
    refine Mono.rgl_val (v := ?vn4) rfl Mono.rr (fun ρ a W hR hd hf => ?hn4) ?_
    case hn4 =>
      have e10 := Mono.dep_val hd hf (t := 10) (k := 3) (by kernel_rfl) rfl
      clear hd hf
      (go_simp; try with_reducible rfl)
    refine Mono.rgl_val (v := ?vn5) rfl Mono.rr (fun ρ a W hR hd hf => ?hn5) ?_
    case hn5 =>
      have e11 := Mono.dep_val hd hf (t := 11) (k := 4) (by kernel_rfl) rfl
      clear hd hf
      (go_simp; try with_reducible rfl)
    refine Mono.rgl_val (v := ?vn6) rfl Mono.rr (fun ρ a W hR hd hf => ?hn6) ?_
    case hn6 =>
      have e12 := Mono.dep_val hd hf (t := 12) (k := 5) (by kernel_rfl) rfl
      clear hd hf
      (go_simp; try with_reducible rfl)
    refine Mono.rgl_skip rfl (by decide) (fun ρ W hd => Mono.guard_val hd (t := 13) (k := 6) (by kernel_rfl) rfl) ?_
    refine Mono.rgl_skip rfl (by decide) (fun ρ W hd => Mono.guard_val hd (t := 13) (k := 6) (by kernel_rfl) rfl) ?_
    refine Mono.rgl_skip rfl (by decide) (fun ρ W hd => Mono.guard_val hd (t := 13) (k := 6) (by kernel_rfl) rfl) ?_
    refine Mono.rgl_skip rfl (by decide) (fun ρ W hd => Mono.guard_val hd (t := 13) (k := 6) (by kernel_rfl) rfl) ?_
    refine Mono.rgl_skip rfl (by decide) (fun ρ W hd => Mono.guard_val hd (t := 13) (k := 6) (by kernel_rfl) rfl) ?_
    refine Mono.rgl_val (v := ?vn12) rfl Mono.rr (fun ρ a W hR hd hf => ?hn12) ?_
    case hn12 =>
      have e13 := Mono.dep_val hd hf (t := 13) (k := 6) (by kernel_rfl) rfl
      have e18 := Mono.dep_val hd hf (t := 18) (k := 11) (by kernel_rfl) rfl
      clear hd hf
      (go_simp; try with_reducible rfl)
    refine Mono.rgl_done rfl (fun ρ W hR ht => ?_)
    obtain ⟨dn12, dn11, dn10, dn9, dn8, dn7, dn6, dn5, dn4, dn3, dn2, dn1, dn0, _⟩ := ht
    simp only [List.length_cons, List.length_nil, Nat.reduceAdd] at dn0 dn1 dn2 dn3 dn4 dn5 dn6 dn7 dn8 dn9 dn10 dn11 dn12
    simp only [Mono.putAll, Nat.reduceAdd, dn0, dn1, dn2, dn3, dn4, dn5, dn6, dn7, dn8, dn9, dn10, dn11, dn12, Act.put, List.setIfInBounds_toArray, List.set_cons_zero, List.set_cons_succ]
    clear dn0 dn1 dn2 dn3 dn4 dn5 dn6 dn7 dn8 dn9 dn10 dn11 dn12

    have hoW := hb0W.out W hR
    have HOXW := Lib.hid (HOX.out.below hR hsz)
    have HR := Lib.hid (HR0.out.below hR)
    have hsW := hR.size
    have HBW : Hid (Below b w W) := Lib.hid ((HA.out.trans (hR.mono (Nat.le_of_lt hsz))).mono (by omega))
    clear hR y0 y1
    have HOB := Lib.hid (hoW)
    have hbW : b < W.heap.size := by omega
    have ob := HOB.out.1 0 _ rfl
    have oz := HOXW.out.1 0 _ rfl
    have oz2 := HOXW.out.1 1 _ rfl
    have HX := Lib.hid (show Below W.heap.size W (W.drew.alloc (.cells #[.int .i64 (x1 : Nat), .int .i64 (x2 : Nat)] 57)) from Below.alloc ((Below.refl _ W).drew) (Nat.le_refl _) _)
    have HRX := Lib.hid (HR.out.below HX.out)
    have HZX : Hid (b + 1 ≤ (W.drew.alloc (.cells #[.int .i64 (x1 : Nat), .int .i64 (x2 : Nat)] 57)).heap.size) := Lib.hid (by have := HX.out.size; omega)
    go_upto_region 4 with (fail)
    go_region_law (first
      | (refine step_append_row Try.underlying43 info_sp rfl (by decide) rfl (.tmp 42) (.tmp 44) rfl rfl HRX.out rfl (Sl.new W.drew 2 1 [.int .i64 (x1 : Nat), .int .i64 (x2 : Nat)] 57 rfl) (by intro u hu; simp at hu; rcases hu with rfl | rfl <;> rfl) (by omega) (by omega) HZX.out ?_
         intro v45 w45 hr45 hb45 hg45
         obtain ⟨a45, c45, hv45, _⟩ := hr45.form
         subst hv45
         have HR45 := Lib.hid hr45
         have HB45 : Hid (Below (b + 1) (W.drew.alloc (.cells #[.int .i64 (x1 : Nat), .int .i64 (x2 : Nat)] 57)) w45) := Lib.hid hb45
         have oA : Own w45 b [.slice va 0 vc] := (HOB.out.below HX.out (by omega)).below hb45 (by omega)
         have s1 := oA.1 0 _ rfl
         have s2 := oA.2 0
         have HOA := Lib.hid oA
         clear hr45 hb45 hg45 oA))
    all_goals
      go_wp2_with (fail)
      go_end0
      refine ⟨by rfl, _, ⟨HOA.out.set 0 _ (by simp), ?_, ?_⟩, ?_⟩
      · have h1 := HB45.out.size
        have h2 := HX.out.size
        simp
        omega
      · have := HR45.out.other (c := b) (by omega) 0 (.slice a45 (0 + 1) c45)
        rw [app_nil H0.out]; exact this
      · exact (HBW.out.trans ((HX.out.mono (by have := HBW.out.size; omega)).trans (HB45.out.mono (by omega)))).setCell (p := ⟨b, 0, none⟩) (Nat.le_refl _) _
  · have hlen : (i ++ [y]).length = i.length + 1 := by simp
    have hy : (i ++ [y])[i.length]? = some y := by simp
    have hyb := HBD.out y (by simp)
    have hb0 := HCA.out.1
    rcases row_form HCA.out.2.2 with ⟨_, hq, _⟩ | ⟨g, vc, rfl, hcap, hgb, hgl⟩
    · simp at hq
    have hr0 := HCA.out.2.2
    have HEN := Lib.hid (fun (W : World) (hW : Below wa.heap.size wa W) => chEnd_any b _ i y W (HCA.out.below hW) (by omega) hyb)
    have k0 : ∀ W, Below wa.heap.size wa W → W.cell? ⟨b, 0, none⟩ = some (.slice (some ⟨g, 0, none⟩) (i ++ [y]).length vc) := fun W hW => (hb0.below hW HCA.out.2.1).1 0 _ rfl
    rw [hlen] at hr0 hcap k0 hb0
    obtain ⟨n, hn0⟩ : ∃ z, i.length = z := ⟨_, rfl⟩
    rw [hlen, hn0] at hn
    rw [hn0] at hr0 hcap k0 hb0 hy
    have HN0 := Lib.hid hn0
    have HY := Lib.hid hy
    have HR0 := Lib.hid hr0
    have K0 := Lib.hid k0
    have hb0W := Lib.hid (fun W (hW : Below wa.heap.size wa W) => hb0.below hW HCA.out.2.1)
    have KG := Lib.hid (fun W (hW : Below wa.heap.size wa W) => sp_row (hr0.below hW) (by simp; omega) hy)
    have KX := Lib.hid (fun W (hW : Below wa.heap.size wa W) => (HOX.out.below hW hsz).1 0 _ rfl)
    clear k0 hb0 hr0 hlen hn0 hy hcap HBD
    have d3 : decide ((0 : Int) < (n : Int) + 1) = true := decide_eq_true (by omega)
    have d4 : decide (0 < n + 1) = true := decide_eq_true (by omega)
    have q1 : IntKind.i64.wrap ((n : Int) + 1 - 1) = (n : Int) := by rw [IntWalk.i64_in _ (by omega)]; omega
    have q2 : IntKind.i64.wrap (n : Int) = (n : Int) := IntWalk.i64_in _ (by omega)
    have b1 : n < n + 1 := by omega
    have b2 : (n : Int) < (n : Int) + 1 := by omega
    obtain ⟨y1', y2'⟩ := y
    simp only at HEN KG hyb
    go_enter Try.func23, Try.ntmps23
    go_upto_region 1 with (fail)
    rw [← hwa]
    clear hwa
    go_upto_region 2 with (fail)
    clear y0 y1
    by_cases hj : y1' + y2' = x1
    · have dj : (((y1' + y2' : Nat) : Int) == (x1 : Int)) = true := by simp; omega
      have dj2 : ((y1' + y2') == x1) = true := by simpa using hj
      have HJ := Lib.hid hj
      clear hj
      refine Mono.region_below (by kernel_rfl) (by kernel_rfl) (by kernel_rfl) ?_
      refine Mono.rgl_val (v := ?vj0) rfl Mono.rr (fun ρ a W hR hd hf => ?hj0) ?_
      case hj0 =>
        have e0 := Mono.init_get hf (t := 0) (by kernel_rfl)
        clear hd hf
        (go_simp; try with_reducible rfl)
      refine Mono.rgl_val (v := ?vj1) rfl Mono.rr (fun ρ a W hR hd hf => ?hj1) ?_
      case hj1 =>
        have e7 := Mono.dep_val hd hf (t := 7) (k := 0) (by kernel_rfl) rfl
        clear hd hf
        (go_simp; try with_reducible rfl)
      refine Mono.rgl_val (v := ?vj2) rfl Mono.rr (fun ρ a W hR hd hf => ?hj2) ?_
      case hj2 =>
        have e8 := Mono.dep_val hd hf (t := 8) (k := 1) (by kernel_rfl) rfl
        clear hd hf
        (go_simp; try with_reducible rfl)
      refine Mono.rgl_val (v := ?vj3) rfl Mono.rr (fun ρ a W hR hd hf => ?hj3) ?_
      case hj3 =>
        have e9 := Mono.dep_val hd hf (t := 9) (k := 2) (by kernel_rfl) rfl
        have hk := K0.out W hR
        clear hd hf
        (go_simp; try with_reducible rfl)
      refine Mono.rgl_val (v := ?vj4) rfl Mono.rr (fun ρ a W hR hd hf => ?hj4) ?_
      case hj4 =>
        have e10 := Mono.dep_val hd hf (t := 10) (k := 3) (by kernel_rfl) rfl
        clear hd hf
        (go_simp; try with_reducible rfl)
      refine Mono.rgl_val (v := ?vj5) rfl Mono.rr (fun ρ a W hR hd hf => ?hj5) ?_
      case hj5 =>
        have e11 := Mono.dep_val hd hf (t := 11) (k := 4) (by kernel_rfl) rfl
        clear hd hf
        (go_simp; try with_reducible rfl)
      refine Mono.rgl_val (v := ?vj6) rfl Mono.rr (fun ρ a W hR hd hf => ?hj6) ?_
      case hj6 =>
        have e12 := Mono.dep_val hd hf (t := 12) (k := 5) (by kernel_rfl) rfl
        clear hd hf
        (go_simp; try with_reducible rfl)
      refine Mono.rgl_valg (v := ?vj7) rfl Mono.rr (fun ρ W hd => Mono.guard_val hd (t := 13) (k := 6) (by kernel_rfl) rfl) (fun ρ a W hR hd hf => ?hj7) ?_
      case hj7 =>
        have e0 := Mono.init_get hf (t := 0) (by kernel_rfl)
        clear hd hf
        (go_simp; try with_reducible rfl)
      refine Mono.rgl_callg (fun x _ => x = .int .i64 ((y1' + y2' : Nat) : Int)) rfl Mono.rr (fun _ _ _ h _ => h) (fun ρ W hd => Mono.guard_val hd (t := 13) (k := 6) (by kernel_rfl) rfl) (fun ρ a W hR hd hf => ?hj8) ?_
      case hj8 =>
        have e14 := Mono.dep_val hd hf (t := 14) (k := 7) (by kernel_rfl) rfl
        clear hd hf
        refine ⟨_, _, by go_simp; first | rfl | exact ⟨rfl, rfl⟩, ?_⟩
        exact (HEN.out W hR).mono (by rintro e w' ⟨rfl, hb⟩; exact ⟨_, rfl, hb, rfl⟩)
      refine Mono.rgl_valg (v := ?vj9) rfl Mono.rr (fun ρ W hd => Mono.guard_val hd (t := 13) (k := 6) (by kernel_rfl) rfl) (fun ρ a W hR hd hf => ?hj9) ?_
      case hj9 =>
        have e3 := Mono.init_get hf (t := 3) (by kernel_rfl)
        clear hd hf
        (go_simp; try with_reducible rfl)
      refine Mono.rgl_valg (v := ?vj10) rfl Mono.rr (fun ρ W hd => Mono.guard_val hd (t := 13) (k := 6) (by kernel_rfl) rfl) (fun ρ a W hR hd hf => ?hj10) ?_
      case hj10 =>
        have e16 := Mono.dep_val hd hf (t := 16) (k := 9) (by kernel_rfl) rfl
        have hk := KX.out W hR
        clear hd hf
        (go_simp; try with_reducible rfl)
      refine Mono.rgl_valg (v := ?vj11) rfl Mono.rr (fun ρ W hd => Mono.guard_val hd (t := 13) (k := 6) (by kernel_rfl) rfl) (fun ρ a W hR hd hf => ?hj11) ?_
      case hj11 =>
        have e15 := Mono.dep_val hd hf (t := 15) (k := 8) (by kernel_rfl) rfl
        have e17 := Mono.dep_val hd hf (t := 17) (k := 10) (by kernel_rfl) rfl
        clear hd hf
        (go_simp; try with_reducible rfl)
      refine Mono.rgl_val (v := ?vj12) rfl Mono.rr (fun ρ a W hR hd hf => ?hj12) ?_
      case hj12 =>
        have e13 := Mono.dep_val hd hf (t := 13) (k := 6) (by kernel_rfl) rfl
        have e18 := Mono.dep_val hd hf (t := 18) (k := 11) (by kernel_rfl) rfl
        clear hd hf
        (go_simp; try with_reducible rfl)
      refine Mono.rgl_done rfl (fun ρ W hR ht => ?_)
      obtain ⟨dj12, dj11, dj10, dj9, dj8, dj7, dj6, dj5, dj4, dj3, dj2, dj1, dj0, _⟩ := ht
      simp only [List.length_cons, List.length_nil, Nat.reduceAdd] at dj0 dj1 dj2 dj3 dj4 dj5 dj6 dj7 dj8 dj9 dj10 dj11 dj12
      simp only [Mono.putAll, Nat.reduceAdd, dj0, dj1, dj2, dj3, dj4, dj5, dj6, dj7, dj8, dj9, dj10, dj11, dj12, Act.put, List.setIfInBounds_toArray, List.set_cons_zero, List.set_cons_succ]
      clear dj0 dj1 dj2 dj3 dj4 dj5 dj6 dj7 dj8 dj9 dj10 dj11 dj12
      have HOB := Lib.hid (hb0W.out W hR)
      have HRW := Lib.hid (HR0.out.below hR)
      have hsW := hR.size
      have HBW : Hid (Below b w W) := Lib.hid ((HA.out.trans (hR.mono (Nat.le_of_lt hsz))).mono (by omega))
      have ob := HOB.out.1 0 _ rfl
      obtain ⟨g1, g2⟩ := KG.out W hR
      have x1c := (HOX.out.below hR hsz).1 1 _ rfl
      have fz := HRW.out.frozenAt (n * 2 + 1)
      have q3 : IntKind.i64.wrap ((y2' : Int) + (x2 : Int)) = ((y2' + x2 : Nat) : Int) := by rw [IntWalk.i64_in _ (by omega)]; omega
      clear hR
      go_upto_region 3 with (fail)
      go_region
      all_goals
        go_wp2_with (fail)
        (try simp only [Exit.inBlock, Exit.then]); refine bodyPost_ret (results_none rfl _ _ _) rfl ?_
        refine ⟨by rfl, _, ⟨(HOB.out.other (c := g) (by omega) (n * 2 + 1) (.int .i64 ((y2' + x2 : Nat) : Int))).drewN 1, ?_, ?_⟩, ?_⟩
        · simp; omega
        · have h1 := (HRW.out.stored (n * 2 + 1) (.int .i64 ((y2' + x2 : Nat) : Int))).1
          rw [lc_set spC_len (a' := (y1', y2' + x2)) HY.out (by omega) rfl] at h1
          have e : (i ++ [(y1', y2')]).set n (y1', y2' + x2) = i ++ [(y1', y2' + x2)] := by rw [← HN0.out]; simp
          rw [e] at h1
          rw [app_join H0.out HJ.out]
          have e2 : (i ++ [(y1', y2' + x2)]).length = n + 1 := by simp [HN0.out]
          rw [e2]
          exact h1
        · exact below_drewN (HBW.out.setCell (p := ⟨g, n * 2 + 1, none⟩) (by show b ≤ g; omega) _) 1
    · have dj : (((y1' + y2' : Nat) : Int) == (x1 : Int)) = false := by simp; omega
      have dj2 : ((y1' + y2') == x1) = false := by simpa using hj
      have HJ := Lib.hid hj
      clear hj
      refine Mono.region_below (by kernel_rfl) (by kernel_rfl) (by kernel_rfl) ?_
      refine Mono.rgl_val (v := ?vk0) rfl Mono.rr (fun ρ a W hR hd hf => ?hk0) ?_
      case hk0 =>
        have e0 := Mono.init_get hf (t := 0) (by kernel_rfl)
        clear hd hf
        (go_simp; try with_reducible rfl)
      refine Mono.rgl_val (v := ?vk1) rfl Mono.rr (fun ρ a W hR hd hf => ?hk1) ?_
      case hk1 =>
        have e7 := Mono.dep_val hd hf (t := 7) (k := 0) (by kernel_rfl) rfl
        clear hd hf
        (go_simp; try with_reducible rfl)
      refine Mono.rgl_val (v := ?vk2) rfl Mono.rr (fun ρ a W hR hd hf => ?hk2) ?_
      case hk2 =>
        have e8 := Mono.dep_val hd hf (t := 8) (k := 1) (by kernel_rfl) rfl
        clear hd hf
        (go_simp; try with_reducible rfl)
      refine Mono.rgl_val (v := ?vk3) rfl Mono.rr (fun ρ a W hR hd hf => ?hk3) ?_
      case hk3 =>
        have e9 := Mono.dep_val hd hf (t := 9) (k := 2) (by kernel_rfl) rfl
        have hk := K0.out W hR
        clear hd hf
        (go_simp; try with_reducible rfl)
      refine Mono.rgl_val (v := ?vk4) rfl Mono.rr (fun ρ a W hR hd hf => ?hk4) ?_
      case hk4 =>
        have e10 := Mono.dep_val hd hf (t := 10) (k := 3) (by kernel_rfl) rfl
        clear hd hf
        (go_simp; try with_reducible rfl)
      refine Mono.rgl_val (v := ?vk5) rfl Mono.rr (fun ρ a W hR hd hf => ?hk5) ?_
      case hk5 =>
        have e11 := Mono.dep_val hd hf (t := 11) (k := 4) (by kernel_rfl) rfl
        clear hd hf
        (go_simp; try with_reducible rfl)
      refine Mono.rgl_val (v := ?vk6) rfl Mono.rr (fun ρ a W hR hd hf => ?hk6) ?_
      case hk6 =>
        have e12 := Mono.dep_val hd hf (t := 12) (k := 5) (by kernel_rfl) rfl
        clear hd hf
        (go_simp; try with_reducible rfl)
      refine Mono.rgl_valg (v := ?vk7) rfl Mono.rr (fun ρ W hd => Mono.guard_val hd (t := 13) (k := 6) (by kernel_rfl) rfl) (fun ρ a W hR hd hf => ?hk7) ?_
      case hk7 =>
        have e0 := Mono.init_get hf (t := 0) (by kernel_rfl)
        clear hd hf
        (go_simp; try with_reducible rfl)
      refine Mono.rgl_callg (fun x _ => x = .int .i64 ((y1' + y2' : Nat) : Int)) rfl Mono.rr (fun _ _ _ h _ => h) (fun ρ W hd => Mono.guard_val hd (t := 13) (k := 6) (by kernel_rfl) rfl) (fun ρ a W hR hd hf => ?hk8) ?_
      case hk8 =>
        have e14 := Mono.dep_val hd hf (t := 14) (k := 7) (by kernel_rfl) rfl
        clear hd hf
        refine ⟨_, _, by go_simp; first | rfl | exact ⟨rfl, rfl⟩, ?_⟩
        exact (HEN.out W hR).mono (by rintro e w' ⟨rfl, hb⟩; exact ⟨_, rfl, hb, rfl⟩)
      refine Mono.rgl_valg (v := ?vk9) rfl Mono.rr (fun ρ W hd => Mono.guard_val hd (t := 13) (k := 6) (by kernel_rfl) rfl) (fun ρ a W hR hd hf => ?hk9) ?_
      case hk9 =>
        have e3 := Mono.init_get hf (t := 3) (by kernel_rfl)
        clear hd hf
        (go_simp; try with_reducible rfl)
      refine Mono.rgl_valg (v := ?vk10) rfl Mono.rr (fun ρ W hd => Mono.guard_val hd (t := 13) (k := 6) (by kernel_rfl) rfl) (fun ρ a W hR hd hf => ?hk10) ?_
      case hk10 =>
        have e16 := Mono.dep_val hd hf (t := 16) (k := 9) (by kernel_rfl) rfl
        have hk := KX.out W hR
        clear hd hf
        (go_simp; try with_reducible rfl)
      refine Mono.rgl_valg (v := ?vk11) rfl Mono.rr (fun ρ W hd => Mono.guard_val hd (t := 13) (k := 6) (by kernel_rfl) rfl) (fun ρ a W hR hd hf => ?hk11) ?_
      case hk11 =>
        have e15 := Mono.dep_val hd hf (t := 15) (k := 8) (by kernel_rfl) rfl
        have e17 := Mono.dep_val hd hf (t := 17) (k := 10) (by kernel_rfl) rfl
        clear hd hf
        (go_simp; try with_reducible rfl)
      refine Mono.rgl_val (v := ?vk12) rfl Mono.rr (fun ρ a W hR hd hf => ?hk12) ?_
      case hk12 =>
        have e13 := Mono.dep_val hd hf (t := 13) (k := 6) (by kernel_rfl) rfl
        have e18 := Mono.dep_val hd hf (t := 18) (k := 11) (by kernel_rfl) rfl
        clear hd hf
        (go_simp; try with_reducible rfl)
      refine Mono.rgl_done rfl (fun ρ W hR ht => ?_)
      obtain ⟨dk12, dk11, dk10, dk9, dk8, dk7, dk6, dk5, dk4, dk3, dk2, dk1, dk0, _⟩ := ht
      simp only [List.length_cons, List.length_nil, Nat.reduceAdd] at dk0 dk1 dk2 dk3 dk4 dk5 dk6 dk7 dk8 dk9 dk10 dk11 dk12
      simp only [Mono.putAll, Nat.reduceAdd, dk0, dk1, dk2, dk3, dk4, dk5, dk6, dk7, dk8, dk9, dk10, dk11, dk12, Act.put, List.setIfInBounds_toArray, List.set_cons_zero, List.set_cons_succ]
      clear dk0 dk1 dk2 dk3 dk4 dk5 dk6 dk7 dk8 dk9 dk10 dk11 dk12
      have hoW := hb0W.out W hR
      have HOXW := Lib.hid (HOX.out.below hR hsz)
      have HR := Lib.hid (HR0.out.below hR)
      have hsW := hR.size
      have HBW : Hid (Below b w W) := Lib.hid ((HA.out.trans (hR.mono (Nat.le_of_lt hsz))).mono (by omega))
      clear hR
      have HOB := Lib.hid (hoW)
      have hbW : b < W.heap.size := by omega
      have ob := HOB.out.1 0 _ rfl
      have oz := HOXW.out.1 0 _ rfl
      have oz2 := HOXW.out.1 1 _ rfl
      have HX := Lib.hid (show Below W.heap.size W (W.drew.alloc (.cells #[.int .i64 (x1 : Nat), .int .i64 (x2 : Nat)] 57)) from Below.alloc ((Below.refl _ W).drew) (Nat.le_refl _) _)
      have HRX := Lib.hid (HR.out.below HX.out)
      have HZX : Hid (b + 1 ≤ (W.drew.alloc (.cells #[.int .i64 (x1 : Nat), .int .i64 (x2 : Nat)] 57)).heap.size) := Lib.hid (by have := HX.out.size; omega)
      go_upto_region 4 with (fail)
      go_region_law (first
        | (refine step_append_row Try.underlying43 info_sp rfl (by decide) rfl (.tmp 42) (.tmp 44) rfl rfl HRX.out rfl (Sl.new W.drew 2 1 [.int .i64 (x1 : Nat), .int .i64 (x2 : Nat)] 57 rfl) (by intro u hu; simp at hu; rcases hu with rfl | rfl <;> rfl) (by omega) (by omega) HZX.out ?_
           intro v45 w45 hr45 hb45 hg45
           obtain ⟨a45, c45, hv45, _⟩ := hr45.form
           subst hv45
           have HR45 := Lib.hid hr45
           have HB45 : Hid (Below (b + 1) (W.drew.alloc (.cells #[.int .i64 (x1 : Nat), .int .i64 (x2 : Nat)] 57)) w45) := Lib.hid hb45
           have oA : Own w45 b [.slice (some ⟨g, 0, none⟩) (n + 1) vc] := (HOB.out.below HX.out (by omega)).below hb45 (by omega)
           have s1 := oA.1 0 _ rfl
           have s2 := oA.2 0
           have HOA := Lib.hid oA
           clear hr45 hb45 hg45 oA))
      all_goals
        go_wp2_with (fail)
        go_end0
        refine ⟨by rfl, _, ⟨HOA.out.set 0 _ (by simp), ?_, ?_⟩, ?_⟩
        · have h1 := HB45.out.size
          have h2 := HX.out.size
          simp
          omega
        · have := HR45.out.other (c := b) (by omega) 0 (.slice a45 (n + 1 + 1) c45)
          have e2 : (i ++ [(y1', y2')] ++ [(x1, x2)]).length = n + 1 + 1 := by simp [HN0.out]
          rw [app_new H0.out HJ.out, e2, lc_app]; exact this
        · exact (HBW.out.trans ((HX.out.mono (by have := HBW.out.size; omega)).trans (HB45.out.mono (by omega)))).setCell (p := ⟨b, 0, none⟩) (Nat.le_refl _) _
set_option maxHeartbeats 4000000 in
theorem of_any (l : List Sp) (v : Value) (w : World) (h : Sl w w.heap.size 2 v l.length (lc spC l)) (hn : l.length ≤ 1000) (hbd : BdS l) :
    Calls Try.prog 19 #[v] w fun e w' => ∃ p, e = .returned p ∧ Chn w.heap.size w' p (joinL l) ∧ Below w.heap.size w w' := by
  obtain ⟨a, cap, rfl, hcap⟩ := h.form
  have HS := Lib.hid (fun (W : World) (hW : Below w.heap.size w W) => h.below hW)
  have HBD := Lib.hid hbd
  obtain ⟨n, hn0⟩ : ∃ z, l.length = z := ⟨_, rfl⟩
  rw [hn0] at HS hcap hn ⊢
  have HN0 := Lib.hid hn0
  clear h hbd hn0
  obtain ⟨wa, hwa⟩ : ∃ z : World, z = w.alloc (.cells #[.slice none 0 0] 68) := ⟨_, rfl⟩
  have HCA : Hid (ChB wa w.heap.size (.slice none 0 0) []) := Lib.hid (by rw [hwa]; exact ⟨Own.new_at w _ _ _ rfl, by simp, Row.nil⟩)
  have HA : Hid (Below w.heap.size w wa) := Lib.hid (by rw [hwa]; exact (Below.refl _ _).alloc (Nat.le_refl _) _)
  go_enter Try.func19, Try.ntmps19
  go_upto_region 2 with (fail)
  rw [← hwa]
  clear hwa
  go_wp2_with (fail)
  go_loopw [10] (fun i wr => ∃ (j : Nat) (v' : Value), i = .int .i64 j ∧ j ≤ n ∧ Hid (ChB wr w.heap.size v' (joinL (l.take j))) ∧ Hid (Below w.heap.size w wr)) (fun i _ => n - (intOf i).toNat)
  case atStart => exact ⟨0, _, rfl, Nat.zero_le _, HCA, HA⟩
  case round =>
    obtain ⟨j, v', rfl, hj, HC, HB⟩ := hrel
    obtain ⟨wo, rfl⟩ : ∃ z : World, z = wr := ⟨_, rfl⟩
    by_cases hlt : j < n
    rotate_left
    · have d1 : decide (j < n) = false := decide_eq_false hlt
      have d2 : decide ((j : Int) < (n : Int)) = false := decide_eq_false (by omega)
      obtain rfl : j = n := by omega
      go_wp2_with (fail)
      go_ret
      refine ⟨_, rfl, ⟨_, v', rfl, Nat.le_refl _, ?_⟩, HB.out⟩
      have := HC.out
      rwa [List.take_of_length_le (by rw [HN0.out]; exact Nat.le_refl _)] at this
    have d1 : decide (j < n) = true := decide_eq_true hlt
    have d2 : decide ((j : Int) < (n : Int)) = true := decide_eq_true (by omega)
    have q1 : IntKind.i64.wrap ((j : Int) + 1) = (j : Int) + 1 := IntWalk.i64_in _ (by omega)
    have hbi : (j : Int) < (n : Int) := by omega
    have hzo : w.heap.size ≤ wo.heap.size := HB.out.size
    obtain ⟨b, off, rfl, hk0⟩ := sl_cells (HS.out wo HB.out) (by omega)
    clear hk0
    obtain ⟨x, hx⟩ : ∃ x, l[j]? = some x := ⟨_, List.getElem?_eq_getElem (by rw [HN0.out]; exact hlt)⟩
    have hxb := HBD.out x (List.mem_of_getElem? hx)
    obtain ⟨k0, k1⟩ := sp_cells (HS.out wo HB.out) HN0.out.symm hx
    have hlen : (joinL (l.take j)).length ≤ 1000000 := by
      have h1 := join_len (l.take j)
      rw [List.length_take] at h1
      omega
    have hbj : BdS (joinL (l.take j)) := BdS.join fun s hs => HBD.out s (List.mem_of_mem_take hs)
    have hjs : joinL (l.take (j + 1)) = app (joinL (l.take j)) x := by rw [List.take_add_one, hx]; exact joinL_snoc _ _
    obtain ⟨wx, hwx⟩ : ∃ z : World, z = wo.alloc (.cells #[.int .i64 (x.1 : Nat), .int .i64 (x.2 : Nat)] 57) := ⟨_, rfl⟩
    have hbx : Below wo.heap.size wo wx := by rw [hwx]; exact (Below.refl _ _).alloc (Nat.le_refl _) _
    have hox : Own wx wo.heap.size [.int .i64 (x.1 : Nat), .int .i64 (x.2 : Nat)] := by rw [hwx]; exact Own.new_at wo _ _ _ rfl
    have z0 := hox.1 0 _ rfl
    have z1 := hox.1 1 _ rfl
    have HAP := Lib.hid (append_any w.heap.size v' (joinL (l.take j)) x wx (HC.out.below hbx) hlen hbj hxb)
    have HJS := Lib.hid hjs
    have HBX := Lib.hid (HB.out.trans (hbx.mono hzo))
    clear hlen hbj hjs hbx hox hx hxb
    obtain ⟨x1, x2⟩ := x
    simp only at k0 k1 hwx z0 z1 HAP
    go_upto_region 5 with (fail)
    rw [← hwx]
    clear hwx k0 k1
    go_wp2_with (fail)
    refine HAP.out.mono ?_
    rintro e w2 ⟨rfl, v2, hc2, hb2⟩
    have HC2 : Hid (ChB w2 w.heap.size v2 (joinL (l.take (j + 1)))) := Lib.hid (by rw [HJS.out]; exact hc2)
    have HB2 := Lib.hid (HBX.out.trans hb2)
    clear hc2 hb2 HAP z0 z1
    go_wp2_with (fail)
    go_roundw
    case rel => exact ⟨j + 1, v2, rfl, hlt, HC2, HB2⟩
    case measure => simp [intOf] <;> omega
set_option maxHeartbeats 1000000 in
theorem list_any (base : Nat) (p : Value) (l : List Sp) (w : World) (h : Chn base w p l) (hn : l.length ≤ 1000000) :
    Calls Try.prog 12 #[p] w fun e w' => ∃ v, e = .returned v ∧ Row w.heap.size 57 2 w' v l.length (lc spC l) ∧ Below w.heap.size w w' := by
  obtain ⟨b, v, rfl, _, ho, hbl, hr⟩ := h
  have k0 := ho.1 0 _ rfl
  have HS := Lib.hid hr.sl
  have HONE := Lib.hid (sp_one l)
  clear ho hr
  go_enter Try.func12, Try.ntmps12
  go_wp2_with (at_builtin; refine append_row Try.underlying43 info_sp rfl (by decide) rfl _ _ rfl rfl (Row.nil (base := w.heap.size)) rfl HS.out HONE.out ?_ ?_ ?_ ?_; omega; omega; exact Nat.le_refl _)
  intro v6 w6 hr6 hb6
  have HR6 := Lib.hid hr6
  have HB6 := Lib.hid hb6
  clear hr6 hb6
  go_wp2_with (fail)
  go_ret
  exact ⟨_, rfl, HR6.out, HB6.out⟩
end Go.Proofs.Ytfnaoekkdgndkaa
