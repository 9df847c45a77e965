/- find. -/
import Derived.Test.YtmcbgjkogggneaaDoorLsF
namespace Go.Proofs.YtmcbgjkogggneaaDoor
set_option maxRecDepth 100000
set_option linter.unusedVariables false
set_option linter.unusedSimpArgs false
open Go.RowKit Go.Maps Go.WideMaps
theorem tells_cases (l : List ByteArray) (c : CallV) (ns : List ByteArray) : (tells l c ns).1 = l ∨ ((tells l c ns).1 = l ++ [c.name] ∧ hasL l c.name = false) := by
  unfold tells
  split
  · split
    · exact .inl rfl
    · exact .inr ⟨rfl, by simpa using ‹¬ hasL l c.name = true›⟩
  · split
    · exact .inl rfl
    · split <;> exact .inl rfl
/-- A block that holds a call. -/
structure CBlk (w : World) (b : Nat) (c : CallV) : Prop where
  own : Own w b c.cells
  blk : ∃ cur, w.heap[b]? = some (.cells cur 32 (0, 0))
theorem CBlk.block {w w' : World} {b : Nat} {c : CallV} (h : CBlk w b c) (e : w'.heap[b]? = w.heap[b]?) : CBlk w' b c := ⟨h.own.block e, by obtain ⟨cur, hc⟩ := h.blk; exact ⟨cur, e.trans hc⟩⟩
theorem CBlk.new (w : World) (c : CallV) : CBlk (w.alloc (.cells c.cells.toArray 32)) w.heap.size c := ⟨Own.new_at w c.cells _ _ rfl, ⟨_, heap_alloc_new _ _⟩⟩
theorem CBlk.no {w : World} {b : Nat} {c : CallV} (h : CBlk w b c) : ¬ StrBlk w b ∧ ¬ IntBlk w b := by
  obtain ⟨cur, hc⟩ := h.blk
  constructor
  · rintro ⟨d, hd⟩
    rw [hd] at hc
    injection hc with hc
    injection hc with _ hc
    revert hc
    decide
  · rintro ⟨d, hd⟩
    rw [hd] at hc
    injection hc with hc
    injection hc with _ hc
    revert hc
    decide
theorem CBlk.below {w w' : World} {b : Nat} {c : CallV} (h : CBlk w b c) (hb : Below w.heap.size w w') (hl : b < w.heap.size) : CBlk w' b c := h.block (hb.block b hl)
theorem CBlk.frS {mb mm sb base : Nat} {w w' : World} {b : Nat} {c : CallV} (h : CBlk w b c) (hf : FrS mb mm sb base w w') (hl : b < w.heap.size) (h1 : mm < mb) (h2 : mb < sb) (h3 : sb < base) (h4 : base ≤ b) : CBlk w' b c :=
  h.block (hf.block b hl (by omega) (by omega) (by omega) (.inr h.no))
theorem model_names {w : World} {mb mm base : Nat} {l : List ByteArray} (h : ModelAt w mb mm base l) : ∃ v, w.cell? ⟨mb, 0, none⟩ = some v ∧ ∃ a c, v = .slice a l.length c := by
  obtain ⟨_, _, _, v, D, n, ho, hr, _⟩ := h
  obtain ⟨a, c, hv, _⟩ := hr.form
  exact ⟨v, ho.1 0 _ rfl, a, c, hv⟩
/-- One round of find. -/
def stp (n : Nat) (cv : Nat → CallV) (nm : Nat → List ByteArray) (k : Nat) (o : List Nat) (q : Nat) : Option (List Nat) := if goB n cv nm o q then srch n cv nm k (o ++ [q]) else none
theorem srch_zero {n : Nat} {cv : Nat → CallV} {nm : Nat → List ByteArray} {k : Nat} {o : List Nat} (h : mustN n cv o = 0) : srch n cv nm k o = some o := by
  cases k <;> simp [srch, h]
theorem srch_some {n : Nat} {cv : Nat → CallV} {nm : Nat → List ByteArray} {k j : Nat} {o p : List Nat} (h : ¬ mustN n cv o = 0) (hj : j < n) (h0 : ∀ q, q < j → stp n cv nm k o q = none) (h1 : stp n cv nm k o j = some p) : srch n cv nm (k + 1) o = some p := by
  unfold srch
  rw [if_neg h]
  exact find_some hj h0 h1
theorem srch_none {n : Nat} {cv : Nat → CallV} {nm : Nat → List ByteArray} {k : Nat} {o : List Nat} (h : ¬ mustN n cv o = 0) (h0 : ∀ q, q < n → stp n cv nm k o q = none) : srch n cv nm (k + 1) o = none := by
  unfold srch
  rw [if_neg h]
  exact find_none h0
theorem must_le_un (n : Nat) (cv : Nat → CallV) (o : List Nat) : mustN n cv o ≤ unN n o := by
  unfold mustN unN
  induction n with
  | zero => exact Nat.le_refl _
  | succ n ih =>
    unfold cntN
    have : (if muB cv o n then 1 else 0) ≤ (if !decide (n ∈ o) then 1 else 0) := by
      unfold muB
      by_cases h : n ∈ o <;> simp [h]
      split <;> omega
    omega
def Find_p (C n : Nat) (sv : Value) (cv : Nat → CallV) (nm : Nat → List ByteArray) (sb mb mm base k : Nat) (o : List Nat) (w : World) (e : Ending) (w' : World) : Prop :=
  ∃ p b, e = .returned (.bool b) ∧ StA C n sv cv nm sb mb mm base w' (stL cv nm p).1 p ∧ FrS mb mm sb base w w' ∧ ((b = true ∧ srch n cv nm k o = some p) ∨ (b = false ∧ srch n cv nm k o = none ∧ p = o))
set_option maxHeartbeats 8000000 in
theorem find_zero (C n : Nat) (sv : Value) (cv : Nat → CallV) (nm : Nat → List ByteArray) (sb mb mm base k : Nat) (o : List Nat) (w : World) (h : StA C n sv cv nm sb mb mm base w (stL cv nm o).1 o) (hm : mustN n cv o = 0) :
    Calls Tryd.prog 28 #[.pointer (some ⟨sb, 0, none⟩)] w (Find_p C n sv cv nm sb mb mm base k o w) := by
  have HH := Lib.hid h
  obtain ⟨ov, hos, _⟩ := h.ov
  have k10 := hos.1 10 _ scl_must
  rw [hm] at k10
  have HM := Lib.hid hm
  clear h hos hm
  go_enter Tryd.func28, Tryd.ntmps28
  go_wp2_with (fail)
  go_ret
  exact ⟨o, true, rfl, HH.out, FrS.refl _ _ _ _ _, .inl ⟨rfl, srch_zero HM.out⟩⟩
set_option maxHeartbeats 16000000 in
theorem find_step (C n : Nat) (sv : Value) (cv : Nat → CallV) (nm : Nat → List ByteArray) (sb mb mm base k : Nat) (hn : n ≤ 8)
    (ih : ∀ (o : List Nat) (w : World), StA C n sv cv nm sb mb mm base w (stL cv nm o).1 o → Gd n cv nm o → unN n o ≤ k → Calls Tryd.prog 28 #[.pointer (some ⟨sb, 0, none⟩)] w (Find_p C n sv cv nm sb mb mm base k o w))
    (o : List Nat) (w : World) (h : StA C n sv cv nm sb mb mm base w (stL cv nm o).1 o) (hg : Gd n cv nm o) (hk : unN n o ≤ k + 1) (hm : ¬ mustN n cv o = 0) :
    Calls Tryd.prog 28 #[.pointer (some ⟨sb, 0, none⟩)] w (Find_p C n sv cv nm sb mb mm base (k + 1) o w) := by
  have HH := Lib.hid h
  have HIH := Lib.hid ih
  have HGD := Lib.hid hg
  have HMZ := Lib.hid hm
  have hlt1 := h.mod.lt1
  have hlt2 := h.mod.lt2
  have hlt3 := h.mod.lt3
  have hcm := h.cm
  have hms := h.mbsb
  have hsb := h.sbb
  have hol : o.length ≤ 8 := by have := hg.facts.2.2.2; omega
  have hll := stL_len cv nm o
  obtain ⟨ov, hos, _⟩ := h.ov
  obtain ⟨a, cap, hsv, hcap⟩ := h.calls.sl.form
  subst hsv
  have k10 := hos.1 10 _ scl_must
  have k0 := hos.1 0 _ rfl
  have e1 : ((mustN n cv o : Int) == 0) = false := by simp; omega
  have e2 : ¬ (mustN n cv o : Int) = 0 := by omega
  clear h ih hg hm hos hcap
  go_enter Tryd.func28, Tryd.ntmps28
  go_wp2_with (fail)
  clear k10 k0 e1 e2
  go_loopw [16] (fun i wr => ∃ j : Nat, i = .int .i64 j ∧ j ≤ n ∧ Hid (StA C n (.slice a n cap) cv nm sb mb mm base wr (stL cv nm o).1 o) ∧ Hid (FrS mb mm sb base w wr) ∧ Hid (∀ q, q < j → stp n cv nm k o q = none)) (fun i _ => n - (intOf i).toNat)
  case atStart => exact ⟨0, rfl, Nat.zero_le _, HH, Lib.hid (FrS.refl _ _ _ _ _), Lib.hid (fun q hq => by omega)⟩
  case round =>
    obtain ⟨j, rfl, hj, HST, HFR, HAL⟩ := hrel
    obtain ⟨wo, rfl⟩ : ∃ z : World, z = wr := ⟨_, rfl⟩
    by_cases hlt : j < n
    rotate_left
    · have d1 : decide (j < n) = false := decide_eq_false hlt
      have d2 : decide ((j : Int) < (n : Int)) = false := decide_eq_false (by omega)
      have HNO : Hid (srch n cv nm (k + 1) o = none) := Lib.hid (srch_none HMZ.out fun q hq => HAL.out q (by omega))
      go_wp2_with (fail)
      go_ret
      exact ⟨o, false, rfl, HST.out, HFR.out, .inr ⟨rfl, HNO.out, rfl⟩⟩
    have d1 : decide (j < n) = true := decide_eq_true hlt
    have d2 : decide ((j : Int) < (n : Int)) = true := decide_eq_true (by omega)
    have q1 : IntKind.i64.wrap ((j : Int) + 1) = (j : Int) + 1 := IntWalk.i64_in _ (by omega)
    have hbi : (j : Int) < (n : Int) := by omega
    have hzo := HST.out.mod.lt3
    have HCALL := HST.out.calls
    have hnsz := HCALL.name j hlt
    obtain ⟨b, off, hab, hk0⟩ := sl_cells HCALL.sl (by omega)
    subst hab
    obtain ⟨c0, c1, c2, c3, c4, c5⟩ := call_cells HCALL.sl hlt
    clear hk0 HCALL
    obtain ⟨w1, hw1⟩ : ∃ z : World, z = wo.alloc (.cells #[.int .i64 (cv j).kind, .string (cv j).name, .bool (cv j).told, .slice (cv j).na (cv j).nn (cv j).nc, .int .i64 (cv j).beg, .int .i64 (cv j).fin] 32) := ⟨_, rfl⟩
    have hb1 : Below wo.heap.size wo w1 := by rw [hw1]; exact (Below.refl _ _).alloc (Nat.le_refl _) _
    have HCB1 : Hid (CBlk w1 wo.heap.size (cv j)) := Lib.hid (by rw [hw1]; exact CBlk.new wo (cv j))
    have HST1 := Lib.hid (HST.out.below hb1)
    have HFR1 : Hid (FrS mb mm sb base w w1) := Lib.hid (HFR.out.trans (FrS.of_below hb1))
    have hz1 : wo.heap.size < w1.heap.size := by rw [hw1]; simp
    have HW1 := Lib.hid hw1
    obtain ⟨ov1, hos1, _⟩ := HST1.out.ov
    have HNX := Lib.hid (isNext_any sb n j (mustN n cv o) mb C cv o _ ov1 w1 hos1.1 (by omega) HST1.out.calls.sl (by omega) hlt hn)
    clear hw1 hb1 hos1 HST
    go_upto_region 6 with (fail)
    rw [← HW1.out]
    clear c0 c1 c2 c3 c4 c5
    cases hnx : nxB n cv o j with
    | false =>
      rw [hnx] at HNX
      have HAL2 : Hid (∀ q, q < j + 1 → stp n cv nm k o q = none) := Lib.hid (fun q hq => by
        by_cases e : q = j
        · subst e; unfold stp goB; rw [hnx]; rfl
        · exact HAL.out q (by omega))
      clear hnx
      go_wp2_with (fail)
      refine HNX.out.mono ?_
      rintro e w2 ⟨rfl, hb2⟩
      have HST2 := Lib.hid (HST1.out.below hb2)
      have HFR2 : Hid (FrS mb mm sb base w w2) := Lib.hid (HFR1.out.trans (FrS.of_below hb2))
      clear hb2
      go_wp2_with (fail)
      go_roundw
      case rel => exact ⟨j + 1, rfl, by omega, HST2, HFR2, HAL2⟩
      case measure => simp [intOf] <;> omega
    | true =>
    rw [hnx] at HNX
    have HNXE := Lib.hid hnx
    clear hnx
    go_wp2_with (fail)
    refine HNX.out.mono ?_
    rintro e w2 ⟨rfl, hb2⟩
    have HST2 := Lib.hid (HST1.out.below hb2)
    have HFR2 : Hid (FrS mb mm sb base w w2) := Lib.hid (HFR1.out.trans (FrS.of_below hb2))
    have HCB2 := Lib.hid (HCB1.out.below hb2 hz1)
    have hz2 := hb2.size
    obtain ⟨ov2, hos2, _⟩ := HST2.out.ov
    obtain ⟨vm2, hom2, a2, cap2, hvm2⟩ := model_names HST2.out.mod
    subst hvm2
    have s11 := hos2.1 11 _ scl_model
    have KM : Hid (∀ W, Below w2.heap.size w2 W → W.cell? ⟨sb, 11, none⟩ = some (.pointer (some ⟨mb, 0, none⟩))) := Lib.hid (fun W hW => (hos2.below hW (by omega)).1 11 _ scl_model)
    have FC : Hid (∀ W, Below w2.heap.size w2 W → W.cell? ⟨wo.heap.size, 0, none⟩ = some (.int .i64 (cv j).kind) ∧ W.cell? ⟨wo.heap.size, 1, none⟩ = some (.string (cv j).name) ∧ W.cell? ⟨wo.heap.size, 2, none⟩ = some (.bool (cv j).told) ∧ W.cell? ⟨wo.heap.size, 3, none⟩ = some (.slice (cv j).na (cv j).nn (cv j).nc) ∧ W.cell? ⟨wo.heap.size, 4, none⟩ = some (.int .i64 (cv j).beg) ∧ W.cell? ⟨wo.heap.size, 5, none⟩ = some (.int .i64 (cv j).fin)) := Lib.hid (fun W hW => own_c (HCB2.out.below hW (by omega)).own)
    clear hb2 hos2 HNX HST1 HFR1 HCB1
    go_upto_region 8 with (fail)
    clear s11 hom2
    refine Mono.region_tail 5 (by kernel_rfl) (by kernel_rfl) (by kernel_rfl) (by kernel_rfl) ?_
    simp only [List.take_succ_cons, List.take_zero]
    refine Mono.hgl_val (v := ?vd0) rfl Mono.rr (fun ρ a W hR hd hf => ?hd0) ?_
    case hd0 =>
      have e0 := Mono.init_get hf (t := 0) (by kernel_rfl)
      clear hd hf
      (go_simp; try with_reducible rfl)
    refine Mono.hgl_val (v := ?vd1) rfl Mono.rr (fun ρ a W hR hd hf => ?hd1) ?_
    case hd1 =>
      have e33 := Mono.dep_val hd hf (t := 33) (k := 0) (by kernel_rfl) rfl
      clear hd hf
      (go_simp; try with_reducible rfl)
    refine Mono.hgl_val (v := ?vd2) rfl Mono.rr (fun ρ a W hR hd hf => ?hd2) ?_
    case hd2 =>
      have e34 := Mono.dep_val hd hf (t := 34) (k := 1) (by kernel_rfl) rfl
      clear hd hf
      (go_simp; try with_reducible rfl)
    refine Mono.hgl_val (v := ?vd3) rfl Mono.rr (fun ρ a W hR hd hf => ?hd3) ?_
    case hd3 =>
      have e35 := Mono.dep_val hd hf (t := 35) (k := 2) (by kernel_rfl) rfl
      have hk := KM.out W hR
      clear hd hf
      (go_simp; try with_reducible rfl)
    refine Mono.hgl_val (v := (cv j).agg) rfl Mono.rr (fun ρ a W hR hd hf => ?hd4) ?_
    case hd4 =>
      have e4 := Mono.init_get hf (t := 4) (by kernel_rfl)
      obtain ⟨c0, c1, c2, c3, c4, c5⟩ := FC.out W hR
      clear hd hf
      (go_simp; rfl)
    refine Mono.hgl_done rfl (by decide) (fun ρ W hR ht => ?_)
    simp only [List.take_succ_cons, List.take_zero, List.drop_succ_cons, List.drop_zero]
    obtain ⟨dd4, dd3, dd2, dd1, dd0, _⟩ := ht
    simp only [List.length_cons, List.length_nil, Nat.reduceAdd] at dd0 dd1 dd2 dd3 dd4
    simp only [Mono.putAll, Nat.reduceAdd, dd0, dd1, dd2, dd3, dd4, Act.put, List.setIfInBounds_toArray, List.set_cons_zero, List.set_cons_succ]
    clear dd0 dd1 dd2 dd3 dd4
    have HSTW := Lib.hid (HST2.out.below hR)
    have HFRW : Hid (FrS mb mm sb base w W) := Lib.hid (HFR2.out.trans (FrS.of_below hR))
    have HCBW := Lib.hid (HCB2.out.below hR (by omega))
    have hzW := hR.size
    have HCW := HSTW.out.calls
    have hmd := HSTW.out.mod
    have HDO := Lib.hid (do_any mb mm base (stL cv nm o).1 (nm j) (cv j) W hmd (by omega) hnsz (HCW.len _ hlt) C (by have := hmd.lt3; omega) (HCW.names _ hlt) (by have := HCW.few _ hlt; omega))
    clear hR HST2 HFR2 HCB2 KM FC HCW hmd
    unfold Do_p CallV.agg at HDO
    unfold CallV.agg
    go_wp2_with (fail)
    refine HDO.out.mono ?_
    rintro e w3 ⟨rfl, hm3, _, hf3⟩
    have HST3 := Lib.hid (HSTW.out.do hm3 hf3)
    have HFR3 : Hid (FrS mb mm sb base w w3) := Lib.hid (HFRW.out.trans (FrS.of_d hf3))
    have HCB3 := Lib.hid (HCBW.out.frS (FrS.of_d (sb := sb) hf3) (by omega) hlt1 hms hsb hzo)
    have hz3 := hf3.size
    clear hm3 hf3 HSTW HFRW HCBW HDO
    have HST0 := Lib.hid (stL_snoc cv nm o j)
    cases hok : (tells (stL cv nm o).1 (cv j) (nm j)).2 with
    | false =>
      have HOK := Lib.hid hok
      clear hok
      have HNONE : Hid (stp n cv nm k o j = none) := Lib.hid (by unfold stp goB tlB; rw [HOK.out, Bool.and_false]; rfl)
      have HAL2 : Hid (∀ q, q < j + 1 → stp n cv nm k o q = none) := Lib.hid (fun q hq => by
        by_cases e : q = j
        · subst e; exact HNONE.out
        · exact HAL.out q (by omega))
      obtain ⟨vm, hom13, hvm13⟩ := model_names HST3.out.mod
      obtain ⟨ov13, hos13, _⟩ := HST3.out.ov
      have s11 := hos13.1 11 _ scl_model
      have m0 := hom13
      rcases hvm13 with ⟨a13, c13, rfl⟩
      clear hom13 hos13
      rcases tells_cases (stL cv nm o).1 (cv j) (nm j) with hte | ⟨hte, hhl⟩
      · rw [hte] at HST3 m0
        have d3 : decide (((stL cv nm o).1.length : Nat) < (stL cv nm o).1.length) = false := decide_eq_false (by omega)
        have d4 : decide (((stL cv nm o).1.length : Int) < ((stL cv nm o).1.length : Int)) = false := decide_eq_false (by omega)
        clear hte
        go_wp2_with (fail)
        go_roundw
        case rel => exact ⟨j + 1, rfl, by omega, HST3, HFR3, HAL2⟩
        case measure => simp [intOf] <;> omega
      · rw [hte] at HST3 m0
        rw [List.length_append, List.length_singleton] at m0
        have d3 : decide (((stL cv nm o).1.length : Int) < (((stL cv nm o).1.length + 1 : Nat) : Int)) = true := decide_eq_true (by omega)
        have d4 : decide (((stL cv nm o).1.length : Int) < ((stL cv nm o).1.length : Int) + 1) = true := decide_eq_true (by omega)
        have HUN := Lib.hid (undo_any mb mm base (stL cv nm o).1 (cv j).name w3 HST3.out.mod hnsz hhl (by omega))
        clear hte hhl
        go_wp2_with (fail)
        refine HUN.out.mono ?_
        rintro e w9 ⟨rfl, hm9, hf9⟩
        have HST9 := Lib.hid (HST3.out.do hm9 hf9)
        have HFR9 : Hid (FrS mb mm sb base w w9) := Lib.hid (HFR3.out.trans (FrS.of_d hf9))
        clear hm9 hf9
        go_wp2_with (fail)
        go_roundw
        case rel => exact ⟨j + 1, rfl, by omega, HST9, HFR9, HAL2⟩
        case measure => simp [intOf] <;> omega
    | true =>
      have HGO : Hid (goB n cv nm o j = true) := Lib.hid (by unfold goB tlB; rw [hok, HNXE.out]; rfl)
      clear hok
      have HNI : Hid (j ∉ o) := Lib.hid (nxB_iff.1 HNXE.out).1
      have HGD2 : Hid (Gd n cv nm (o ++ [j])) := Lib.hid (Gd.snoc HGD.out hlt HGO.out)
      have hun : unN n (o ++ [j]) + 1 = unN n o := cntN_strike hlt (by simpa using HNI.out) (by simp) (fun k hk => by simp [hk])
      obtain ⟨c0, c1, c2, c3, c4, c5⟩ := own_c HCB3.out.own
      have HAD := Lib.hid (add_in C n j _ cv nm sb mb mm base _ o w3 HST3.out hlt hn HNI.out hol)
      unfold CallV.agg at HAD
      go_wp2_with (fail)
      refine HAD.out.mono ?_
      rintro e w4 ⟨rfl, hst4, hf4⟩
      have HST4 : Hid (StA C n (.slice (some ⟨b, off, none⟩) n cap) cv nm sb mb mm base w4 (stL cv nm (o ++ [j])).1 (o ++ [j])) := Lib.hid (by rw [HST0.out]; exact hst4)
      have HFR4 : Hid (FrS mb mm sb base w w4) := Lib.hid (HFR3.out.trans hf4)
      have HCB4 := Lib.hid (HCB3.out.frS hf4 (by omega) hlt1 hms hsb hzo)
      have hz4 := hf4.size
      have HFI := Lib.hid (HIH.out (o ++ [j]) w4 HST4.out HGD2.out (by omega))
      clear hst4 hf4 c0 c1 c2 c3 c4 c5 HAD HST3 HFR3 HCB3
      go_wp2_with (fail)
      refine HFI.out.mono ?_
      rintro e w5 ⟨p, bb, rfl, hst5, hf5, hres⟩
      have HFR5 : Hid (FrS mb mm sb base w w5) := Lib.hid (HFR4.out.trans hf5)
      have HCB5 := Lib.hid (HCB4.out.frS hf5 (by omega) hlt1 hms hsb hzo)
      have hz5 := hf5.size
      have HST5 := Lib.hid hst5
      clear hst5 hf5 HFI HST4 HFR4 HCB4
      rcases hres with ⟨rfl, hres⟩ | ⟨rfl, hres, rfl⟩
      · have HYES : Hid (srch n cv nm (k + 1) o = some p) := Lib.hid (srch_some HMZ.out hlt HAL.out (by unfold stp; rw [HGO.out]; exact hres))
        clear hres
        go_wp2_with (fail)
        go_ret
        exact ⟨p, true, rfl, HST5.out, HFR5.out, .inl ⟨rfl, HYES.out⟩⟩
      · have HRES := Lib.hid hres
        clear hres
        obtain ⟨c0, c1, c2, c3, c4, c5⟩ := own_c HCB5.out.own
        have HAO := Lib.hid (add_out C n j _ cv nm sb mb mm base _ o w5 HST5.out hlt hn HNI.out hol)
        unfold CallV.agg at HAO
        go_wp2_with (fail)
        refine HAO.out.mono ?_
        rintro e w6 ⟨rfl, hst6, hf6⟩
        have HST6 : Hid (StA C n (.slice (some ⟨b, off, none⟩) n cap) cv nm sb mb mm base w6 (tells (stL cv nm o).1 (cv j) (nm j)).1 o) := Lib.hid (by have := HST0.out; rw [this] at hst6; exact hst6)
        have HFR6 : Hid (FrS mb mm sb base w w6) := Lib.hid (HFR5.out.trans hf6)
        clear hst6 hf6 c0 c1 c2 c3 c4 c5 HAO HST5 HFR5 HCB5
        have HNONE : Hid (stp n cv nm k o j = none) := Lib.hid (by unfold stp; rw [HGO.out]; exact HRES.out)
        have HAL2 : Hid (∀ q, q < j + 1 → stp n cv nm k o q = none) := Lib.hid (fun q hq => by
          by_cases e : q = j
          · subst e; exact HNONE.out
          · exact HAL.out q (by omega))
        obtain ⟨vm, hom13, hvm13⟩ := model_names HST6.out.mod
        obtain ⟨ov13, hos13, _⟩ := HST6.out.ov
        have s11 := hos13.1 11 _ scl_model
        have m0 := hom13
        rcases hvm13 with ⟨a13, c13, rfl⟩
        clear hom13 hos13
        rcases tells_cases (stL cv nm o).1 (cv j) (nm j) with hte | ⟨hte, hhl⟩
        · rw [hte] at HST6 m0
          have d3 : decide (((stL cv nm o).1.length : Nat) < (stL cv nm o).1.length) = false := decide_eq_false (by omega)
          have d4 : decide (((stL cv nm o).1.length : Int) < ((stL cv nm o).1.length : Int)) = false := decide_eq_false (by omega)
          clear hte
          go_wp2_with (fail)
          go_roundw
          case rel => exact ⟨j + 1, rfl, by omega, HST6, HFR6, HAL2⟩
          case measure => simp [intOf] <;> omega
        · rw [hte] at HST6 m0
          rw [List.length_append, List.length_singleton] at m0
          have d3 : decide (((stL cv nm o).1.length : Int) < (((stL cv nm o).1.length + 1 : Nat) : Int)) = true := decide_eq_true (by omega)
          have d4 : decide (((stL cv nm o).1.length : Int) < ((stL cv nm o).1.length : Int) + 1) = true := decide_eq_true (by omega)
          have HUN := Lib.hid (undo_any mb mm base (stL cv nm o).1 (cv j).name w6 HST6.out.mod hnsz hhl (by omega))
          clear hte hhl
          go_wp2_with (fail)
          refine HUN.out.mono ?_
          rintro e w9 ⟨rfl, hm9, hf9⟩
          have HST9 := Lib.hid (HST6.out.do hm9 hf9)
          have HFR9 : Hid (FrS mb mm sb base w w9) := Lib.hid (HFR6.out.trans (FrS.of_d hf9))
          clear hm9 hf9
          go_wp2_with (fail)
          go_roundw
          case rel => exact ⟨j + 1, rfl, by omega, HST9, HFR9, HAL2⟩
          case measure => simp [intOf] <;> omega
theorem find_any (C n : Nat) (sv : Value) (cv : Nat → CallV) (nm : Nat → List ByteArray) (sb mb mm base : Nat) (hn : n ≤ 8) : ∀ (k : Nat) (o : List Nat) (w : World), StA C n sv cv nm sb mb mm base w (stL cv nm o).1 o → Gd n cv nm o → unN n o ≤ k → Calls Tryd.prog 28 #[.pointer (some ⟨sb, 0, none⟩)] w (Find_p C n sv cv nm sb mb mm base k o w) := by
  intro k
  induction k with
  | zero => exact fun o w h hg hk => find_zero C n sv cv nm sb mb mm base 0 o w h (by have := must_le_un n cv o; omega)
  | succ k ih =>
    intro o w h hg hk
    by_cases hm : mustN n cv o = 0
    · exact find_zero C n sv cv nm sb mb mm base (k + 1) o w h hm
    · exact find_step C n sv cv nm sb mb mm base k hn ih o w h hg hk hm
end Go.Proofs.YtmcbgjkogggneaaDoor
