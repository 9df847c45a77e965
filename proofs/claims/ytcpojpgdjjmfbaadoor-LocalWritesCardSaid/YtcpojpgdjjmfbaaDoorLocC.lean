/- The page's header: Ref, Told, Encode. -/
import Derived.Test.YtcpojpgdjjmfbaaDoorLocA
import Derived.Test.YtcpojpgdjjmfbaaDoorLocP
import Derived.Deep.QuietTactic
import Derived.BigQuiet
namespace Go.Proofs.YtcpojpgdjjmfbaaDoor
set_option linter.unusedVariables false
set_option linter.unusedSimpArgs false
set_option maxRecDepth 100000
open Go.RowKit
set_option maxHeartbeats 1000000 in
theorem ref_any (nm : ByteArray) (y mo da ho mi se me cr pk sz : Int) (gw gl : Bool) (w : World) : Calls Tryd.prog 7 #[.agg #[.string nm, .int .i64 y, .int .i64 mo, .int .i64 da, .int .i64 ho, .int .i64 mi, .int .i64 se, .int .i64 me, .int .u32 cr, .int .i64 pk, .int .i64 sz, .bool gw, .bool gl]] w (CQ (.agg #[.string nm, .int .i64 y, .int .i64 mo, .int .i64 da, .int .i64 ho, .int .i64 mi, .int .i64 se, .int .i64 me, .int .u32 cr, .int .i64 pk, .int .i64 sz, .bool gw, .bool gl]) w) := by
  have HB := Lib.hid (fun o o2 => ((Below.refl w.heap.size w).alloc (Nat.le_refl _) o).alloc (by simp) o2)
  go_enter Tryd.func7, Tryd.ntmps7
  go_wp2_with (fail)
  exact bodyPost_ret (v := .agg #[.string nm, .int .i64 y, .int .i64 mo, .int .i64 da, .int .i64 ho, .int .i64 mi, .int .i64 se, .int .i64 me, .int .u32 cr, .int .i64 pk, .int .i64 sz, .bool gw, .bool gl]) (by simp [results, Tryd.results7, go_sem]) rfl ⟨rfl, HB.out _ _⟩
set_option maxHeartbeats 1000000 in
theorem told_t (nm : ByteArray) (y mo da ho mi se me cr pk sz : Int) (gw : Bool) (w : World) : Calls Tryd.prog 31 #[.agg #[.string nm, .int .i64 y, .int .i64 mo, .int .i64 da, .int .i64 ho, .int .i64 mi, .int .i64 se, .int .i64 me, .int .u32 cr, .int .i64 pk, .int .i64 sz, .bool gw, .bool true]] w (CQ (.agg #[.string nm, .int .i64 y, .int .i64 mo, .int .i64 da, .int .i64 ho, .int .i64 mi, .int .i64 se, .int .i64 me, .int .u32 0, .int .i64 0, .int .i64 0, .bool gw, .bool true]) w) := by
  have HB := Lib.hid (fun o o2 => ((Below.refl w.heap.size w).alloc (Nat.le_refl _) o).alloc (by simp) o2)
  go_enter Tryd.func31, Tryd.ntmps31
  go_wp2_with (fail)
  exact bodyPost_ret (v := .agg #[.string nm, .int .i64 y, .int .i64 mo, .int .i64 da, .int .i64 ho, .int .i64 mi, .int .i64 se, .int .i64 me, .int .u32 0, .int .i64 0, .int .i64 0, .bool gw, .bool true]) (by simp [results, Tryd.results31, go_sem]) rfl ⟨rfl, HB.out _ _⟩
set_option maxHeartbeats 1000000 in
theorem told_f (nm : ByteArray) (y mo da ho mi se me cr pk sz : Int) (gw : Bool) (w : World) : Calls Tryd.prog 31 #[.agg #[.string nm, .int .i64 y, .int .i64 mo, .int .i64 da, .int .i64 ho, .int .i64 mi, .int .i64 se, .int .i64 me, .int .u32 cr, .int .i64 pk, .int .i64 sz, .bool gw, .bool false]] w (CQ (.agg #[.string nm, .int .i64 y, .int .i64 mo, .int .i64 da, .int .i64 ho, .int .i64 mi, .int .i64 se, .int .i64 me, .int .u32 cr, .int .i64 pk, .int .i64 sz, .bool gw, .bool false]) w) := by
  have HB := Lib.hid (fun o o2 => ((Below.refl w.heap.size w).alloc (Nat.le_refl _) o).alloc (by simp) o2)
  go_enter Tryd.func31, Tryd.ntmps31
  go_wp2_with (fail)
  exact bodyPost_ret (v := .agg #[.string nm, .int .i64 y, .int .i64 mo, .int .i64 da, .int .i64 ho, .int .i64 mi, .int .i64 se, .int .i64 me, .int .u32 cr, .int .i64 pk, .int .i64 sz, .bool gw, .bool false]) (by simp [results, Tryd.results31, go_sem]) rfl ⟨rfl, HB.out _ _⟩
set_option maxHeartbeats 4000000 in
theorem refLenc_tt (nm : ByteArray) (y mo da ho mi se : Int) (me cr pk sz f D C : Nat) (w : World) (hnm : nm.size ≤ 255) (hme : me ≤ 8) (hcr : cr < 4294967296) (hpk : pk ≤ 33554432) (hsz : sz ≤ 16777216) (hf : f ≤ 4000) (hD : D ≤ 65535) (hC : C ≤ 65535)
    (HE : Hid (∀ W, Calls Tryd.prog 30 #[.agg #[.int .i64 y, .int .i64 mo, .int .i64 da, .int .i64 ho, .int .i64 mi, .int .i64 se]] W fun e w' => e = .returned (.tuple #[.int .i64 (D : Nat), .int .i64 (C : Nat)]) ∧ Below W.heap.size W w'))
    (HV : Hid (∀ W, Calls Tryd.prog 12 #[.agg #[.string nm, .int .i64 y, .int .i64 mo, .int .i64 da, .int .i64 ho, .int .i64 mi, .int .i64 se, .int .i64 (me : Nat), .int .u32 (cr : Nat), .int .i64 (pk : Nat), .int .i64 (sz : Nat), .bool true, .bool true]] W (CQ (.int .i64 45) W)))
    (HT : Hid (∀ W, Calls Tryd.prog 31 #[.agg #[.string nm, .int .i64 y, .int .i64 mo, .int .i64 da, .int .i64 ho, .int .i64 mi, .int .i64 se, .int .i64 (me : Nat), .int .u32 (cr : Nat), .int .i64 (pk : Nat), .int .i64 (sz : Nat), .bool true, .bool true]] W (CQ (.agg #[.string nm, .int .i64 y, .int .i64 mo, .int .i64 da, .int .i64 ho, .int .i64 mi, .int .i64 se, .int .i64 (me : Nat), .int .u32 0, .int .i64 0, .int .i64 0, .bool true, .bool true]) W)))
    (HF : Hid (∀ W, Calls Tryd.prog 14 #[.agg #[.string nm, .int .i64 y, .int .i64 mo, .int .i64 da, .int .i64 ho, .int .i64 mi, .int .i64 se, .int .i64 (me : Nat), .int .u32 (cr : Nat), .int .i64 (pk : Nat), .int .i64 (sz : Nat), .bool true, .bool true]] W (CQ (.int .i64 (f : Nat)) W))) :
    Calls Tryd.prog 15 #[.agg #[.string nm, .int .i64 y, .int .i64 mo, .int .i64 da, .int .i64 ho, .int .i64 mi, .int .i64 se, .int .i64 (me : Nat), .int .u32 (cr : Nat), .int .i64 (pk : Nat), .int .i64 (sz : Nat), .bool true, .bool true]] w fun e w' => ∃ v, e = .returned v ∧ OB w.heap.size w' v (((((bys 4 [(67324752 : Int)] ++ bys 2 [(45 : Int), (f : Int), (me : Int), (C : Int), (D : Int)]) ++ bys 4 [(0 : Int), (4294967295 : Int), (4294967295 : Int)]) ++ bys 2 [(nm.size : Int), (20 : Int)]) ++ nm.data.toList) ++ (bys 2 [(1 : Int), (16 : Int)] ++ bys 8 [(0 : Int), (0 : Int)])) ∧ Below w.heap.size w w' := by
  have HB := Lib.hid ((Below.refl w.heap.size w).alloc (Nat.le_refl _) (.cells #[.string nm, .int .i64 y, .int .i64 mo, .int .i64 da, .int .i64 ho, .int .i64 mi, .int .i64 se, .int .i64 (me : Nat), .int .u32 (cr : Nat), .int .i64 (pk : Nat), .int .i64 (sz : Nat), .bool true, .bool true] 28))
  have HC := Lib.hid (Cells.new_at w [.string nm, .int .i64 y, .int .i64 mo, .int .i64 da, .int .i64 ho, .int .i64 mi, .int .i64 se, .int .i64 (me : Nat), .int .u32 (cr : Nat), .int .i64 (pk : Nat), .int .i64 (sz : Nat), .bool true, .bool true] 28 w.heap.size rfl)
  have q_pk : IntKind.u64.wrap (pk : Int) = pk := by rw [IntKind.wrap_u64]; omega
  have q_sz : IntKind.u64.wrap (sz : Int) = sz := by rw [IntKind.wrap_u64]; omega
  have Q_cr : Hid (IntKind.u64.wrap (cr : Int) = cr) := Lib.hid (by rw [IntKind.wrap_u64]; omega)
  have Q_me : Hid (IntKind.u64.wrap (me : Int) = me) := Lib.hid (by rw [IntKind.wrap_u64]; omega)
  have Q_f : Hid (IntKind.u64.wrap (f : Int) = f) := Lib.hid (by rw [IntKind.wrap_u64]; omega)
  have Q_D : Hid (IntKind.u64.wrap (D : Int) = D) := Lib.hid (by rw [IntKind.wrap_u64]; omega)
  have Q_C : Hid (IntKind.u64.wrap (C : Int) = C) := Lib.hid (by rw [IntKind.wrap_u64]; omega)
  have Q_nm : Hid (IntKind.u64.wrap (nm.size : Int) = nm.size) := Lib.hid (by rw [IntKind.wrap_u64]; omega)
  have HP0 := Lib.hid (fun (W : World) => SU.new .u64 W [(67324752 : Int)] 56)
  have HQ0 : Hid (∀ x ∈ ([(67324752 : Int)] : List Int), 0 ≤ x ∧ x < 18446744073709551616) := Lib.hid (by intro x hx; simp only [List.mem_cons, List.not_mem_nil, or_false] at hx; omega)
  have HP1 := Lib.hid (fun (W : World) => SU.new .u64 W [(45 : Int), (f : Int), (me : Int), (C : Int), (D : Int)] 56)
  have HQ1 : Hid (∀ x ∈ ([(45 : Int), (f : Int), (me : Int), (C : Int), (D : Int)] : List Int), 0 ≤ x ∧ x < 18446744073709551616) := Lib.hid (by intro x hx; simp only [List.mem_cons, List.not_mem_nil, or_false] at hx; omega)
  have HP2 := Lib.hid (fun (W : World) => SU.new .u64 W [(0 : Int), (4294967295 : Int), (4294967295 : Int)] 56)
  have HQ2 : Hid (∀ x ∈ ([(0 : Int), (4294967295 : Int), (4294967295 : Int)] : List Int), 0 ≤ x ∧ x < 18446744073709551616) := Lib.hid (by intro x hx; simp only [List.mem_cons, List.not_mem_nil, or_false] at hx; omega)
  have HP3 := Lib.hid (fun (W : World) => SU.new .u64 W [(nm.size : Int), (20 : Int)] 56)
  have HQ3 : Hid (∀ x ∈ ([(nm.size : Int), (20 : Int)] : List Int), 0 ≤ x ∧ x < 18446744073709551616) := Lib.hid (by intro x hx; simp only [List.mem_cons, List.not_mem_nil, or_false] at hx; omega)
  have HP7 := Lib.hid (fun (W : World) => SU.new .u64 W [(1 : Int), (16 : Int)] 56)
  have HQ7 : Hid (∀ x ∈ ([(1 : Int), (16 : Int)] : List Int), 0 ≤ x ∧ x < 18446744073709551616) := Lib.hid (by intro x hx; simp only [List.mem_cons, List.not_mem_nil, or_false] at hx; omega)
  have HP8 := Lib.hid (fun (W : World) => SU.new .u64 W [(0 : Int), (0 : Int)] 56)
  have HQ8 : Hid (∀ x ∈ ([(0 : Int), (0 : Int)] : List Int), 0 ≤ x ∧ x < 18446744073709551616) := Lib.hid (by intro x hx; simp only [List.mem_cons, List.not_mem_nil, or_false] at hx; omega)
  go_enter Tryd.func15, Tryd.ntmps15
  go_wp2_with (fail)
  refine (HE.out _).mono ?_
  rintro e w1 ⟨rfl, b1⟩
  have hz1 := b1.size
  simp only [World.size_alloc] at hz1
  have HB1 := Lib.hid (HB.out.trans (b1.mono (by simp)))
  have HC1 := Lib.hid (HC.out.below b1 (by simp))
  clear b1 HB HC
  have k0 := HC1.out 0 _ rfl
  have k1 := HC1.out 1 _ rfl
  have k2 := HC1.out 2 _ rfl
  have k3 := HC1.out 3 _ rfl
  have k4 := HC1.out 4 _ rfl
  have k5 := HC1.out 5 _ rfl
  have k6 := HC1.out 6 _ rfl
  have k7 := HC1.out 7 _ rfl
  have k8 := HC1.out 8 _ rfl
  have k9 := HC1.out 9 _ rfl
  have k10 := HC1.out 10 _ rfl
  have k11 := HC1.out 11 _ rfl
  have k12 := HC1.out 12 _ rfl
  go_wp2_with (fail)
  refine (HT.out _).mono ?_
  rintro e w2 ⟨rfl, b2⟩
  have hz2 := b2.size
  have HB2 := Lib.hid ((HB1.out.trans (b2.mono (by omega))).alloc (by omega) (.cells #[.string nm, .int .i64 y, .int .i64 mo, .int .i64 da, .int .i64 ho, .int .i64 mi, .int .i64 se, .int .i64 (me : Nat), .int .u32 0, .int .i64 0, .int .i64 0, .bool true, .bool true] 28))
  have HC2 := Lib.hid ((HC1.out.below b2 (by omega)).below ((Below.refl w2.heap.size w2).alloc (Nat.le_refl _) (.cells #[.string nm, .int .i64 y, .int .i64 mo, .int .i64 da, .int .i64 ho, .int .i64 mi, .int .i64 se, .int .i64 (me : Nat), .int .u32 0, .int .i64 0, .int .i64 0, .bool true, .bool true] 28)) (by omega))
  have HT2 := Lib.hid (Cells.new_at w2 [.string nm, .int .i64 y, .int .i64 mo, .int .i64 da, .int .i64 ho, .int .i64 mi, .int .i64 se, .int .i64 (me : Nat), .int .u32 0, .int .i64 0, .int .i64 0, .bool true, .bool true] 28 w2.heap.size rfl)
  have hz3 : w2.heap.size + 1 ≤ (w2.alloc (.cells #[.string nm, .int .i64 y, .int .i64 mo, .int .i64 da, .int .i64 ho, .int .i64 mi, .int .i64 se, .int .i64 (me : Nat), .int .u32 0, .int .i64 0, .int .i64 0, .bool true, .bool true] 28)).heap.size := by simp
  clear b2 HB1 HC1 k0 k1 k2 k3 k4 k5 k6 k7 k8 k9 k10 k11 k12
  go_wp2_with (fail)
  go_quiet (fail)
  have HB3 := Lib.hid (below_drewN HB2.out nq)
  have HC3 := Lib.hid (HC2.out.drewN nq)
  have HT3 := Lib.hid (HT2.out.drewN nq)
  have hz3' : w2.heap.size + 1 ≤ ((w2.alloc (.cells #[.string nm, .int .i64 y, .int .i64 mo, .int .i64 da, .int .i64 ho, .int .i64 mi, .int .i64 se, .int .i64 (me : Nat), .int .u32 0, .int .i64 0, .int .i64 0, .bool true, .bool true] 28)).drewN nq).heap.size := hz3
  clear HB2 HC2 HT2 hz3 q_pk q_sz
  generalize (w2.alloc (.cells #[.string nm, .int .i64 y, .int .i64 mo, .int .i64 da, .int .i64 ho, .int .i64 mi, .int .i64 se, .int .i64 (me : Nat), .int .u32 0, .int .i64 0, .int .i64 0, .bool true, .bool true] 28)).drewN nq = w3 at *
  have k11 := HC3.out 11 _ rfl
  go_wp2_with (fail)
  refine (put27_any 2 (by decide) (HP7.out _) (by simp) HQ7.out).mono ?_
  rintro e w4 ⟨u4, rfl, ho, bb⟩
  have hzb := bb.size
  simp only [World.size_alloc] at hzb
  have hbb : Below w3.heap.size w3 w4 := ((Below.refl _ _).alloc (Nat.le_refl _) _).trans (bb.mono (by simp))
  have HO : Hid (OB w3.heap.size w4 u4 (bys 2 [(1 : Int), (16 : Int)])) := Lib.hid (OB.mono ho (by simp))
  have HB4 := Lib.hid (HB3.out.trans (hbb.mono (by omega)))
  have HC4 := Lib.hid (HC3.out.below hbb (by omega))
  have HT4 := Lib.hid (HT3.out.below hbb (by omega))
  have hz4 : w3.heap.size ≤ w4.heap.size := by omega
  clear ho bb hzb hbb k11 HB3 HC3 HT3
  go_wp2_with (fail)
  refine (put27_any 8 (by decide) (HP8.out _) (by simp) HQ8.out).mono ?_
  rintro e w5 ⟨u5, rfl, ho, bb⟩
  have hzb := bb.size
  simp only [World.size_alloc] at hzb
  have hbb : Below w4.heap.size w4 w5 := ((Below.refl _ _).alloc (Nat.le_refl _) _).trans (bb.mono (by simp))
  have HU := Lib.hid (OB.byt ho)
  have HO := Lib.hid (HO.out.below hbb)
  have HB5 := Lib.hid (HB4.out.trans (hbb.mono (by omega)))
  have HC5 := Lib.hid (HC4.out.below hbb (by omega))
  have HT5 := Lib.hid (HT4.out.below hbb (by omega))
  have hz5 : w3.heap.size ≤ w5.heap.size := by omega
  clear ho bb hzb hbb HB4 HC4 HT4 hz4
  go_wp2_with (at_builtin; refine append_OB rfl _ _ rfl rfl HO.out rfl HU.out (by simp [bys_length]) hz5 ?_)
  intro x wE ho bb
  have HX := Lib.hid (OB.byt ho)
  have HBE := Lib.hid (HB5.out.trans (bb.mono (by omega)))
  have HCE := Lib.hid (HC5.out.below bb (by omega))
  have HTE := Lib.hid (HT5.out.below bb (by omega))
  have hzE : w2.heap.size + 1 ≤ wE.heap.size := by have := bb.size; omega
  clear ho bb HO HU HB5 HC5 HT5 hz5 hz3'
  obtain ⟨ax, cx, hxs⟩ := HX.out.slice
  subst hxs
  simp only [List.length_append, bys_length, List.length_cons, List.length_nil, Nat.zero_add, Nat.reduceAdd, Nat.reduceMul] at HX ⊢
  go_wp2_with (fail)
  refine (put27_any 4 (by decide) (HP0.out _) (by simp) HQ0.out).mono ?_
  rintro e wF ⟨uF, rfl, ho, bb⟩
  have hzb := bb.size
  simp only [World.size_alloc] at hzb
  have hbb : Below wE.heap.size wE wF := ((Below.refl _ _).alloc (Nat.le_refl _) _).trans (bb.mono (by simp))
  have HO : Hid (OB wE.heap.size wF uF (bys 4 [(67324752 : Int)])) := Lib.hid (OB.mono ho (by simp))
  have HBF := Lib.hid hbb
  have hzF : wE.heap.size ≤ wF.heap.size := by omega
  clear ho bb hzb hbb
  go_wp2_with (fail)
  refine Mono.region_tail 16 (by kernel_rfl) (by kernel_rfl) (by kernel_rfl) (by kernel_rfl) ?_
  simp only [List.take_succ_cons, List.take_zero]
  refine Mono.hgl_val (v := ?v0) rfl Mono.rr (fun ρ a W hR hd hf => ?h0) ?_
  case h0 =>
    have e9 := Mono.init_get hf (t := 9) (by kernel_rfl)
    clear hd hf
    (go_simp; try with_reducible rfl)
  refine Mono.hgl_val (v := ?v1) rfl Mono.rr (fun ρ a W hR hd hf => ?h1) ?_
  case h1 =>
    have e1 := Mono.init_get hf (t := 1) (by kernel_rfl)
    have hk0 := (HCE.out.below (HBF.out.trans (hR.mono hzF)) (by omega) : Cells W _ _) 0 _ rfl
    have hk1 := (HCE.out.below (HBF.out.trans (hR.mono hzF)) (by omega) : Cells W _ _) 1 _ rfl
    have hk2 := (HCE.out.below (HBF.out.trans (hR.mono hzF)) (by omega) : Cells W _ _) 2 _ rfl
    have hk3 := (HCE.out.below (HBF.out.trans (hR.mono hzF)) (by omega) : Cells W _ _) 3 _ rfl
    have hk4 := (HCE.out.below (HBF.out.trans (hR.mono hzF)) (by omega) : Cells W _ _) 4 _ rfl
    have hk5 := (HCE.out.below (HBF.out.trans (hR.mono hzF)) (by omega) : Cells W _ _) 5 _ rfl
    have hk6 := (HCE.out.below (HBF.out.trans (hR.mono hzF)) (by omega) : Cells W _ _) 6 _ rfl
    have hk7 := (HCE.out.below (HBF.out.trans (hR.mono hzF)) (by omega) : Cells W _ _) 7 _ rfl
    have hk8 := (HCE.out.below (HBF.out.trans (hR.mono hzF)) (by omega) : Cells W _ _) 8 _ rfl
    have hk9 := (HCE.out.below (HBF.out.trans (hR.mono hzF)) (by omega) : Cells W _ _) 9 _ rfl
    have hk10 := (HCE.out.below (HBF.out.trans (hR.mono hzF)) (by omega) : Cells W _ _) 10 _ rfl
    have hk11 := (HCE.out.below (HBF.out.trans (hR.mono hzF)) (by omega) : Cells W _ _) 11 _ rfl
    have hk12 := (HCE.out.below (HBF.out.trans (hR.mono hzF)) (by omega) : Cells W _ _) 12 _ rfl
    clear hd hf
    (go_simp; try with_reducible rfl)
  refine Mono.hgl_call (fun x _ => x = .int .i64 45) rfl Mono.rr (fun _ _ _ h _ => h) (fun ρ a W hR hd hf => ?h2) ?_
  case h2 =>
    have e36 := Mono.dep_val hd hf (t := 36) (k := 1) (by kernel_rfl) rfl
    clear hd hf
    refine ⟨_, _, by go_simp; first | rfl | exact ⟨rfl, rfl⟩, ?_⟩
    exact (HV.out W).mono (fun e W' ⟨he, hb⟩ => ⟨_, he, hb, rfl⟩)
  refine Mono.hgl_val (v := ?v3) rfl Mono.rr (fun ρ a W hR hd hf => ?h3) ?_
  case h3 =>
    have e37 := Mono.dep_val hd hf (t := 37) (k := 2) (by kernel_rfl) rfl
    clear hd hf
    (go_simp; try with_reducible rfl)
  refine Mono.hgl_val (v := ?v4) rfl Mono.rr (fun ρ a W hR hd hf => ?h4) ?_
  case h4 =>
    have e1 := Mono.init_get hf (t := 1) (by kernel_rfl)
    have hk0 := (HCE.out.below (HBF.out.trans (hR.mono hzF)) (by omega) : Cells W _ _) 0 _ rfl
    have hk1 := (HCE.out.below (HBF.out.trans (hR.mono hzF)) (by omega) : Cells W _ _) 1 _ rfl
    have hk2 := (HCE.out.below (HBF.out.trans (hR.mono hzF)) (by omega) : Cells W _ _) 2 _ rfl
    have hk3 := (HCE.out.below (HBF.out.trans (hR.mono hzF)) (by omega) : Cells W _ _) 3 _ rfl
    have hk4 := (HCE.out.below (HBF.out.trans (hR.mono hzF)) (by omega) : Cells W _ _) 4 _ rfl
    have hk5 := (HCE.out.below (HBF.out.trans (hR.mono hzF)) (by omega) : Cells W _ _) 5 _ rfl
    have hk6 := (HCE.out.below (HBF.out.trans (hR.mono hzF)) (by omega) : Cells W _ _) 6 _ rfl
    have hk7 := (HCE.out.below (HBF.out.trans (hR.mono hzF)) (by omega) : Cells W _ _) 7 _ rfl
    have hk8 := (HCE.out.below (HBF.out.trans (hR.mono hzF)) (by omega) : Cells W _ _) 8 _ rfl
    have hk9 := (HCE.out.below (HBF.out.trans (hR.mono hzF)) (by omega) : Cells W _ _) 9 _ rfl
    have hk10 := (HCE.out.below (HBF.out.trans (hR.mono hzF)) (by omega) : Cells W _ _) 10 _ rfl
    have hk11 := (HCE.out.below (HBF.out.trans (hR.mono hzF)) (by omega) : Cells W _ _) 11 _ rfl
    have hk12 := (HCE.out.below (HBF.out.trans (hR.mono hzF)) (by omega) : Cells W _ _) 12 _ rfl
    clear hd hf
    (go_simp; try with_reducible rfl)
  refine Mono.hgl_call (fun x _ => x = .int .i64 ((f : Nat) : Int)) rfl Mono.rr (fun _ _ _ h _ => h) (fun ρ a W hR hd hf => ?h5) ?_
  case h5 =>
    have e39 := Mono.dep_val hd hf (t := 39) (k := 4) (by kernel_rfl) rfl
    clear hd hf
    refine ⟨_, _, by go_simp; first | rfl | exact ⟨rfl, rfl⟩, ?_⟩
    exact (HF.out W).mono (fun e W' ⟨he, hb⟩ => ⟨_, he, hb, rfl⟩)
  refine Mono.hgl_val (v := ?v6) rfl Mono.rr (fun ρ a W hR hd hf => ?h6) ?_
  case h6 =>
    have e40 := Mono.dep_val hd hf (t := 40) (k := 5) (by kernel_rfl) rfl
    have hq := Q_f.out
    clear hd hf
    (go_simp; try with_reducible rfl)
  refine Mono.hgl_val (v := ?v7) rfl Mono.rr (fun ρ a W hR hd hf => ?h7) ?_
  case h7 =>
    have e1 := Mono.init_get hf (t := 1) (by kernel_rfl)
    clear hd hf
    (go_simp; try with_reducible rfl)
  refine Mono.hgl_val (v := ?v8) rfl Mono.rr (fun ρ a W hR hd hf => ?h8) ?_
  case h8 =>
    have e42 := Mono.dep_val hd hf (t := 42) (k := 7) (by kernel_rfl) rfl
    have hk7 := (HCE.out.below (HBF.out.trans (hR.mono hzF)) (by omega) : Cells W _ _) 7 _ rfl
    clear hd hf
    (go_simp; try with_reducible rfl)
  refine Mono.hgl_val (v := ?v9) rfl Mono.rr (fun ρ a W hR hd hf => ?h9) ?_
  case h9 =>
    have e43 := Mono.dep_val hd hf (t := 43) (k := 8) (by kernel_rfl) rfl
    have hq := Q_me.out
    clear hd hf
    (go_simp; try with_reducible rfl)
  refine Mono.hgl_val (v := ?v10) rfl Mono.rr (fun ρ a W hR hd hf => ?h10) ?_
  case h10 =>
    have e4 := Mono.init_get hf (t := 4) (by kernel_rfl)
    clear hd hf
    (go_simp; try with_reducible rfl)
  refine Mono.hgl_val (v := ?v11) rfl Mono.rr (fun ρ a W hR hd hf => ?h11) ?_
  case h11 =>
    have e45 := Mono.dep_val hd hf (t := 45) (k := 10) (by kernel_rfl) rfl
    have hq := Q_C.out
    clear hd hf
    (go_simp; try with_reducible rfl)
  refine Mono.hgl_val (v := ?v12) rfl Mono.rr (fun ρ a W hR hd hf => ?h12) ?_
  case h12 =>
    have e3 := Mono.init_get hf (t := 3) (by kernel_rfl)
    clear hd hf
    (go_simp; try with_reducible rfl)
  refine Mono.hgl_val (v := ?v13) rfl Mono.rr (fun ρ a W hR hd hf => ?h13) ?_
  case h13 =>
    have e47 := Mono.dep_val hd hf (t := 47) (k := 12) (by kernel_rfl) rfl
    have hq := Q_D.out
    clear hd hf
    (go_simp; try with_reducible rfl)
  refine Mono.hgl_pred (fun z W => SU .u64 W z [(45 : Int), (f : Int), (me : Int), (C : Int), (D : Int)]) rfl hstSU (fun ρ a W hR hd hf => ?h14) ?_
  case h14 =>
    have e38 := Mono.dep_val hd hf (t := 38) (k := 3) (by kernel_rfl) rfl
    have e41 := Mono.dep_val hd hf (t := 41) (k := 6) (by kernel_rfl) rfl
    have e44 := Mono.dep_val hd hf (t := 44) (k := 9) (by kernel_rfl) rfl
    have e46 := Mono.dep_val hd hf (t := 46) (k := 11) (by kernel_rfl) rfl
    have e48 := Mono.dep_val hd hf (t := 48) (k := 13) (by kernel_rfl) rfl
    clear hd hf
    exact ⟨_, _, by go_simp; rfl, (Below.refl _ _).alloc (Nat.le_refl _) _, SU.new .u64 W _ _⟩
  refine Mono.hgl_call (fun z W => Byt W W.heap.size z (bys 2 [(45 : Int), (f : Int), (me : Int), (C : Int), (D : Int)])) rfl Mono.rr hstB2 (fun ρ a W hR hd hf => ?h15) ?_
  case h15 =>
    obtain ⟨e49, d14⟩ := Mono.dep_get hd hf (t := 49) (k := 14) (by kernel_rfl)
    replace d14 : (fun z W => SU .u64 W z [(45 : Int), (f : Int), (me : Int), (C : Int), (D : Int)]) (ρ 14) W := d14
    clear hd hf
    refine ⟨_, _, by go_simp; first | rfl | exact ⟨rfl, rfl⟩, ?_⟩
    exact (put27_any 2 (by decide) d14 (by simp) HQ1.out).mono (fun e W' ⟨v', he, ho, hb⟩ => ⟨v', he, hb, OB.byt ho⟩)
  refine Mono.hgl_done rfl (by decide) (fun ρ W hR ht => ?_)
  simp only [List.take_succ_cons, List.take_zero, List.drop_succ_cons, List.drop_zero]
  obtain ⟨d15, d14, d13, d12, d11, d10, d9, d8, d7, d6, d5, d4, d3, d2, d1, d0, _⟩ := ht
  replace d14 : (fun z W => SU .u64 W z [(45 : Int), (f : Int), (me : Int), (C : Int), (D : Int)]) (ρ 14) W := d14
  replace d15 : (fun z W => Byt W W.heap.size z (bys 2 [(45 : Int), (f : Int), (me : Int), (C : Int), (D : Int)])) (ρ 15) W := d15
  simp only [List.length_cons, List.length_nil, Nat.reduceAdd] at d0 d1 d2 d3 d4 d5 d6 d7 d8 d9 d10 d11 d12 d13
  simp only [Mono.putAll, Nat.reduceAdd, d0, d1, d2, d3, d4, d5, d6, d7, d8, d9, d10, d11, d12, d13, Act.put, List.setIfInBounds_toArray, List.set_cons_zero, List.set_cons_succ]
  clear d0 d1 d2 d3 d4 d5 d6 d7 d8 d9 d10 d11 d12 d13
  generalize ρ 14 = r14 at *
  generalize ρ 15 = r15 at *
  have hzW := hR.size
  have HO := Lib.hid (HO.out.below hR)
  have HBG := Lib.hid (HBF.out.trans (hR.mono hzF))
  have HU := Lib.hid d15
  clear hR d15 d14 HBF
  obtain ⟨wG, rfl⟩ : ∃ z : World, z = W := ⟨_, rfl⟩
  go_wp2_with (at_builtin; refine append_OB rfl _ _ rfl rfl HO.out rfl HU.out (by simp [bys_length]) (by omega) ?_)
  intro vH wH ho bb
  have HO := Lib.hid ho
  have HBH := Lib.hid (HBG.out.trans bb)
  have hzH : wE.heap.size ≤ wH.heap.size := HBH.out.size
  clear ho bb HU HBG hzW hzF
  have k8 := (HTE.out.below HBH.out (by omega)) 8 _ rfl
  have hq := Q_cr.out
  go_wp2_with (fail)
  refine (put27_any 4 (by decide) (HP2.out _) (by simp) HQ2.out).mono ?_
  rintro e wI ⟨uI, rfl, ho, bb⟩
  have hzb := bb.size
  simp only [World.size_alloc] at hzb
  have hbb : Below wH.heap.size wH wI := ((Below.refl _ _).alloc (Nat.le_refl _) _).trans (bb.mono (by simp))
  have HU := Lib.hid (OB.byt ho)
  have HO := Lib.hid (HO.out.below hbb)
  have HBI := Lib.hid (HBH.out.trans (hbb.mono (by omega)))
  have hzI : wE.heap.size ≤ wI.heap.size := HBI.out.size
  clear ho bb hzb hbb HBH k8 hq
  go_wp2_with (at_builtin; refine append_OB rfl _ _ rfl rfl HO.out rfl HU.out (by simp [bys_length]) hzI ?_)
  intro vJ wJ ho bb
  have HO := Lib.hid ho
  have HBJ := Lib.hid (HBI.out.trans bb)
  have hzJ : wE.heap.size ≤ wJ.heap.size := HBJ.out.size
  clear ho bb HU HBI hzI hzH
  have k0 := (HCE.out.below HBJ.out (by omega)) 0 _ rfl
  have hq := Q_nm.out
  go_wp2_with (fail)
  refine (put27_any 2 (by decide) (HP3.out _) (by simp) HQ3.out).mono ?_
  rintro e wK ⟨uK, rfl, ho, bb⟩
  have hzb := bb.size
  simp only [World.size_alloc] at hzb
  have hbb : Below wJ.heap.size wJ wK := ((Below.refl _ _).alloc (Nat.le_refl _) _).trans (bb.mono (by simp))
  have HU := Lib.hid (OB.byt ho)
  have HO := Lib.hid (HO.out.below hbb)
  have HBK := Lib.hid (HBJ.out.trans (hbb.mono (by omega)))
  have hzK : wE.heap.size ≤ wK.heap.size := HBK.out.size
  clear ho bb hzb hbb HBJ k0 hq
  go_wp2_with (at_builtin; refine append_OB rfl _ _ rfl rfl HO.out rfl HU.out (by simp [bys_length]) hzK ?_)
  intro vL wL ho bb
  have HO := Lib.hid ho
  have HBL := Lib.hid (HBK.out.trans bb)
  have hzL : wE.heap.size ≤ wL.heap.size := HBL.out.size
  clear ho bb HU HBK hzK hzJ
  have k0 := (HCE.out.below HBL.out (by omega)) 0 _ rfl
  go_wp2_with (at_builtin; refine append_OS rfl _ _ rfl rfl HO.out rfl (by simp only [List.length_append, bys_length, byt_length, List.length_cons, List.length_nil, Array.length_toList]; have : nm.data.size = nm.size := rfl; omega) hzL ?_)
  intro vM wM ho bb
  have HO := Lib.hid ho
  have HBM := Lib.hid (HBL.out.trans bb)
  have hzM : wE.heap.size ≤ wM.heap.size := HBM.out.size
  have HXM := Lib.hid (HX.out.below HBM.out)
  clear ho bb HBL hzL k0
  go_wp2_with (at_builtin; refine append_OB rfl _ _ rfl rfl HO.out rfl HXM.out (by simp only [List.length_append, bys_length, byt_length, List.length_cons, List.length_nil, Array.length_toList]; have : nm.data.size = nm.size := rfl; omega) hzM ?_)
  intro vN wN ho bb
  have HO := Lib.hid ho
  have HBN := Lib.hid (HBM.out.trans bb)
  clear ho bb
  go_wp2_with (fail)
  go_ret
  exact ⟨_, rfl, OB.mono (base := wE.heap.size) HO.out (by omega), HBE.out.trans (HBN.out.mono (by omega))⟩
set_option maxHeartbeats 4000000 in
theorem refLenc_tf (nm : ByteArray) (y mo da ho mi se : Int) (me cr pk sz f D C : Nat) (w : World) (hnm : nm.size ≤ 255) (hme : me ≤ 8) (hcr : cr < 4294967296) (hpk : pk ≤ 33554432) (hsz : sz ≤ 16777216) (hf : f ≤ 4000) (hD : D ≤ 65535) (hC : C ≤ 65535)
    (HE : Hid (∀ W, Calls Tryd.prog 30 #[.agg #[.int .i64 y, .int .i64 mo, .int .i64 da, .int .i64 ho, .int .i64 mi, .int .i64 se]] W fun e w' => e = .returned (.tuple #[.int .i64 (D : Nat), .int .i64 (C : Nat)]) ∧ Below W.heap.size W w'))
    (HV : Hid (∀ W, Calls Tryd.prog 12 #[.agg #[.string nm, .int .i64 y, .int .i64 mo, .int .i64 da, .int .i64 ho, .int .i64 mi, .int .i64 se, .int .i64 (me : Nat), .int .u32 (cr : Nat), .int .i64 (pk : Nat), .int .i64 (sz : Nat), .bool true, .bool false]] W (CQ (.int .i64 45) W)))
    (HT : Hid (∀ W, Calls Tryd.prog 31 #[.agg #[.string nm, .int .i64 y, .int .i64 mo, .int .i64 da, .int .i64 ho, .int .i64 mi, .int .i64 se, .int .i64 (me : Nat), .int .u32 (cr : Nat), .int .i64 (pk : Nat), .int .i64 (sz : Nat), .bool true, .bool false]] W (CQ (.agg #[.string nm, .int .i64 y, .int .i64 mo, .int .i64 da, .int .i64 ho, .int .i64 mi, .int .i64 se, .int .i64 (me : Nat), .int .u32 (cr : Nat), .int .i64 (pk : Nat), .int .i64 (sz : Nat), .bool true, .bool false]) W)))
    (HF : Hid (∀ W, Calls Tryd.prog 14 #[.agg #[.string nm, .int .i64 y, .int .i64 mo, .int .i64 da, .int .i64 ho, .int .i64 mi, .int .i64 se, .int .i64 (me : Nat), .int .u32 (cr : Nat), .int .i64 (pk : Nat), .int .i64 (sz : Nat), .bool true, .bool false]] W (CQ (.int .i64 (f : Nat)) W))) :
    Calls Tryd.prog 15 #[.agg #[.string nm, .int .i64 y, .int .i64 mo, .int .i64 da, .int .i64 ho, .int .i64 mi, .int .i64 se, .int .i64 (me : Nat), .int .u32 (cr : Nat), .int .i64 (pk : Nat), .int .i64 (sz : Nat), .bool true, .bool false]] w fun e w' => ∃ v, e = .returned v ∧ OB w.heap.size w' v (((((bys 4 [(67324752 : Int)] ++ bys 2 [(45 : Int), (f : Int), (me : Int), (C : Int), (D : Int)]) ++ bys 4 [(cr : Int), (4294967295 : Int), (4294967295 : Int)]) ++ bys 2 [(nm.size : Int), (20 : Int)]) ++ nm.data.toList) ++ (bys 2 [(1 : Int), (16 : Int)] ++ bys 8 [(sz : Int), (pk : Int)])) ∧ Below w.heap.size w w' := by
  have HB := Lib.hid ((Below.refl w.heap.size w).alloc (Nat.le_refl _) (.cells #[.string nm, .int .i64 y, .int .i64 mo, .int .i64 da, .int .i64 ho, .int .i64 mi, .int .i64 se, .int .i64 (me : Nat), .int .u32 (cr : Nat), .int .i64 (pk : Nat), .int .i64 (sz : Nat), .bool true, .bool false] 28))
  have HC := Lib.hid (Cells.new_at w [.string nm, .int .i64 y, .int .i64 mo, .int .i64 da, .int .i64 ho, .int .i64 mi, .int .i64 se, .int .i64 (me : Nat), .int .u32 (cr : Nat), .int .i64 (pk : Nat), .int .i64 (sz : Nat), .bool true, .bool false] 28 w.heap.size rfl)
  have q_pk : IntKind.u64.wrap (pk : Int) = pk := by rw [IntKind.wrap_u64]; omega
  have q_sz : IntKind.u64.wrap (sz : Int) = sz := by rw [IntKind.wrap_u64]; omega
  have Q_cr : Hid (IntKind.u64.wrap (cr : Int) = cr) := Lib.hid (by rw [IntKind.wrap_u64]; omega)
  have Q_me : Hid (IntKind.u64.wrap (me : Int) = me) := Lib.hid (by rw [IntKind.wrap_u64]; omega)
  have Q_f : Hid (IntKind.u64.wrap (f : Int) = f) := Lib.hid (by rw [IntKind.wrap_u64]; omega)
  have Q_D : Hid (IntKind.u64.wrap (D : Int) = D) := Lib.hid (by rw [IntKind.wrap_u64]; omega)
  have Q_C : Hid (IntKind.u64.wrap (C : Int) = C) := Lib.hid (by rw [IntKind.wrap_u64]; omega)
  have Q_nm : Hid (IntKind.u64.wrap (nm.size : Int) = nm.size) := Lib.hid (by rw [IntKind.wrap_u64]; omega)
  have HP0 := Lib.hid (fun (W : World) => SU.new .u64 W [(67324752 : Int)] 56)
  have HQ0 : Hid (∀ x ∈ ([(67324752 : Int)] : List Int), 0 ≤ x ∧ x < 18446744073709551616) := Lib.hid (by intro x hx; simp only [List.mem_cons, List.not_mem_nil, or_false] at hx; omega)
  have HP1 := Lib.hid (fun (W : World) => SU.new .u64 W [(45 : Int), (f : Int), (me : Int), (C : Int), (D : Int)] 56)
  have HQ1 : Hid (∀ x ∈ ([(45 : Int), (f : Int), (me : Int), (C : Int), (D : Int)] : List Int), 0 ≤ x ∧ x < 18446744073709551616) := Lib.hid (by intro x hx; simp only [List.mem_cons, List.not_mem_nil, or_false] at hx; omega)
  have HP2 := Lib.hid (fun (W : World) => SU.new .u64 W [(cr : Int), (4294967295 : Int), (4294967295 : Int)] 56)
  have HQ2 : Hid (∀ x ∈ ([(cr : Int), (4294967295 : Int), (4294967295 : Int)] : List Int), 0 ≤ x ∧ x < 18446744073709551616) := Lib.hid (by intro x hx; simp only [List.mem_cons, List.not_mem_nil, or_false] at hx; omega)
  have HP3 := Lib.hid (fun (W : World) => SU.new .u64 W [(nm.size : Int), (20 : Int)] 56)
  have HQ3 : Hid (∀ x ∈ ([(nm.size : Int), (20 : Int)] : List Int), 0 ≤ x ∧ x < 18446744073709551616) := Lib.hid (by intro x hx; simp only [List.mem_cons, List.not_mem_nil, or_false] at hx; omega)
  have HP7 := Lib.hid (fun (W : World) => SU.new .u64 W [(1 : Int), (16 : Int)] 56)
  have HQ7 : Hid (∀ x ∈ ([(1 : Int), (16 : Int)] : List Int), 0 ≤ x ∧ x < 18446744073709551616) := Lib.hid (by intro x hx; simp only [List.mem_cons, List.not_mem_nil, or_false] at hx; omega)
  have HP8 := Lib.hid (fun (W : World) => SU.new .u64 W [(sz : Int), (pk : Int)] 56)
  have HQ8 : Hid (∀ x ∈ ([(sz : Int), (pk : Int)] : List Int), 0 ≤ x ∧ x < 18446744073709551616) := Lib.hid (by intro x hx; simp only [List.mem_cons, List.not_mem_nil, or_false] at hx; omega)
  go_enter Tryd.func15, Tryd.ntmps15
  go_wp2_with (fail)
  refine (HE.out _).mono ?_
  rintro e w1 ⟨rfl, b1⟩
  have hz1 := b1.size
  simp only [World.size_alloc] at hz1
  have HB1 := Lib.hid (HB.out.trans (b1.mono (by simp)))
  have HC1 := Lib.hid (HC.out.below b1 (by simp))
  clear b1 HB HC
  have k0 := HC1.out 0 _ rfl
  have k1 := HC1.out 1 _ rfl
  have k2 := HC1.out 2 _ rfl
  have k3 := HC1.out 3 _ rfl
  have k4 := HC1.out 4 _ rfl
  have k5 := HC1.out 5 _ rfl
  have k6 := HC1.out 6 _ rfl
  have k7 := HC1.out 7 _ rfl
  have k8 := HC1.out 8 _ rfl
  have k9 := HC1.out 9 _ rfl
  have k10 := HC1.out 10 _ rfl
  have k11 := HC1.out 11 _ rfl
  have k12 := HC1.out 12 _ rfl
  go_wp2_with (fail)
  refine (HT.out _).mono ?_
  rintro e w2 ⟨rfl, b2⟩
  have hz2 := b2.size
  have HB2 := Lib.hid ((HB1.out.trans (b2.mono (by omega))).alloc (by omega) (.cells #[.string nm, .int .i64 y, .int .i64 mo, .int .i64 da, .int .i64 ho, .int .i64 mi, .int .i64 se, .int .i64 (me : Nat), .int .u32 (cr : Nat), .int .i64 (pk : Nat), .int .i64 (sz : Nat), .bool true, .bool false] 28))
  have HC2 := Lib.hid ((HC1.out.below b2 (by omega)).below ((Below.refl w2.heap.size w2).alloc (Nat.le_refl _) (.cells #[.string nm, .int .i64 y, .int .i64 mo, .int .i64 da, .int .i64 ho, .int .i64 mi, .int .i64 se, .int .i64 (me : Nat), .int .u32 (cr : Nat), .int .i64 (pk : Nat), .int .i64 (sz : Nat), .bool true, .bool false] 28)) (by omega))
  have HT2 := Lib.hid (Cells.new_at w2 [.string nm, .int .i64 y, .int .i64 mo, .int .i64 da, .int .i64 ho, .int .i64 mi, .int .i64 se, .int .i64 (me : Nat), .int .u32 (cr : Nat), .int .i64 (pk : Nat), .int .i64 (sz : Nat), .bool true, .bool false] 28 w2.heap.size rfl)
  have hz3 : w2.heap.size + 1 ≤ (w2.alloc (.cells #[.string nm, .int .i64 y, .int .i64 mo, .int .i64 da, .int .i64 ho, .int .i64 mi, .int .i64 se, .int .i64 (me : Nat), .int .u32 (cr : Nat), .int .i64 (pk : Nat), .int .i64 (sz : Nat), .bool true, .bool false] 28)).heap.size := by simp
  clear b2 HB1 HC1 k0 k1 k2 k3 k4 k5 k6 k7 k8 k9 k10 k11 k12
  go_wp2_with (fail)
  go_quiet (fail)
  have HB3 := Lib.hid (below_drewN HB2.out nq)
  have HC3 := Lib.hid (HC2.out.drewN nq)
  have HT3 := Lib.hid (HT2.out.drewN nq)
  have hz3' : w2.heap.size + 1 ≤ ((w2.alloc (.cells #[.string nm, .int .i64 y, .int .i64 mo, .int .i64 da, .int .i64 ho, .int .i64 mi, .int .i64 se, .int .i64 (me : Nat), .int .u32 (cr : Nat), .int .i64 (pk : Nat), .int .i64 (sz : Nat), .bool true, .bool false] 28)).drewN nq).heap.size := hz3
  clear HB2 HC2 HT2 hz3 q_pk q_sz
  generalize (w2.alloc (.cells #[.string nm, .int .i64 y, .int .i64 mo, .int .i64 da, .int .i64 ho, .int .i64 mi, .int .i64 se, .int .i64 (me : Nat), .int .u32 (cr : Nat), .int .i64 (pk : Nat), .int .i64 (sz : Nat), .bool true, .bool false] 28)).drewN nq = w3 at *
  have k11 := HC3.out 11 _ rfl
  go_wp2_with (fail)
  refine (put27_any 2 (by decide) (HP7.out _) (by simp) HQ7.out).mono ?_
  rintro e w4 ⟨u4, rfl, ho, bb⟩
  have hzb := bb.size
  simp only [World.size_alloc] at hzb
  have hbb : Below w3.heap.size w3 w4 := ((Below.refl _ _).alloc (Nat.le_refl _) _).trans (bb.mono (by simp))
  have HO : Hid (OB w3.heap.size w4 u4 (bys 2 [(1 : Int), (16 : Int)])) := Lib.hid (OB.mono ho (by simp))
  have HB4 := Lib.hid (HB3.out.trans (hbb.mono (by omega)))
  have HC4 := Lib.hid (HC3.out.below hbb (by omega))
  have HT4 := Lib.hid (HT3.out.below hbb (by omega))
  have hz4 : w3.heap.size ≤ w4.heap.size := by omega
  clear ho bb hzb hbb k11 HB3 HC3 HT3
  go_wp2_with (fail)
  refine (put27_any 8 (by decide) (HP8.out _) (by simp) HQ8.out).mono ?_
  rintro e w5 ⟨u5, rfl, ho, bb⟩
  have hzb := bb.size
  simp only [World.size_alloc] at hzb
  have hbb : Below w4.heap.size w4 w5 := ((Below.refl _ _).alloc (Nat.le_refl _) _).trans (bb.mono (by simp))
  have HU := Lib.hid (OB.byt ho)
  have HO := Lib.hid (HO.out.below hbb)
  have HB5 := Lib.hid (HB4.out.trans (hbb.mono (by omega)))
  have HC5 := Lib.hid (HC4.out.below hbb (by omega))
  have HT5 := Lib.hid (HT4.out.below hbb (by omega))
  have hz5 : w3.heap.size ≤ w5.heap.size := by omega
  clear ho bb hzb hbb HB4 HC4 HT4 hz4
  go_wp2_with (at_builtin; refine append_OB rfl _ _ rfl rfl HO.out rfl HU.out (by simp [bys_length]) hz5 ?_)
  intro x wE ho bb
  have HX := Lib.hid (OB.byt ho)
  have HBE := Lib.hid (HB5.out.trans (bb.mono (by omega)))
  have HCE := Lib.hid (HC5.out.below bb (by omega))
  have HTE := Lib.hid (HT5.out.below bb (by omega))
  have hzE : w2.heap.size + 1 ≤ wE.heap.size := by have := bb.size; omega
  clear ho bb HO HU HB5 HC5 HT5 hz5 hz3'
  obtain ⟨ax, cx, hxs⟩ := HX.out.slice
  subst hxs
  simp only [List.length_append, bys_length, List.length_cons, List.length_nil, Nat.zero_add, Nat.reduceAdd, Nat.reduceMul] at HX ⊢
  go_wp2_with (fail)
  refine (put27_any 4 (by decide) (HP0.out _) (by simp) HQ0.out).mono ?_
  rintro e wF ⟨uF, rfl, ho, bb⟩
  have hzb := bb.size
  simp only [World.size_alloc] at hzb
  have hbb : Below wE.heap.size wE wF := ((Below.refl _ _).alloc (Nat.le_refl _) _).trans (bb.mono (by simp))
  have HO : Hid (OB wE.heap.size wF uF (bys 4 [(67324752 : Int)])) := Lib.hid (OB.mono ho (by simp))
  have HBF := Lib.hid hbb
  have hzF : wE.heap.size ≤ wF.heap.size := by omega
  clear ho bb hzb hbb
  go_wp2_with (fail)
  refine Mono.region_tail 16 (by kernel_rfl) (by kernel_rfl) (by kernel_rfl) (by kernel_rfl) ?_
  simp only [List.take_succ_cons, List.take_zero]
  refine Mono.hgl_val (v := ?v0) rfl Mono.rr (fun ρ a W hR hd hf => ?h0) ?_
  case h0 =>
    have e9 := Mono.init_get hf (t := 9) (by kernel_rfl)
    clear hd hf
    (go_simp; try with_reducible rfl)
  refine Mono.hgl_val (v := ?v1) rfl Mono.rr (fun ρ a W hR hd hf => ?h1) ?_
  case h1 =>
    have e1 := Mono.init_get hf (t := 1) (by kernel_rfl)
    have hk0 := (HCE.out.below (HBF.out.trans (hR.mono hzF)) (by omega) : Cells W _ _) 0 _ rfl
    have hk1 := (HCE.out.below (HBF.out.trans (hR.mono hzF)) (by omega) : Cells W _ _) 1 _ rfl
    have hk2 := (HCE.out.below (HBF.out.trans (hR.mono hzF)) (by omega) : Cells W _ _) 2 _ rfl
    have hk3 := (HCE.out.below (HBF.out.trans (hR.mono hzF)) (by omega) : Cells W _ _) 3 _ rfl
    have hk4 := (HCE.out.below (HBF.out.trans (hR.mono hzF)) (by omega) : Cells W _ _) 4 _ rfl
    have hk5 := (HCE.out.below (HBF.out.trans (hR.mono hzF)) (by omega) : Cells W _ _) 5 _ rfl
    have hk6 := (HCE.out.below (HBF.out.trans (hR.mono hzF)) (by omega) : Cells W _ _) 6 _ rfl
    have hk7 := (HCE.out.below (HBF.out.trans (hR.mono hzF)) (by omega) : Cells W _ _) 7 _ rfl
    have hk8 := (HCE.out.below (HBF.out.trans (hR.mono hzF)) (by omega) : Cells W _ _) 8 _ rfl
    have hk9 := (HCE.out.below (HBF.out.trans (hR.mono hzF)) (by omega) : Cells W _ _) 9 _ rfl
    have hk10 := (HCE.out.below (HBF.out.trans (hR.mono hzF)) (by omega) : Cells W _ _) 10 _ rfl
    have hk11 := (HCE.out.below (HBF.out.trans (hR.mono hzF)) (by omega) : Cells W _ _) 11 _ rfl
    have hk12 := (HCE.out.below (HBF.out.trans (hR.mono hzF)) (by omega) : Cells W _ _) 12 _ rfl
    clear hd hf
    (go_simp; try with_reducible rfl)
  refine Mono.hgl_call (fun x _ => x = .int .i64 45) rfl Mono.rr (fun _ _ _ h _ => h) (fun ρ a W hR hd hf => ?h2) ?_
  case h2 =>
    have e36 := Mono.dep_val hd hf (t := 36) (k := 1) (by kernel_rfl) rfl
    clear hd hf
    refine ⟨_, _, by go_simp; first | rfl | exact ⟨rfl, rfl⟩, ?_⟩
    exact (HV.out W).mono (fun e W' ⟨he, hb⟩ => ⟨_, he, hb, rfl⟩)
  refine Mono.hgl_val (v := ?v3) rfl Mono.rr (fun ρ a W hR hd hf => ?h3) ?_
  case h3 =>
    have e37 := Mono.dep_val hd hf (t := 37) (k := 2) (by kernel_rfl) rfl
    clear hd hf
    (go_simp; try with_reducible rfl)
  refine Mono.hgl_val (v := ?v4) rfl Mono.rr (fun ρ a W hR hd hf => ?h4) ?_
  case h4 =>
    have e1 := Mono.init_get hf (t := 1) (by kernel_rfl)
    have hk0 := (HCE.out.below (HBF.out.trans (hR.mono hzF)) (by omega) : Cells W _ _) 0 _ rfl
    have hk1 := (HCE.out.below (HBF.out.trans (hR.mono hzF)) (by omega) : Cells W _ _) 1 _ rfl
    have hk2 := (HCE.out.below (HBF.out.trans (hR.mono hzF)) (by omega) : Cells W _ _) 2 _ rfl
    have hk3 := (HCE.out.below (HBF.out.trans (hR.mono hzF)) (by omega) : Cells W _ _) 3 _ rfl
    have hk4 := (HCE.out.below (HBF.out.trans (hR.mono hzF)) (by omega) : Cells W _ _) 4 _ rfl
    have hk5 := (HCE.out.below (HBF.out.trans (hR.mono hzF)) (by omega) : Cells W _ _) 5 _ rfl
    have hk6 := (HCE.out.below (HBF.out.trans (hR.mono hzF)) (by omega) : Cells W _ _) 6 _ rfl
    have hk7 := (HCE.out.below (HBF.out.trans (hR.mono hzF)) (by omega) : Cells W _ _) 7 _ rfl
    have hk8 := (HCE.out.below (HBF.out.trans (hR.mono hzF)) (by omega) : Cells W _ _) 8 _ rfl
    have hk9 := (HCE.out.below (HBF.out.trans (hR.mono hzF)) (by omega) : Cells W _ _) 9 _ rfl
    have hk10 := (HCE.out.below (HBF.out.trans (hR.mono hzF)) (by omega) : Cells W _ _) 10 _ rfl
    have hk11 := (HCE.out.below (HBF.out.trans (hR.mono hzF)) (by omega) : Cells W _ _) 11 _ rfl
    have hk12 := (HCE.out.below (HBF.out.trans (hR.mono hzF)) (by omega) : Cells W _ _) 12 _ rfl
    clear hd hf
    (go_simp; try with_reducible rfl)
  refine Mono.hgl_call (fun x _ => x = .int .i64 ((f : Nat) : Int)) rfl Mono.rr (fun _ _ _ h _ => h) (fun ρ a W hR hd hf => ?h5) ?_
  case h5 =>
    have e39 := Mono.dep_val hd hf (t := 39) (k := 4) (by kernel_rfl) rfl
    clear hd hf
    refine ⟨_, _, by go_simp; first | rfl | exact ⟨rfl, rfl⟩, ?_⟩
    exact (HF.out W).mono (fun e W' ⟨he, hb⟩ => ⟨_, he, hb, rfl⟩)
  refine Mono.hgl_val (v := ?v6) rfl Mono.rr (fun ρ a W hR hd hf => ?h6) ?_
  case h6 =>
    have e40 := Mono.dep_val hd hf (t := 40) (k := 5) (by kernel_rfl) rfl
    have hq := Q_f.out
    clear hd hf
    (go_simp; try with_reducible rfl)
  refine Mono.hgl_val (v := ?v7) rfl Mono.rr (fun ρ a W hR hd hf => ?h7) ?_
  case h7 =>
    have e1 := Mono.init_get hf (t := 1) (by kernel_rfl)
    clear hd hf
    (go_simp; try with_reducible rfl)
  refine Mono.hgl_val (v := ?v8) rfl Mono.rr (fun ρ a W hR hd hf => ?h8) ?_
  case h8 =>
    have e42 := Mono.dep_val hd hf (t := 42) (k := 7) (by kernel_rfl) rfl
    have hk7 := (HCE.out.below (HBF.out.trans (hR.mono hzF)) (by omega) : Cells W _ _) 7 _ rfl
    clear hd hf
    (go_simp; try with_reducible rfl)
  refine Mono.hgl_val (v := ?v9) rfl Mono.rr (fun ρ a W hR hd hf => ?h9) ?_
  case h9 =>
    have e43 := Mono.dep_val hd hf (t := 43) (k := 8) (by kernel_rfl) rfl
    have hq := Q_me.out
    clear hd hf
    (go_simp; try with_reducible rfl)
  refine Mono.hgl_val (v := ?v10) rfl Mono.rr (fun ρ a W hR hd hf => ?h10) ?_
  case h10 =>
    have e4 := Mono.init_get hf (t := 4) (by kernel_rfl)
    clear hd hf
    (go_simp; try with_reducible rfl)
  refine Mono.hgl_val (v := ?v11) rfl Mono.rr (fun ρ a W hR hd hf => ?h11) ?_
  case h11 =>
    have e45 := Mono.dep_val hd hf (t := 45) (k := 10) (by kernel_rfl) rfl
    have hq := Q_C.out
    clear hd hf
    (go_simp; try with_reducible rfl)
  refine Mono.hgl_val (v := ?v12) rfl Mono.rr (fun ρ a W hR hd hf => ?h12) ?_
  case h12 =>
    have e3 := Mono.init_get hf (t := 3) (by kernel_rfl)
    clear hd hf
    (go_simp; try with_reducible rfl)
  refine Mono.hgl_val (v := ?v13) rfl Mono.rr (fun ρ a W hR hd hf => ?h13) ?_
  case h13 =>
    have e47 := Mono.dep_val hd hf (t := 47) (k := 12) (by kernel_rfl) rfl
    have hq := Q_D.out
    clear hd hf
    (go_simp; try with_reducible rfl)
  refine Mono.hgl_pred (fun z W => SU .u64 W z [(45 : Int), (f : Int), (me : Int), (C : Int), (D : Int)]) rfl hstSU (fun ρ a W hR hd hf => ?h14) ?_
  case h14 =>
    have e38 := Mono.dep_val hd hf (t := 38) (k := 3) (by kernel_rfl) rfl
    have e41 := Mono.dep_val hd hf (t := 41) (k := 6) (by kernel_rfl) rfl
    have e44 := Mono.dep_val hd hf (t := 44) (k := 9) (by kernel_rfl) rfl
    have e46 := Mono.dep_val hd hf (t := 46) (k := 11) (by kernel_rfl) rfl
    have e48 := Mono.dep_val hd hf (t := 48) (k := 13) (by kernel_rfl) rfl
    clear hd hf
    exact ⟨_, _, by go_simp; rfl, (Below.refl _ _).alloc (Nat.le_refl _) _, SU.new .u64 W _ _⟩
  refine Mono.hgl_call (fun z W => Byt W W.heap.size z (bys 2 [(45 : Int), (f : Int), (me : Int), (C : Int), (D : Int)])) rfl Mono.rr hstB2 (fun ρ a W hR hd hf => ?h15) ?_
  case h15 =>
    obtain ⟨e49, d14⟩ := Mono.dep_get hd hf (t := 49) (k := 14) (by kernel_rfl)
    replace d14 : (fun z W => SU .u64 W z [(45 : Int), (f : Int), (me : Int), (C : Int), (D : Int)]) (ρ 14) W := d14
    clear hd hf
    refine ⟨_, _, by go_simp; first | rfl | exact ⟨rfl, rfl⟩, ?_⟩
    exact (put27_any 2 (by decide) d14 (by simp) HQ1.out).mono (fun e W' ⟨v', he, ho, hb⟩ => ⟨v', he, hb, OB.byt ho⟩)
  refine Mono.hgl_done rfl (by decide) (fun ρ W hR ht => ?_)
  simp only [List.take_succ_cons, List.take_zero, List.drop_succ_cons, List.drop_zero]
  obtain ⟨d15, d14, d13, d12, d11, d10, d9, d8, d7, d6, d5, d4, d3, d2, d1, d0, _⟩ := ht
  replace d14 : (fun z W => SU .u64 W z [(45 : Int), (f : Int), (me : Int), (C : Int), (D : Int)]) (ρ 14) W := d14
  replace d15 : (fun z W => Byt W W.heap.size z (bys 2 [(45 : Int), (f : Int), (me : Int), (C : Int), (D : Int)])) (ρ 15) W := d15
  simp only [List.length_cons, List.length_nil, Nat.reduceAdd] at d0 d1 d2 d3 d4 d5 d6 d7 d8 d9 d10 d11 d12 d13
  simp only [Mono.putAll, Nat.reduceAdd, d0, d1, d2, d3, d4, d5, d6, d7, d8, d9, d10, d11, d12, d13, Act.put, List.setIfInBounds_toArray, List.set_cons_zero, List.set_cons_succ]
  clear d0 d1 d2 d3 d4 d5 d6 d7 d8 d9 d10 d11 d12 d13
  generalize ρ 14 = r14 at *
  generalize ρ 15 = r15 at *
  have hzW := hR.size
  have HO := Lib.hid (HO.out.below hR)
  have HBG := Lib.hid (HBF.out.trans (hR.mono hzF))
  have HU := Lib.hid d15
  clear hR d15 d14 HBF
  obtain ⟨wG, rfl⟩ : ∃ z : World, z = W := ⟨_, rfl⟩
  go_wp2_with (at_builtin; refine append_OB rfl _ _ rfl rfl HO.out rfl HU.out (by simp [bys_length]) (by omega) ?_)
  intro vH wH ho bb
  have HO := Lib.hid ho
  have HBH := Lib.hid (HBG.out.trans bb)
  have hzH : wE.heap.size ≤ wH.heap.size := HBH.out.size
  clear ho bb HU HBG hzW hzF
  have k8 := (HTE.out.below HBH.out (by omega)) 8 _ rfl
  have hq := Q_cr.out
  go_wp2_with (fail)
  refine (put27_any 4 (by decide) (HP2.out _) (by simp) HQ2.out).mono ?_
  rintro e wI ⟨uI, rfl, ho, bb⟩
  have hzb := bb.size
  simp only [World.size_alloc] at hzb
  have hbb : Below wH.heap.size wH wI := ((Below.refl _ _).alloc (Nat.le_refl _) _).trans (bb.mono (by simp))
  have HU := Lib.hid (OB.byt ho)
  have HO := Lib.hid (HO.out.below hbb)
  have HBI := Lib.hid (HBH.out.trans (hbb.mono (by omega)))
  have hzI : wE.heap.size ≤ wI.heap.size := HBI.out.size
  clear ho bb hzb hbb HBH k8 hq
  go_wp2_with (at_builtin; refine append_OB rfl _ _ rfl rfl HO.out rfl HU.out (by simp [bys_length]) hzI ?_)
  intro vJ wJ ho bb
  have HO := Lib.hid ho
  have HBJ := Lib.hid (HBI.out.trans bb)
  have hzJ : wE.heap.size ≤ wJ.heap.size := HBJ.out.size
  clear ho bb HU HBI hzI hzH
  have k0 := (HCE.out.below HBJ.out (by omega)) 0 _ rfl
  have hq := Q_nm.out
  go_wp2_with (fail)
  refine (put27_any 2 (by decide) (HP3.out _) (by simp) HQ3.out).mono ?_
  rintro e wK ⟨uK, rfl, ho, bb⟩
  have hzb := bb.size
  simp only [World.size_alloc] at hzb
  have hbb : Below wJ.heap.size wJ wK := ((Below.refl _ _).alloc (Nat.le_refl _) _).trans (bb.mono (by simp))
  have HU := Lib.hid (OB.byt ho)
  have HO := Lib.hid (HO.out.below hbb)
  have HBK := Lib.hid (HBJ.out.trans (hbb.mono (by omega)))
  have hzK : wE.heap.size ≤ wK.heap.size := HBK.out.size
  clear ho bb hzb hbb HBJ k0 hq
  go_wp2_with (at_builtin; refine append_OB rfl _ _ rfl rfl HO.out rfl HU.out (by simp [bys_length]) hzK ?_)
  intro vL wL ho bb
  have HO := Lib.hid ho
  have HBL := Lib.hid (HBK.out.trans bb)
  have hzL : wE.heap.size ≤ wL.heap.size := HBL.out.size
  clear ho bb HU HBK hzK hzJ
  have k0 := (HCE.out.below HBL.out (by omega)) 0 _ rfl
  go_wp2_with (at_builtin; refine append_OS rfl _ _ rfl rfl HO.out rfl (by simp only [List.length_append, bys_length, byt_length, List.length_cons, List.length_nil, Array.length_toList]; have : nm.data.size = nm.size := rfl; omega) hzL ?_)
  intro vM wM ho bb
  have HO := Lib.hid ho
  have HBM := Lib.hid (HBL.out.trans bb)
  have hzM : wE.heap.size ≤ wM.heap.size := HBM.out.size
  have HXM := Lib.hid (HX.out.below HBM.out)
  clear ho bb HBL hzL k0
  go_wp2_with (at_builtin; refine append_OB rfl _ _ rfl rfl HO.out rfl HXM.out (by simp only [List.length_append, bys_length, byt_length, List.length_cons, List.length_nil, Array.length_toList]; have : nm.data.size = nm.size := rfl; omega) hzM ?_)
  intro vN wN ho bb
  have HO := Lib.hid ho
  have HBN := Lib.hid (HBM.out.trans bb)
  clear ho bb
  go_wp2_with (fail)
  go_ret
  exact ⟨_, rfl, OB.mono (base := wE.heap.size) HO.out (by omega), HBE.out.trans (HBN.out.mono (by omega))⟩
set_option maxHeartbeats 4000000 in
theorem refLenc_ft (nm : ByteArray) (y mo da ho mi se : Int) (me cr pk sz f D C : Nat) (w : World) (hnm : nm.size ≤ 255) (hme : me ≤ 8) (hcr : cr < 4294967296) (hpk : pk ≤ 33554432) (hsz : sz ≤ 16777216) (hf : f ≤ 4000) (hD : D ≤ 65535) (hC : C ≤ 65535)
    (HE : Hid (∀ W, Calls Tryd.prog 30 #[.agg #[.int .i64 y, .int .i64 mo, .int .i64 da, .int .i64 ho, .int .i64 mi, .int .i64 se]] W fun e w' => e = .returned (.tuple #[.int .i64 (D : Nat), .int .i64 (C : Nat)]) ∧ Below W.heap.size W w'))
    (HV : Hid (∀ W, Calls Tryd.prog 12 #[.agg #[.string nm, .int .i64 y, .int .i64 mo, .int .i64 da, .int .i64 ho, .int .i64 mi, .int .i64 se, .int .i64 (me : Nat), .int .u32 (cr : Nat), .int .i64 (pk : Nat), .int .i64 (sz : Nat), .bool false, .bool true]] W (CQ (.int .i64 20) W)))
    (HT : Hid (∀ W, Calls Tryd.prog 31 #[.agg #[.string nm, .int .i64 y, .int .i64 mo, .int .i64 da, .int .i64 ho, .int .i64 mi, .int .i64 se, .int .i64 (me : Nat), .int .u32 (cr : Nat), .int .i64 (pk : Nat), .int .i64 (sz : Nat), .bool false, .bool true]] W (CQ (.agg #[.string nm, .int .i64 y, .int .i64 mo, .int .i64 da, .int .i64 ho, .int .i64 mi, .int .i64 se, .int .i64 (me : Nat), .int .u32 0, .int .i64 0, .int .i64 0, .bool false, .bool true]) W)))
    (HF : Hid (∀ W, Calls Tryd.prog 14 #[.agg #[.string nm, .int .i64 y, .int .i64 mo, .int .i64 da, .int .i64 ho, .int .i64 mi, .int .i64 se, .int .i64 (me : Nat), .int .u32 (cr : Nat), .int .i64 (pk : Nat), .int .i64 (sz : Nat), .bool false, .bool true]] W (CQ (.int .i64 (f : Nat)) W))) :
    Calls Tryd.prog 15 #[.agg #[.string nm, .int .i64 y, .int .i64 mo, .int .i64 da, .int .i64 ho, .int .i64 mi, .int .i64 se, .int .i64 (me : Nat), .int .u32 (cr : Nat), .int .i64 (pk : Nat), .int .i64 (sz : Nat), .bool false, .bool true]] w fun e w' => ∃ v, e = .returned v ∧ OB w.heap.size w' v (((((bys 4 [(67324752 : Int)] ++ bys 2 [(20 : Int), (f : Int), (me : Int), (C : Int), (D : Int)]) ++ bys 4 [(0 : Int), (0 : Int), (0 : Int)]) ++ bys 2 [(nm.size : Int), (0 : Int)]) ++ nm.data.toList) ++ ([] : List UInt8)) ∧ Below w.heap.size w w' := by
  have HB := Lib.hid ((Below.refl w.heap.size w).alloc (Nat.le_refl _) (.cells #[.string nm, .int .i64 y, .int .i64 mo, .int .i64 da, .int .i64 ho, .int .i64 mi, .int .i64 se, .int .i64 (me : Nat), .int .u32 (cr : Nat), .int .i64 (pk : Nat), .int .i64 (sz : Nat), .bool false, .bool true] 28))
  have HC := Lib.hid (Cells.new_at w [.string nm, .int .i64 y, .int .i64 mo, .int .i64 da, .int .i64 ho, .int .i64 mi, .int .i64 se, .int .i64 (me : Nat), .int .u32 (cr : Nat), .int .i64 (pk : Nat), .int .i64 (sz : Nat), .bool false, .bool true] 28 w.heap.size rfl)
  have q_pk : IntKind.u64.wrap (pk : Int) = pk := by rw [IntKind.wrap_u64]; omega
  have q_sz : IntKind.u64.wrap (sz : Int) = sz := by rw [IntKind.wrap_u64]; omega
  have Q_cr : Hid (IntKind.u64.wrap (cr : Int) = cr) := Lib.hid (by rw [IntKind.wrap_u64]; omega)
  have Q_me : Hid (IntKind.u64.wrap (me : Int) = me) := Lib.hid (by rw [IntKind.wrap_u64]; omega)
  have Q_f : Hid (IntKind.u64.wrap (f : Int) = f) := Lib.hid (by rw [IntKind.wrap_u64]; omega)
  have Q_D : Hid (IntKind.u64.wrap (D : Int) = D) := Lib.hid (by rw [IntKind.wrap_u64]; omega)
  have Q_C : Hid (IntKind.u64.wrap (C : Int) = C) := Lib.hid (by rw [IntKind.wrap_u64]; omega)
  have Q_nm : Hid (IntKind.u64.wrap (nm.size : Int) = nm.size) := Lib.hid (by rw [IntKind.wrap_u64]; omega)
  have HP0 := Lib.hid (fun (W : World) => SU.new .u64 W [(67324752 : Int)] 56)
  have HQ0 : Hid (∀ x ∈ ([(67324752 : Int)] : List Int), 0 ≤ x ∧ x < 18446744073709551616) := Lib.hid (by intro x hx; simp only [List.mem_cons, List.not_mem_nil, or_false] at hx; omega)
  have HP1 := Lib.hid (fun (W : World) => SU.new .u64 W [(20 : Int), (f : Int), (me : Int), (C : Int), (D : Int)] 56)
  have HQ1 : Hid (∀ x ∈ ([(20 : Int), (f : Int), (me : Int), (C : Int), (D : Int)] : List Int), 0 ≤ x ∧ x < 18446744073709551616) := Lib.hid (by intro x hx; simp only [List.mem_cons, List.not_mem_nil, or_false] at hx; omega)
  have HP2 := Lib.hid (fun (W : World) => SU.new .u64 W [(0 : Int), (0 : Int), (0 : Int)] 56)
  have HQ2 : Hid (∀ x ∈ ([(0 : Int), (0 : Int), (0 : Int)] : List Int), 0 ≤ x ∧ x < 18446744073709551616) := Lib.hid (by intro x hx; simp only [List.mem_cons, List.not_mem_nil, or_false] at hx; omega)
  have HP3 := Lib.hid (fun (W : World) => SU.new .u64 W [(nm.size : Int), (0 : Int)] 56)
  have HQ3 : Hid (∀ x ∈ ([(nm.size : Int), (0 : Int)] : List Int), 0 ≤ x ∧ x < 18446744073709551616) := Lib.hid (by intro x hx; simp only [List.mem_cons, List.not_mem_nil, or_false] at hx; omega)
  go_enter Tryd.func15, Tryd.ntmps15
  go_wp2_with (fail)
  refine (HE.out _).mono ?_
  rintro e w1 ⟨rfl, b1⟩
  have hz1 := b1.size
  simp only [World.size_alloc] at hz1
  have HB1 := Lib.hid (HB.out.trans (b1.mono (by simp)))
  have HC1 := Lib.hid (HC.out.below b1 (by simp))
  clear b1 HB HC
  have k0 := HC1.out 0 _ rfl
  have k1 := HC1.out 1 _ rfl
  have k2 := HC1.out 2 _ rfl
  have k3 := HC1.out 3 _ rfl
  have k4 := HC1.out 4 _ rfl
  have k5 := HC1.out 5 _ rfl
  have k6 := HC1.out 6 _ rfl
  have k7 := HC1.out 7 _ rfl
  have k8 := HC1.out 8 _ rfl
  have k9 := HC1.out 9 _ rfl
  have k10 := HC1.out 10 _ rfl
  have k11 := HC1.out 11 _ rfl
  have k12 := HC1.out 12 _ rfl
  go_wp2_with (fail)
  refine (HT.out _).mono ?_
  rintro e w2 ⟨rfl, b2⟩
  have hz2 := b2.size
  have HB2 := Lib.hid ((HB1.out.trans (b2.mono (by omega))).alloc (by omega) (.cells #[.string nm, .int .i64 y, .int .i64 mo, .int .i64 da, .int .i64 ho, .int .i64 mi, .int .i64 se, .int .i64 (me : Nat), .int .u32 0, .int .i64 0, .int .i64 0, .bool false, .bool true] 28))
  have HC2 := Lib.hid ((HC1.out.below b2 (by omega)).below ((Below.refl w2.heap.size w2).alloc (Nat.le_refl _) (.cells #[.string nm, .int .i64 y, .int .i64 mo, .int .i64 da, .int .i64 ho, .int .i64 mi, .int .i64 se, .int .i64 (me : Nat), .int .u32 0, .int .i64 0, .int .i64 0, .bool false, .bool true] 28)) (by omega))
  have HT2 := Lib.hid (Cells.new_at w2 [.string nm, .int .i64 y, .int .i64 mo, .int .i64 da, .int .i64 ho, .int .i64 mi, .int .i64 se, .int .i64 (me : Nat), .int .u32 0, .int .i64 0, .int .i64 0, .bool false, .bool true] 28 w2.heap.size rfl)
  have hz3 : w2.heap.size + 1 ≤ (w2.alloc (.cells #[.string nm, .int .i64 y, .int .i64 mo, .int .i64 da, .int .i64 ho, .int .i64 mi, .int .i64 se, .int .i64 (me : Nat), .int .u32 0, .int .i64 0, .int .i64 0, .bool false, .bool true] 28)).heap.size := by simp
  clear b2 HB1 HC1 k0 k1 k2 k3 k4 k5 k6 k7 k8 k9 k10 k11 k12
  go_wp2_with (fail)
  go_quiet (fail)
  have HB3 := Lib.hid (below_drewN HB2.out nq)
  have HC3 := Lib.hid (HC2.out.drewN nq)
  have HT3 := Lib.hid (HT2.out.drewN nq)
  have hz3' : w2.heap.size + 1 ≤ ((w2.alloc (.cells #[.string nm, .int .i64 y, .int .i64 mo, .int .i64 da, .int .i64 ho, .int .i64 mi, .int .i64 se, .int .i64 (me : Nat), .int .u32 0, .int .i64 0, .int .i64 0, .bool false, .bool true] 28)).drewN nq).heap.size := hz3
  clear HB2 HC2 HT2 hz3 q_pk q_sz
  generalize (w2.alloc (.cells #[.string nm, .int .i64 y, .int .i64 mo, .int .i64 da, .int .i64 ho, .int .i64 mi, .int .i64 se, .int .i64 (me : Nat), .int .u32 0, .int .i64 0, .int .i64 0, .bool false, .bool true] 28)).drewN nq = w3 at *
  have k11 := HC3.out 11 _ rfl
  obtain ⟨wE, hwE⟩ : ∃ z, z = w3 := ⟨_, rfl⟩
  subst hwE
  have HX := Lib.hid (nil_byt wE)
  have HBE := HB3
  have HCE := HC3
  have HTE := HT3
  have hzE := hz3'
  clear HB3 HC3 HT3 hz3'
  go_wp2_with (fail)
  refine (put27_any 4 (by decide) (HP0.out _) (by simp) HQ0.out).mono ?_
  rintro e wF ⟨uF, rfl, ho, bb⟩
  have hzb := bb.size
  simp only [World.size_alloc] at hzb
  have hbb : Below wE.heap.size wE wF := ((Below.refl _ _).alloc (Nat.le_refl _) _).trans (bb.mono (by simp))
  clear k11
  have HO : Hid (OB wE.heap.size wF uF (bys 4 [(67324752 : Int)])) := Lib.hid (OB.mono ho (by simp))
  have HBF := Lib.hid hbb
  have hzF : wE.heap.size ≤ wF.heap.size := by omega
  clear ho bb hzb hbb
  go_wp2_with (fail)
  refine Mono.region_tail 16 (by kernel_rfl) (by kernel_rfl) (by kernel_rfl) (by kernel_rfl) ?_
  simp only [List.take_succ_cons, List.take_zero]
  refine Mono.hgl_val (v := ?v0) rfl Mono.rr (fun ρ a W hR hd hf => ?h0) ?_
  case h0 =>
    have e9 := Mono.init_get hf (t := 9) (by kernel_rfl)
    clear hd hf
    (go_simp; try with_reducible rfl)
  refine Mono.hgl_val (v := ?v1) rfl Mono.rr (fun ρ a W hR hd hf => ?h1) ?_
  case h1 =>
    have e1 := Mono.init_get hf (t := 1) (by kernel_rfl)
    have hk0 := (HCE.out.below (HBF.out.trans (hR.mono hzF)) (by omega) : Cells W _ _) 0 _ rfl
    have hk1 := (HCE.out.below (HBF.out.trans (hR.mono hzF)) (by omega) : Cells W _ _) 1 _ rfl
    have hk2 := (HCE.out.below (HBF.out.trans (hR.mono hzF)) (by omega) : Cells W _ _) 2 _ rfl
    have hk3 := (HCE.out.below (HBF.out.trans (hR.mono hzF)) (by omega) : Cells W _ _) 3 _ rfl
    have hk4 := (HCE.out.below (HBF.out.trans (hR.mono hzF)) (by omega) : Cells W _ _) 4 _ rfl
    have hk5 := (HCE.out.below (HBF.out.trans (hR.mono hzF)) (by omega) : Cells W _ _) 5 _ rfl
    have hk6 := (HCE.out.below (HBF.out.trans (hR.mono hzF)) (by omega) : Cells W _ _) 6 _ rfl
    have hk7 := (HCE.out.below (HBF.out.trans (hR.mono hzF)) (by omega) : Cells W _ _) 7 _ rfl
    have hk8 := (HCE.out.below (HBF.out.trans (hR.mono hzF)) (by omega) : Cells W _ _) 8 _ rfl
    have hk9 := (HCE.out.below (HBF.out.trans (hR.mono hzF)) (by omega) : Cells W _ _) 9 _ rfl
    have hk10 := (HCE.out.below (HBF.out.trans (hR.mono hzF)) (by omega) : Cells W _ _) 10 _ rfl
    have hk11 := (HCE.out.below (HBF.out.trans (hR.mono hzF)) (by omega) : Cells W _ _) 11 _ rfl
    have hk12 := (HCE.out.below (HBF.out.trans (hR.mono hzF)) (by omega) : Cells W _ _) 12 _ rfl
    clear hd hf
    (go_simp; try with_reducible rfl)
  refine Mono.hgl_call (fun x _ => x = .int .i64 20) rfl Mono.rr (fun _ _ _ h _ => h) (fun ρ a W hR hd hf => ?h2) ?_
  case h2 =>
    have e36 := Mono.dep_val hd hf (t := 36) (k := 1) (by kernel_rfl) rfl
    clear hd hf
    refine ⟨_, _, by go_simp; first | rfl | exact ⟨rfl, rfl⟩, ?_⟩
    exact (HV.out W).mono (fun e W' ⟨he, hb⟩ => ⟨_, he, hb, rfl⟩)
  refine Mono.hgl_val (v := ?v3) rfl Mono.rr (fun ρ a W hR hd hf => ?h3) ?_
  case h3 =>
    have e37 := Mono.dep_val hd hf (t := 37) (k := 2) (by kernel_rfl) rfl
    clear hd hf
    (go_simp; try with_reducible rfl)
  refine Mono.hgl_val (v := ?v4) rfl Mono.rr (fun ρ a W hR hd hf => ?h4) ?_
  case h4 =>
    have e1 := Mono.init_get hf (t := 1) (by kernel_rfl)
    have hk0 := (HCE.out.below (HBF.out.trans (hR.mono hzF)) (by omega) : Cells W _ _) 0 _ rfl
    have hk1 := (HCE.out.below (HBF.out.trans (hR.mono hzF)) (by omega) : Cells W _ _) 1 _ rfl
    have hk2 := (HCE.out.below (HBF.out.trans (hR.mono hzF)) (by omega) : Cells W _ _) 2 _ rfl
    have hk3 := (HCE.out.below (HBF.out.trans (hR.mono hzF)) (by omega) : Cells W _ _) 3 _ rfl
    have hk4 := (HCE.out.below (HBF.out.trans (hR.mono hzF)) (by omega) : Cells W _ _) 4 _ rfl
    have hk5 := (HCE.out.below (HBF.out.trans (hR.mono hzF)) (by omega) : Cells W _ _) 5 _ rfl
    have hk6 := (HCE.out.below (HBF.out.trans (hR.mono hzF)) (by omega) : Cells W _ _) 6 _ rfl
    have hk7 := (HCE.out.below (HBF.out.trans (hR.mono hzF)) (by omega) : Cells W _ _) 7 _ rfl
    have hk8 := (HCE.out.below (HBF.out.trans (hR.mono hzF)) (by omega) : Cells W _ _) 8 _ rfl
    have hk9 := (HCE.out.below (HBF.out.trans (hR.mono hzF)) (by omega) : Cells W _ _) 9 _ rfl
    have hk10 := (HCE.out.below (HBF.out.trans (hR.mono hzF)) (by omega) : Cells W _ _) 10 _ rfl
    have hk11 := (HCE.out.below (HBF.out.trans (hR.mono hzF)) (by omega) : Cells W _ _) 11 _ rfl
    have hk12 := (HCE.out.below (HBF.out.trans (hR.mono hzF)) (by omega) : Cells W _ _) 12 _ rfl
    clear hd hf
    (go_simp; try with_reducible rfl)
  refine Mono.hgl_call (fun x _ => x = .int .i64 ((f : Nat) : Int)) rfl Mono.rr (fun _ _ _ h _ => h) (fun ρ a W hR hd hf => ?h5) ?_
  case h5 =>
    have e39 := Mono.dep_val hd hf (t := 39) (k := 4) (by kernel_rfl) rfl
    clear hd hf
    refine ⟨_, _, by go_simp; first | rfl | exact ⟨rfl, rfl⟩, ?_⟩
    exact (HF.out W).mono (fun e W' ⟨he, hb⟩ => ⟨_, he, hb, rfl⟩)
  refine Mono.hgl_val (v := ?v6) rfl Mono.rr (fun ρ a W hR hd hf => ?h6) ?_
  case h6 =>
    have e40 := Mono.dep_val hd hf (t := 40) (k := 5) (by kernel_rfl) rfl
    have hq := Q_f.out
    clear hd hf
    (go_simp; try with_reducible rfl)
  refine Mono.hgl_val (v := ?v7) rfl Mono.rr (fun ρ a W hR hd hf => ?h7) ?_
  case h7 =>
    have e1 := Mono.init_get hf (t := 1) (by kernel_rfl)
    clear hd hf
    (go_simp; try with_reducible rfl)
  refine Mono.hgl_val (v := ?v8) rfl Mono.rr (fun ρ a W hR hd hf => ?h8) ?_
  case h8 =>
    have e42 := Mono.dep_val hd hf (t := 42) (k := 7) (by kernel_rfl) rfl
    have hk7 := (HCE.out.below (HBF.out.trans (hR.mono hzF)) (by omega) : Cells W _ _) 7 _ rfl
    clear hd hf
    (go_simp; try with_reducible rfl)
  refine Mono.hgl_val (v := ?v9) rfl Mono.rr (fun ρ a W hR hd hf => ?h9) ?_
  case h9 =>
    have e43 := Mono.dep_val hd hf (t := 43) (k := 8) (by kernel_rfl) rfl
    have hq := Q_me.out
    clear hd hf
    (go_simp; try with_reducible rfl)
  refine Mono.hgl_val (v := ?v10) rfl Mono.rr (fun ρ a W hR hd hf => ?h10) ?_
  case h10 =>
    have e4 := Mono.init_get hf (t := 4) (by kernel_rfl)
    clear hd hf
    (go_simp; try with_reducible rfl)
  refine Mono.hgl_val (v := ?v11) rfl Mono.rr (fun ρ a W hR hd hf => ?h11) ?_
  case h11 =>
    have e45 := Mono.dep_val hd hf (t := 45) (k := 10) (by kernel_rfl) rfl
    have hq := Q_C.out
    clear hd hf
    (go_simp; try with_reducible rfl)
  refine Mono.hgl_val (v := ?v12) rfl Mono.rr (fun ρ a W hR hd hf => ?h12) ?_
  case h12 =>
    have e3 := Mono.init_get hf (t := 3) (by kernel_rfl)
    clear hd hf
    (go_simp; try with_reducible rfl)
  refine Mono.hgl_val (v := ?v13) rfl Mono.rr (fun ρ a W hR hd hf => ?h13) ?_
  case h13 =>
    have e47 := Mono.dep_val hd hf (t := 47) (k := 12) (by kernel_rfl) rfl
    have hq := Q_D.out
    clear hd hf
    (go_simp; try with_reducible rfl)
  refine Mono.hgl_pred (fun z W => SU .u64 W z [(20 : Int), (f : Int), (me : Int), (C : Int), (D : Int)]) rfl hstSU (fun ρ a W hR hd hf => ?h14) ?_
  case h14 =>
    have e38 := Mono.dep_val hd hf (t := 38) (k := 3) (by kernel_rfl) rfl
    have e41 := Mono.dep_val hd hf (t := 41) (k := 6) (by kernel_rfl) rfl
    have e44 := Mono.dep_val hd hf (t := 44) (k := 9) (by kernel_rfl) rfl
    have e46 := Mono.dep_val hd hf (t := 46) (k := 11) (by kernel_rfl) rfl
    have e48 := Mono.dep_val hd hf (t := 48) (k := 13) (by kernel_rfl) rfl
    clear hd hf
    exact ⟨_, _, by go_simp; rfl, (Below.refl _ _).alloc (Nat.le_refl _) _, SU.new .u64 W _ _⟩
  refine Mono.hgl_call (fun z W => Byt W W.heap.size z (bys 2 [(20 : Int), (f : Int), (me : Int), (C : Int), (D : Int)])) rfl Mono.rr hstB2 (fun ρ a W hR hd hf => ?h15) ?_
  case h15 =>
    obtain ⟨e49, d14⟩ := Mono.dep_get hd hf (t := 49) (k := 14) (by kernel_rfl)
    replace d14 : (fun z W => SU .u64 W z [(20 : Int), (f : Int), (me : Int), (C : Int), (D : Int)]) (ρ 14) W := d14
    clear hd hf
    refine ⟨_, _, by go_simp; first | rfl | exact ⟨rfl, rfl⟩, ?_⟩
    exact (put27_any 2 (by decide) d14 (by simp) HQ1.out).mono (fun e W' ⟨v', he, ho, hb⟩ => ⟨v', he, hb, OB.byt ho⟩)
  refine Mono.hgl_done rfl (by decide) (fun ρ W hR ht => ?_)
  simp only [List.take_succ_cons, List.take_zero, List.drop_succ_cons, List.drop_zero]
  obtain ⟨d15, d14, d13, d12, d11, d10, d9, d8, d7, d6, d5, d4, d3, d2, d1, d0, _⟩ := ht
  replace d14 : (fun z W => SU .u64 W z [(20 : Int), (f : Int), (me : Int), (C : Int), (D : Int)]) (ρ 14) W := d14
  replace d15 : (fun z W => Byt W W.heap.size z (bys 2 [(20 : Int), (f : Int), (me : Int), (C : Int), (D : Int)])) (ρ 15) W := d15
  simp only [List.length_cons, List.length_nil, Nat.reduceAdd] at d0 d1 d2 d3 d4 d5 d6 d7 d8 d9 d10 d11 d12 d13
  simp only [Mono.putAll, Nat.reduceAdd, d0, d1, d2, d3, d4, d5, d6, d7, d8, d9, d10, d11, d12, d13, Act.put, List.setIfInBounds_toArray, List.set_cons_zero, List.set_cons_succ]
  clear d0 d1 d2 d3 d4 d5 d6 d7 d8 d9 d10 d11 d12 d13
  generalize ρ 14 = r14 at *
  generalize ρ 15 = r15 at *
  have hzW := hR.size
  have HO := Lib.hid (HO.out.below hR)
  have HBG := Lib.hid (HBF.out.trans (hR.mono hzF))
  have HU := Lib.hid d15
  clear hR d15 d14 HBF
  obtain ⟨wG, rfl⟩ : ∃ z : World, z = W := ⟨_, rfl⟩
  go_wp2_with (at_builtin; refine append_OB rfl _ _ rfl rfl HO.out rfl HU.out (by simp [bys_length]) (by omega) ?_)
  intro vH wH ho bb
  have HO := Lib.hid ho
  have HBH := Lib.hid (HBG.out.trans bb)
  have hzH : wE.heap.size ≤ wH.heap.size := HBH.out.size
  clear ho bb HU HBG hzW hzF
  have k8 := (HTE.out.below HBH.out (by omega)) 8 _ rfl
  have hq := Q_cr.out
  go_wp2_with (fail)
  refine (put27_any 4 (by decide) (HP2.out _) (by simp) HQ2.out).mono ?_
  rintro e wI ⟨uI, rfl, ho, bb⟩
  have hzb := bb.size
  simp only [World.size_alloc] at hzb
  have hbb : Below wH.heap.size wH wI := ((Below.refl _ _).alloc (Nat.le_refl _) _).trans (bb.mono (by simp))
  have HU := Lib.hid (OB.byt ho)
  have HO := Lib.hid (HO.out.below hbb)
  have HBI := Lib.hid (HBH.out.trans (hbb.mono (by omega)))
  have hzI : wE.heap.size ≤ wI.heap.size := HBI.out.size
  clear ho bb hzb hbb HBH k8 hq
  go_wp2_with (at_builtin; refine append_OB rfl _ _ rfl rfl HO.out rfl HU.out (by simp [bys_length]) hzI ?_)
  intro vJ wJ ho bb
  have HO := Lib.hid ho
  have HBJ := Lib.hid (HBI.out.trans bb)
  have hzJ : wE.heap.size ≤ wJ.heap.size := HBJ.out.size
  clear ho bb HU HBI hzI hzH
  have k0 := (HCE.out.below HBJ.out (by omega)) 0 _ rfl
  have hq := Q_nm.out
  go_wp2_with (fail)
  refine (put27_any 2 (by decide) (HP3.out _) (by simp) HQ3.out).mono ?_
  rintro e wK ⟨uK, rfl, ho, bb⟩
  have hzb := bb.size
  simp only [World.size_alloc] at hzb
  have hbb : Below wJ.heap.size wJ wK := ((Below.refl _ _).alloc (Nat.le_refl _) _).trans (bb.mono (by simp))
  have HU := Lib.hid (OB.byt ho)
  have HO := Lib.hid (HO.out.below hbb)
  have HBK := Lib.hid (HBJ.out.trans (hbb.mono (by omega)))
  have hzK : wE.heap.size ≤ wK.heap.size := HBK.out.size
  clear ho bb hzb hbb HBJ k0 hq
  go_wp2_with (at_builtin; refine append_OB rfl _ _ rfl rfl HO.out rfl HU.out (by simp [bys_length]) hzK ?_)
  intro vL wL ho bb
  have HO := Lib.hid ho
  have HBL := Lib.hid (HBK.out.trans bb)
  have hzL : wE.heap.size ≤ wL.heap.size := HBL.out.size
  clear ho bb HU HBK hzK hzJ
  have k0 := (HCE.out.below HBL.out (by omega)) 0 _ rfl
  go_wp2_with (at_builtin; refine append_OS rfl _ _ rfl rfl HO.out rfl (by simp only [List.length_append, bys_length, byt_length, List.length_cons, List.length_nil, Array.length_toList]; have : nm.data.size = nm.size := rfl; omega) hzL ?_)
  intro vM wM ho bb
  have HO := Lib.hid ho
  have HBM := Lib.hid (HBL.out.trans bb)
  have hzM : wE.heap.size ≤ wM.heap.size := HBM.out.size
  have HXM := Lib.hid (HX.out.below HBM.out)
  clear ho bb HBL hzL k0
  go_wp2_with (at_builtin; refine append_OB rfl _ _ rfl rfl HO.out rfl HXM.out (by simp only [List.length_append, bys_length, byt_length, List.length_cons, List.length_nil, Array.length_toList]; have : nm.data.size = nm.size := rfl; omega) hzM ?_)
  intro vN wN ho bb
  have HO := Lib.hid ho
  have HBN := Lib.hid (HBM.out.trans bb)
  clear ho bb
  go_wp2_with (fail)
  go_ret
  exact ⟨_, rfl, OB.mono (base := wE.heap.size) (by simpa [List.append_assoc] using HO.out) (by omega), HBE.out.trans (HBN.out.mono (by omega))⟩
set_option maxHeartbeats 4000000 in
theorem refLenc_ff (nm : ByteArray) (y mo da ho mi se : Int) (me cr pk sz f D C : Nat) (w : World) (hnm : nm.size ≤ 255) (hme : me ≤ 8) (hcr : cr < 4294967296) (hpk : pk ≤ 33554432) (hsz : sz ≤ 16777216) (hf : f ≤ 4000) (hD : D ≤ 65535) (hC : C ≤ 65535)
    (HE : Hid (∀ W, Calls Tryd.prog 30 #[.agg #[.int .i64 y, .int .i64 mo, .int .i64 da, .int .i64 ho, .int .i64 mi, .int .i64 se]] W fun e w' => e = .returned (.tuple #[.int .i64 (D : Nat), .int .i64 (C : Nat)]) ∧ Below W.heap.size W w'))
    (HV : Hid (∀ W, Calls Tryd.prog 12 #[.agg #[.string nm, .int .i64 y, .int .i64 mo, .int .i64 da, .int .i64 ho, .int .i64 mi, .int .i64 se, .int .i64 (me : Nat), .int .u32 (cr : Nat), .int .i64 (pk : Nat), .int .i64 (sz : Nat), .bool false, .bool false]] W (CQ (.int .i64 20) W)))
    (HT : Hid (∀ W, Calls Tryd.prog 31 #[.agg #[.string nm, .int .i64 y, .int .i64 mo, .int .i64 da, .int .i64 ho, .int .i64 mi, .int .i64 se, .int .i64 (me : Nat), .int .u32 (cr : Nat), .int .i64 (pk : Nat), .int .i64 (sz : Nat), .bool false, .bool false]] W (CQ (.agg #[.string nm, .int .i64 y, .int .i64 mo, .int .i64 da, .int .i64 ho, .int .i64 mi, .int .i64 se, .int .i64 (me : Nat), .int .u32 (cr : Nat), .int .i64 (pk : Nat), .int .i64 (sz : Nat), .bool false, .bool false]) W)))
    (HF : Hid (∀ W, Calls Tryd.prog 14 #[.agg #[.string nm, .int .i64 y, .int .i64 mo, .int .i64 da, .int .i64 ho, .int .i64 mi, .int .i64 se, .int .i64 (me : Nat), .int .u32 (cr : Nat), .int .i64 (pk : Nat), .int .i64 (sz : Nat), .bool false, .bool false]] W (CQ (.int .i64 (f : Nat)) W))) :
    Calls Tryd.prog 15 #[.agg #[.string nm, .int .i64 y, .int .i64 mo, .int .i64 da, .int .i64 ho, .int .i64 mi, .int .i64 se, .int .i64 (me : Nat), .int .u32 (cr : Nat), .int .i64 (pk : Nat), .int .i64 (sz : Nat), .bool false, .bool false]] w fun e w' => ∃ v, e = .returned v ∧ OB w.heap.size w' v (((((bys 4 [(67324752 : Int)] ++ bys 2 [(20 : Int), (f : Int), (me : Int), (C : Int), (D : Int)]) ++ bys 4 [(cr : Int), (pk : Int), (sz : Int)]) ++ bys 2 [(nm.size : Int), (0 : Int)]) ++ nm.data.toList) ++ ([] : List UInt8)) ∧ Below w.heap.size w w' := by
  have HB := Lib.hid ((Below.refl w.heap.size w).alloc (Nat.le_refl _) (.cells #[.string nm, .int .i64 y, .int .i64 mo, .int .i64 da, .int .i64 ho, .int .i64 mi, .int .i64 se, .int .i64 (me : Nat), .int .u32 (cr : Nat), .int .i64 (pk : Nat), .int .i64 (sz : Nat), .bool false, .bool false] 28))
  have HC := Lib.hid (Cells.new_at w [.string nm, .int .i64 y, .int .i64 mo, .int .i64 da, .int .i64 ho, .int .i64 mi, .int .i64 se, .int .i64 (me : Nat), .int .u32 (cr : Nat), .int .i64 (pk : Nat), .int .i64 (sz : Nat), .bool false, .bool false] 28 w.heap.size rfl)
  have q_pk : IntKind.u64.wrap (pk : Int) = pk := by rw [IntKind.wrap_u64]; omega
  have q_sz : IntKind.u64.wrap (sz : Int) = sz := by rw [IntKind.wrap_u64]; omega
  have Q_cr : Hid (IntKind.u64.wrap (cr : Int) = cr) := Lib.hid (by rw [IntKind.wrap_u64]; omega)
  have Q_me : Hid (IntKind.u64.wrap (me : Int) = me) := Lib.hid (by rw [IntKind.wrap_u64]; omega)
  have Q_f : Hid (IntKind.u64.wrap (f : Int) = f) := Lib.hid (by rw [IntKind.wrap_u64]; omega)
  have Q_D : Hid (IntKind.u64.wrap (D : Int) = D) := Lib.hid (by rw [IntKind.wrap_u64]; omega)
  have Q_C : Hid (IntKind.u64.wrap (C : Int) = C) := Lib.hid (by rw [IntKind.wrap_u64]; omega)
  have Q_nm : Hid (IntKind.u64.wrap (nm.size : Int) = nm.size) := Lib.hid (by rw [IntKind.wrap_u64]; omega)
  have HP0 := Lib.hid (fun (W : World) => SU.new .u64 W [(67324752 : Int)] 56)
  have HQ0 : Hid (∀ x ∈ ([(67324752 : Int)] : List Int), 0 ≤ x ∧ x < 18446744073709551616) := Lib.hid (by intro x hx; simp only [List.mem_cons, List.not_mem_nil, or_false] at hx; omega)
  have HP1 := Lib.hid (fun (W : World) => SU.new .u64 W [(20 : Int), (f : Int), (me : Int), (C : Int), (D : Int)] 56)
  have HQ1 : Hid (∀ x ∈ ([(20 : Int), (f : Int), (me : Int), (C : Int), (D : Int)] : List Int), 0 ≤ x ∧ x < 18446744073709551616) := Lib.hid (by intro x hx; simp only [List.mem_cons, List.not_mem_nil, or_false] at hx; omega)
  have HP2 := Lib.hid (fun (W : World) => SU.new .u64 W [(cr : Int), (pk : Int), (sz : Int)] 56)
  have HQ2 : Hid (∀ x ∈ ([(cr : Int), (pk : Int), (sz : Int)] : List Int), 0 ≤ x ∧ x < 18446744073709551616) := Lib.hid (by intro x hx; simp only [List.mem_cons, List.not_mem_nil, or_false] at hx; omega)
  have HP3 := Lib.hid (fun (W : World) => SU.new .u64 W [(nm.size : Int), (0 : Int)] 56)
  have HQ3 : Hid (∀ x ∈ ([(nm.size : Int), (0 : Int)] : List Int), 0 ≤ x ∧ x < 18446744073709551616) := Lib.hid (by intro x hx; simp only [List.mem_cons, List.not_mem_nil, or_false] at hx; omega)
  go_enter Tryd.func15, Tryd.ntmps15
  go_wp2_with (fail)
  refine (HE.out _).mono ?_
  rintro e w1 ⟨rfl, b1⟩
  have hz1 := b1.size
  simp only [World.size_alloc] at hz1
  have HB1 := Lib.hid (HB.out.trans (b1.mono (by simp)))
  have HC1 := Lib.hid (HC.out.below b1 (by simp))
  clear b1 HB HC
  have k0 := HC1.out 0 _ rfl
  have k1 := HC1.out 1 _ rfl
  have k2 := HC1.out 2 _ rfl
  have k3 := HC1.out 3 _ rfl
  have k4 := HC1.out 4 _ rfl
  have k5 := HC1.out 5 _ rfl
  have k6 := HC1.out 6 _ rfl
  have k7 := HC1.out 7 _ rfl
  have k8 := HC1.out 8 _ rfl
  have k9 := HC1.out 9 _ rfl
  have k10 := HC1.out 10 _ rfl
  have k11 := HC1.out 11 _ rfl
  have k12 := HC1.out 12 _ rfl
  go_wp2_with (fail)
  refine (HT.out _).mono ?_
  rintro e w2 ⟨rfl, b2⟩
  have hz2 := b2.size
  have HB2 := Lib.hid ((HB1.out.trans (b2.mono (by omega))).alloc (by omega) (.cells #[.string nm, .int .i64 y, .int .i64 mo, .int .i64 da, .int .i64 ho, .int .i64 mi, .int .i64 se, .int .i64 (me : Nat), .int .u32 (cr : Nat), .int .i64 (pk : Nat), .int .i64 (sz : Nat), .bool false, .bool false] 28))
  have HC2 := Lib.hid ((HC1.out.below b2 (by omega)).below ((Below.refl w2.heap.size w2).alloc (Nat.le_refl _) (.cells #[.string nm, .int .i64 y, .int .i64 mo, .int .i64 da, .int .i64 ho, .int .i64 mi, .int .i64 se, .int .i64 (me : Nat), .int .u32 (cr : Nat), .int .i64 (pk : Nat), .int .i64 (sz : Nat), .bool false, .bool false] 28)) (by omega))
  have HT2 := Lib.hid (Cells.new_at w2 [.string nm, .int .i64 y, .int .i64 mo, .int .i64 da, .int .i64 ho, .int .i64 mi, .int .i64 se, .int .i64 (me : Nat), .int .u32 (cr : Nat), .int .i64 (pk : Nat), .int .i64 (sz : Nat), .bool false, .bool false] 28 w2.heap.size rfl)
  have hz3 : w2.heap.size + 1 ≤ (w2.alloc (.cells #[.string nm, .int .i64 y, .int .i64 mo, .int .i64 da, .int .i64 ho, .int .i64 mi, .int .i64 se, .int .i64 (me : Nat), .int .u32 (cr : Nat), .int .i64 (pk : Nat), .int .i64 (sz : Nat), .bool false, .bool false] 28)).heap.size := by simp
  clear b2 HB1 HC1 k0 k1 k2 k3 k4 k5 k6 k7 k8 k9 k10 k11 k12
  go_wp2_with (fail)
  go_quiet (fail)
  have HB3 := Lib.hid (below_drewN HB2.out nq)
  have HC3 := Lib.hid (HC2.out.drewN nq)
  have HT3 := Lib.hid (HT2.out.drewN nq)
  have hz3' : w2.heap.size + 1 ≤ ((w2.alloc (.cells #[.string nm, .int .i64 y, .int .i64 mo, .int .i64 da, .int .i64 ho, .int .i64 mi, .int .i64 se, .int .i64 (me : Nat), .int .u32 (cr : Nat), .int .i64 (pk : Nat), .int .i64 (sz : Nat), .bool false, .bool false] 28)).drewN nq).heap.size := hz3
  clear HB2 HC2 HT2 hz3 q_pk q_sz
  generalize (w2.alloc (.cells #[.string nm, .int .i64 y, .int .i64 mo, .int .i64 da, .int .i64 ho, .int .i64 mi, .int .i64 se, .int .i64 (me : Nat), .int .u32 (cr : Nat), .int .i64 (pk : Nat), .int .i64 (sz : Nat), .bool false, .bool false] 28)).drewN nq = w3 at *
  have k11 := HC3.out 11 _ rfl
  obtain ⟨wE, hwE⟩ : ∃ z, z = w3 := ⟨_, rfl⟩
  subst hwE
  have HX := Lib.hid (nil_byt wE)
  have HBE := HB3
  have HCE := HC3
  have HTE := HT3
  have hzE := hz3'
  clear HB3 HC3 HT3 hz3'
  go_wp2_with (fail)
  refine (put27_any 4 (by decide) (HP0.out _) (by simp) HQ0.out).mono ?_
  rintro e wF ⟨uF, rfl, ho, bb⟩
  have hzb := bb.size
  simp only [World.size_alloc] at hzb
  have hbb : Below wE.heap.size wE wF := ((Below.refl _ _).alloc (Nat.le_refl _) _).trans (bb.mono (by simp))
  clear k11
  have HO : Hid (OB wE.heap.size wF uF (bys 4 [(67324752 : Int)])) := Lib.hid (OB.mono ho (by simp))
  have HBF := Lib.hid hbb
  have hzF : wE.heap.size ≤ wF.heap.size := by omega
  clear ho bb hzb hbb
  go_wp2_with (fail)
  refine Mono.region_tail 16 (by kernel_rfl) (by kernel_rfl) (by kernel_rfl) (by kernel_rfl) ?_
  simp only [List.take_succ_cons, List.take_zero]
  refine Mono.hgl_val (v := ?v0) rfl Mono.rr (fun ρ a W hR hd hf => ?h0) ?_
  case h0 =>
    have e9 := Mono.init_get hf (t := 9) (by kernel_rfl)
    clear hd hf
    (go_simp; try with_reducible rfl)
  refine Mono.hgl_val (v := ?v1) rfl Mono.rr (fun ρ a W hR hd hf => ?h1) ?_
  case h1 =>
    have e1 := Mono.init_get hf (t := 1) (by kernel_rfl)
    have hk0 := (HCE.out.below (HBF.out.trans (hR.mono hzF)) (by omega) : Cells W _ _) 0 _ rfl
    have hk1 := (HCE.out.below (HBF.out.trans (hR.mono hzF)) (by omega) : Cells W _ _) 1 _ rfl
    have hk2 := (HCE.out.below (HBF.out.trans (hR.mono hzF)) (by omega) : Cells W _ _) 2 _ rfl
    have hk3 := (HCE.out.below (HBF.out.trans (hR.mono hzF)) (by omega) : Cells W _ _) 3 _ rfl
    have hk4 := (HCE.out.below (HBF.out.trans (hR.mono hzF)) (by omega) : Cells W _ _) 4 _ rfl
    have hk5 := (HCE.out.below (HBF.out.trans (hR.mono hzF)) (by omega) : Cells W _ _) 5 _ rfl
    have hk6 := (HCE.out.below (HBF.out.trans (hR.mono hzF)) (by omega) : Cells W _ _) 6 _ rfl
    have hk7 := (HCE.out.below (HBF.out.trans (hR.mono hzF)) (by omega) : Cells W _ _) 7 _ rfl
    have hk8 := (HCE.out.below (HBF.out.trans (hR.mono hzF)) (by omega) : Cells W _ _) 8 _ rfl
    have hk9 := (HCE.out.below (HBF.out.trans (hR.mono hzF)) (by omega) : Cells W _ _) 9 _ rfl
    have hk10 := (HCE.out.below (HBF.out.trans (hR.mono hzF)) (by omega) : Cells W _ _) 10 _ rfl
    have hk11 := (HCE.out.below (HBF.out.trans (hR.mono hzF)) (by omega) : Cells W _ _) 11 _ rfl
    have hk12 := (HCE.out.below (HBF.out.trans (hR.mono hzF)) (by omega) : Cells W _ _) 12 _ rfl
    clear hd hf
    (go_simp; try with_reducible rfl)
  refine Mono.hgl_call (fun x _ => x = .int .i64 20) rfl Mono.rr (fun _ _ _ h _ => h) (fun ρ a W hR hd hf => ?h2) ?_
  case h2 =>
    have e36 := Mono.dep_val hd hf (t := 36) (k := 1) (by kernel_rfl) rfl
    clear hd hf
    refine ⟨_, _, by go_simp; first | rfl | exact ⟨rfl, rfl⟩, ?_⟩
    exact (HV.out W).mono (fun e W' ⟨he, hb⟩ => ⟨_, he, hb, rfl⟩)
  refine Mono.hgl_val (v := ?v3) rfl Mono.rr (fun ρ a W hR hd hf => ?h3) ?_
  case h3 =>
    have e37 := Mono.dep_val hd hf (t := 37) (k := 2) (by kernel_rfl) rfl
    clear hd hf
    (go_simp; try with_reducible rfl)
  refine Mono.hgl_val (v := ?v4) rfl Mono.rr (fun ρ a W hR hd hf => ?h4) ?_
  case h4 =>
    have e1 := Mono.init_get hf (t := 1) (by kernel_rfl)
    have hk0 := (HCE.out.below (HBF.out.trans (hR.mono hzF)) (by omega) : Cells W _ _) 0 _ rfl
    have hk1 := (HCE.out.below (HBF.out.trans (hR.mono hzF)) (by omega) : Cells W _ _) 1 _ rfl
    have hk2 := (HCE.out.below (HBF.out.trans (hR.mono hzF)) (by omega) : Cells W _ _) 2 _ rfl
    have hk3 := (HCE.out.below (HBF.out.trans (hR.mono hzF)) (by omega) : Cells W _ _) 3 _ rfl
    have hk4 := (HCE.out.below (HBF.out.trans (hR.mono hzF)) (by omega) : Cells W _ _) 4 _ rfl
    have hk5 := (HCE.out.below (HBF.out.trans (hR.mono hzF)) (by omega) : Cells W _ _) 5 _ rfl
    have hk6 := (HCE.out.below (HBF.out.trans (hR.mono hzF)) (by omega) : Cells W _ _) 6 _ rfl
    have hk7 := (HCE.out.below (HBF.out.trans (hR.mono hzF)) (by omega) : Cells W _ _) 7 _ rfl
    have hk8 := (HCE.out.below (HBF.out.trans (hR.mono hzF)) (by omega) : Cells W _ _) 8 _ rfl
    have hk9 := (HCE.out.below (HBF.out.trans (hR.mono hzF)) (by omega) : Cells W _ _) 9 _ rfl
    have hk10 := (HCE.out.below (HBF.out.trans (hR.mono hzF)) (by omega) : Cells W _ _) 10 _ rfl
    have hk11 := (HCE.out.below (HBF.out.trans (hR.mono hzF)) (by omega) : Cells W _ _) 11 _ rfl
    have hk12 := (HCE.out.below (HBF.out.trans (hR.mono hzF)) (by omega) : Cells W _ _) 12 _ rfl
    clear hd hf
    (go_simp; try with_reducible rfl)
  refine Mono.hgl_call (fun x _ => x = .int .i64 ((f : Nat) : Int)) rfl Mono.rr (fun _ _ _ h _ => h) (fun ρ a W hR hd hf => ?h5) ?_
  case h5 =>
    have e39 := Mono.dep_val hd hf (t := 39) (k := 4) (by kernel_rfl) rfl
    clear hd hf
    refine ⟨_, _, by go_simp; first | rfl | exact ⟨rfl, rfl⟩, ?_⟩
    exact (HF.out W).mono (fun e W' ⟨he, hb⟩ => ⟨_, he, hb, rfl⟩)
  refine Mono.hgl_val (v := ?v6) rfl Mono.rr (fun ρ a W hR hd hf => ?h6) ?_
  case h6 =>
    have e40 := Mono.dep_val hd hf (t := 40) (k := 5) (by kernel_rfl) rfl
    have hq := Q_f.out
    clear hd hf
    (go_simp; try with_reducible rfl)
  refine Mono.hgl_val (v := ?v7) rfl Mono.rr (fun ρ a W hR hd hf => ?h7) ?_
  case h7 =>
    have e1 := Mono.init_get hf (t := 1) (by kernel_rfl)
    clear hd hf
    (go_simp; try with_reducible rfl)
  refine Mono.hgl_val (v := ?v8) rfl Mono.rr (fun ρ a W hR hd hf => ?h8) ?_
  case h8 =>
    have e42 := Mono.dep_val hd hf (t := 42) (k := 7) (by kernel_rfl) rfl
    have hk7 := (HCE.out.below (HBF.out.trans (hR.mono hzF)) (by omega) : Cells W _ _) 7 _ rfl
    clear hd hf
    (go_simp; try with_reducible rfl)
  refine Mono.hgl_val (v := ?v9) rfl Mono.rr (fun ρ a W hR hd hf => ?h9) ?_
  case h9 =>
    have e43 := Mono.dep_val hd hf (t := 43) (k := 8) (by kernel_rfl) rfl
    have hq := Q_me.out
    clear hd hf
    (go_simp; try with_reducible rfl)
  refine Mono.hgl_val (v := ?v10) rfl Mono.rr (fun ρ a W hR hd hf => ?h10) ?_
  case h10 =>
    have e4 := Mono.init_get hf (t := 4) (by kernel_rfl)
    clear hd hf
    (go_simp; try with_reducible rfl)
  refine Mono.hgl_val (v := ?v11) rfl Mono.rr (fun ρ a W hR hd hf => ?h11) ?_
  case h11 =>
    have e45 := Mono.dep_val hd hf (t := 45) (k := 10) (by kernel_rfl) rfl
    have hq := Q_C.out
    clear hd hf
    (go_simp; try with_reducible rfl)
  refine Mono.hgl_val (v := ?v12) rfl Mono.rr (fun ρ a W hR hd hf => ?h12) ?_
  case h12 =>
    have e3 := Mono.init_get hf (t := 3) (by kernel_rfl)
    clear hd hf
    (go_simp; try with_reducible rfl)
  refine Mono.hgl_val (v := ?v13) rfl Mono.rr (fun ρ a W hR hd hf => ?h13) ?_
  case h13 =>
    have e47 := Mono.dep_val hd hf (t := 47) (k := 12) (by kernel_rfl) rfl
    have hq := Q_D.out
    clear hd hf
    (go_simp; try with_reducible rfl)
  refine Mono.hgl_pred (fun z W => SU .u64 W z [(20 : Int), (f : Int), (me : Int), (C : Int), (D : Int)]) rfl hstSU (fun ρ a W hR hd hf => ?h14) ?_
  case h14 =>
    have e38 := Mono.dep_val hd hf (t := 38) (k := 3) (by kernel_rfl) rfl
    have e41 := Mono.dep_val hd hf (t := 41) (k := 6) (by kernel_rfl) rfl
    have e44 := Mono.dep_val hd hf (t := 44) (k := 9) (by kernel_rfl) rfl
    have e46 := Mono.dep_val hd hf (t := 46) (k := 11) (by kernel_rfl) rfl
    have e48 := Mono.dep_val hd hf (t := 48) (k := 13) (by kernel_rfl) rfl
    clear hd hf
    exact ⟨_, _, by go_simp; rfl, (Below.refl _ _).alloc (Nat.le_refl _) _, SU.new .u64 W _ _⟩
  refine Mono.hgl_call (fun z W => Byt W W.heap.size z (bys 2 [(20 : Int), (f : Int), (me : Int), (C : Int), (D : Int)])) rfl Mono.rr hstB2 (fun ρ a W hR hd hf => ?h15) ?_
  case h15 =>
    obtain ⟨e49, d14⟩ := Mono.dep_get hd hf (t := 49) (k := 14) (by kernel_rfl)
    replace d14 : (fun z W => SU .u64 W z [(20 : Int), (f : Int), (me : Int), (C : Int), (D : Int)]) (ρ 14) W := d14
    clear hd hf
    refine ⟨_, _, by go_simp; first | rfl | exact ⟨rfl, rfl⟩, ?_⟩
    exact (put27_any 2 (by decide) d14 (by simp) HQ1.out).mono (fun e W' ⟨v', he, ho, hb⟩ => ⟨v', he, hb, OB.byt ho⟩)
  refine Mono.hgl_done rfl (by decide) (fun ρ W hR ht => ?_)
  simp only [List.take_succ_cons, List.take_zero, List.drop_succ_cons, List.drop_zero]
  obtain ⟨d15, d14, d13, d12, d11, d10, d9, d8, d7, d6, d5, d4, d3, d2, d1, d0, _⟩ := ht
  replace d14 : (fun z W => SU .u64 W z [(20 : Int), (f : Int), (me : Int), (C : Int), (D : Int)]) (ρ 14) W := d14
  replace d15 : (fun z W => Byt W W.heap.size z (bys 2 [(20 : Int), (f : Int), (me : Int), (C : Int), (D : Int)])) (ρ 15) W := d15
  simp only [List.length_cons, List.length_nil, Nat.reduceAdd] at d0 d1 d2 d3 d4 d5 d6 d7 d8 d9 d10 d11 d12 d13
  simp only [Mono.putAll, Nat.reduceAdd, d0, d1, d2, d3, d4, d5, d6, d7, d8, d9, d10, d11, d12, d13, Act.put, List.setIfInBounds_toArray, List.set_cons_zero, List.set_cons_succ]
  clear d0 d1 d2 d3 d4 d5 d6 d7 d8 d9 d10 d11 d12 d13
  generalize ρ 14 = r14 at *
  generalize ρ 15 = r15 at *
  have hzW := hR.size
  have HO := Lib.hid (HO.out.below hR)
  have HBG := Lib.hid (HBF.out.trans (hR.mono hzF))
  have HU := Lib.hid d15
  clear hR d15 d14 HBF
  obtain ⟨wG, rfl⟩ : ∃ z : World, z = W := ⟨_, rfl⟩
  go_wp2_with (at_builtin; refine append_OB rfl _ _ rfl rfl HO.out rfl HU.out (by simp [bys_length]) (by omega) ?_)
  intro vH wH ho bb
  have HO := Lib.hid ho
  have HBH := Lib.hid (HBG.out.trans bb)
  have hzH : wE.heap.size ≤ wH.heap.size := HBH.out.size
  clear ho bb HU HBG hzW hzF
  have k8 := (HTE.out.below HBH.out (by omega)) 8 _ rfl
  have hq := Q_cr.out
  go_wp2_with (fail)
  refine (put27_any 4 (by decide) (HP2.out _) (by simp) HQ2.out).mono ?_
  rintro e wI ⟨uI, rfl, ho, bb⟩
  have hzb := bb.size
  simp only [World.size_alloc] at hzb
  have hbb : Below wH.heap.size wH wI := ((Below.refl _ _).alloc (Nat.le_refl _) _).trans (bb.mono (by simp))
  have HU := Lib.hid (OB.byt ho)
  have HO := Lib.hid (HO.out.below hbb)
  have HBI := Lib.hid (HBH.out.trans (hbb.mono (by omega)))
  have hzI : wE.heap.size ≤ wI.heap.size := HBI.out.size
  clear ho bb hzb hbb HBH k8 hq
  go_wp2_with (at_builtin; refine append_OB rfl _ _ rfl rfl HO.out rfl HU.out (by simp [bys_length]) hzI ?_)
  intro vJ wJ ho bb
  have HO := Lib.hid ho
  have HBJ := Lib.hid (HBI.out.trans bb)
  have hzJ : wE.heap.size ≤ wJ.heap.size := HBJ.out.size
  clear ho bb HU HBI hzI hzH
  have k0 := (HCE.out.below HBJ.out (by omega)) 0 _ rfl
  have hq := Q_nm.out
  go_wp2_with (fail)
  refine (put27_any 2 (by decide) (HP3.out _) (by simp) HQ3.out).mono ?_
  rintro e wK ⟨uK, rfl, ho, bb⟩
  have hzb := bb.size
  simp only [World.size_alloc] at hzb
  have hbb : Below wJ.heap.size wJ wK := ((Below.refl _ _).alloc (Nat.le_refl _) _).trans (bb.mono (by simp))
  have HU := Lib.hid (OB.byt ho)
  have HO := Lib.hid (HO.out.below hbb)
  have HBK := Lib.hid (HBJ.out.trans (hbb.mono (by omega)))
  have hzK : wE.heap.size ≤ wK.heap.size := HBK.out.size
  clear ho bb hzb hbb HBJ k0 hq
  go_wp2_with (at_builtin; refine append_OB rfl _ _ rfl rfl HO.out rfl HU.out (by simp [bys_length]) hzK ?_)
  intro vL wL ho bb
  have HO := Lib.hid ho
  have HBL := Lib.hid (HBK.out.trans bb)
  have hzL : wE.heap.size ≤ wL.heap.size := HBL.out.size
  clear ho bb HU HBK hzK hzJ
  have k0 := (HCE.out.below HBL.out (by omega)) 0 _ rfl
  go_wp2_with (at_builtin; refine append_OS rfl _ _ rfl rfl HO.out rfl (by simp only [List.length_append, bys_length, byt_length, List.length_cons, List.length_nil, Array.length_toList]; have : nm.data.size = nm.size := rfl; omega) hzL ?_)
  intro vM wM ho bb
  have HO := Lib.hid ho
  have HBM := Lib.hid (HBL.out.trans bb)
  have hzM : wE.heap.size ≤ wM.heap.size := HBM.out.size
  have HXM := Lib.hid (HX.out.below HBM.out)
  clear ho bb HBL hzL k0
  go_wp2_with (at_builtin; refine append_OB rfl _ _ rfl rfl HO.out rfl HXM.out (by simp only [List.length_append, bys_length, byt_length, List.length_cons, List.length_nil, Array.length_toList]; have : nm.data.size = nm.size := rfl; omega) hzM ?_)
  intro vN wN ho bb
  have HO := Lib.hid ho
  have HBN := Lib.hid (HBM.out.trans bb)
  clear ho bb
  go_wp2_with (fail)
  go_ret
  exact ⟨_, rfl, OB.mono (base := wE.heap.size) (by simpa [List.append_assoc] using HO.out) (by omega), HBE.out.trans (HBN.out.mono (by omega))⟩
end Go.Proofs.YtcpojpgdjjmfbaaDoor
