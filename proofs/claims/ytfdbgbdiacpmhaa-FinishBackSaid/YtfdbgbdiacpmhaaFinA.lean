/- Contract of the page's Encode of layer 30. -/
import Derived.Test.YtfdbgbdiacpmhaaPut
import Derived.Deep.QuietTactic
import Derived.BigQuiet
import Derived.Deep.Cut
namespace Go.Proofs.Ytfdbgbdiacpmhaa
open Go.RowKit
set_option maxHeartbeats 2000000 in
theorem refEnc_narrow (n s a : Nat) (w : World) (hn : n ≤ 1000) (hs : s < 4294967295) (ha : a < 4294967295) : Calls Try.prog 11 #[.agg #[.int .i64 (n : Nat), .int .i64 (s : Nat), .int .i64 (a : Nat), .bool false]] w fun e w' => ∃ v, e = .returned v ∧ OB w.heap.size w' v ((((bys 4 [101010256]) ++ bys 2 [0, 0, (n : Int), (n : Int)]) ++ bys 4 [(s : Int), (a : Int)]) ++ [0, 0]) ∧ Below w.heap.size w w' := by
  have q1 : IntKind.u64.wrap (n : Int) = n := by rw [IntKind.wrap_u64]; omega
  have q2 : IntKind.u64.wrap (s : Int) = s := by rw [IntKind.wrap_u64]; omega
  have q3 : IntKind.u64.wrap (a : Int) = a := by rw [IntKind.wrap_u64]; omega
  have q4 : IntKind.u64.wrap ((a : Int) + (s : Int)) = a + s := by rw [IntKind.wrap_u64]; omega
  have HP1 := Lib.hid (fun (W : World) => SU.new .u64 W [101010256] 42)
  have HQ1 : Hid (∀ x ∈ ([101010256] : List Int), 0 ≤ x ∧ x < 18446744073709551616) := Lib.hid (by intro x hx; simp only [List.mem_cons, List.not_mem_nil, or_false] at hx; omega)
  have HP2 := Lib.hid (fun (W : World) => SU.new .u64 W [0, 0, (n : Int), (n : Int)] 42)
  have HQ2 : Hid (∀ x ∈ ([0, 0, (n : Int), (n : Int)] : List Int), 0 ≤ x ∧ x < 18446744073709551616) := Lib.hid (by intro x hx; simp only [List.mem_cons, List.not_mem_nil, or_false] at hx; omega)
  have HP3 := Lib.hid (fun (W : World) => SU.new .u64 W [(s : Int), (a : Int)] 42)
  have HQ3 : Hid (∀ x ∈ ([(s : Int), (a : Int)] : List Int), 0 ≤ x ∧ x < 18446744073709551616) := Lib.hid (by intro x hx; simp only [List.mem_cons, List.not_mem_nil, or_false] at hx; omega)
  have HB := Lib.hid ((Below.refl w.heap.size w).alloc (Nat.le_refl _) (.cells #[.int .i64 (n : Nat), .int .i64 (s : Nat), .int .i64 (a : Nat), .bool false] 30))
  go_enter Try.func11, Try.ntmps11
  go_wp2
  go_quiet (fail)
  have HB := Lib.hid (below_drewN HB.out nq)
  have hz := HB.out.size
  go_upto_region 3 with (fail)
  generalize (w.alloc (.cells #[.int .i64 (n : Nat), .int .i64 (s : Nat), .int .i64 (a : Nat), .bool false] 30)).drewN nq = wq at *
  go_wp2_with fail
  refine (put27_any 4 (by decide) (HP1.out _) (by simp) HQ1.out).mono ?_
  rintro e w1 ⟨u1, rfl, ho, hb⟩
  have hs := hb.size
  simp only [World.size_alloc] at hs
  have hbb := ((Below.refl _ _).alloc (Nat.le_refl _) _).trans (hb.mono (by simp))
  have HO : Hid (OB w.heap.size w1 u1 (bys 4 [101010256])) := Lib.hid (OB.mono ho (by simp; omega))
  have HB := Lib.hid (HB.out.trans (hbb.mono (by omega)))
  have hz1 : w.heap.size ≤ w1.heap.size := by omega
  clear hb ho hs hbb hz
  have hz := hz1
  clear hz1
  go_wp2_with fail
  refine (put27_any 2 (by decide) (HP2.out _) (by simp) HQ2.out).mono ?_
  rintro e w2 ⟨u2, rfl, ho, hb⟩
  have hs := hb.size
  simp only [World.size_alloc] at hs
  have hbb := ((Below.refl _ _).alloc (Nat.le_refl _) _).trans (hb.mono (by simp))
  have HU := Lib.hid (OB.byt ho)
  have HO := Lib.hid (HO.out.below hbb)
  have HB := Lib.hid (HB.out.trans (hbb.mono (by omega)))
  have hz1 : w.heap.size ≤ w2.heap.size := by omega
  clear hb ho hs hbb hz
  have hz := hz1
  clear hz1
  go_wp2_with (at_builtin; refine append_OB rfl _ _ rfl rfl HO.out rfl HU.out (by simp [bys_length]) hz ?_)
  intro v2 w2b ho hb
  have HO := Lib.hid ho
  have HB := Lib.hid (HB.out.trans hb)
  have hz1 : w.heap.size ≤ w2b.heap.size := Nat.le_trans hz hb.size
  clear ho hb hz HU
  have hz := hz1
  clear hz1
  go_wp2_with fail
  refine (put27_any 4 (by decide) (HP3.out _) (by simp) HQ3.out).mono ?_
  rintro e w3 ⟨u3, rfl, ho, hb⟩
  have hs := hb.size
  simp only [World.size_alloc] at hs
  have hbb := ((Below.refl _ _).alloc (Nat.le_refl _) _).trans (hb.mono (by simp))
  have HU := Lib.hid (OB.byt ho)
  have HO := Lib.hid (HO.out.below hbb)
  have HB := Lib.hid (HB.out.trans (hbb.mono (by omega)))
  have hz1 : w.heap.size ≤ w3.heap.size := by omega
  clear hb ho hs hbb hz
  have hz := hz1
  clear hz1
  go_wp2_with (at_builtin; refine append_OB rfl _ _ rfl rfl HO.out rfl HU.out (by simp [bys_length]) hz ?_)
  intro v3 w3b ho hb
  have HO := Lib.hid ho
  have HB := Lib.hid (HB.out.trans hb)
  have hz1 : w.heap.size ≤ w3b.heap.size := Nat.le_trans hz hb.size
  clear ho hb hz HU
  have hz := hz1
  clear hz1
  have HT := Lib.hid (fun (W : World) => two_bytes W 0 0)
  have hbt := ((Below.refl _ _).alloc (Nat.le_refl _) (.cells #[.int .u8 0, .int .u8 0] 5) : Below w3b.heap.size w3b _)
  have HO := Lib.hid (HO.out.below hbt)
  have HB := Lib.hid (HB.out.trans (hbt.mono (by omega)))
  clear hbt
  go_wp2_with (at_builtin; refine append_OB rfl _ _ rfl rfl HO.out rfl (HT.out _) (by simp [bys_length]) (by simp; omega) ?_)
  intro vl wl ho hb
  have HO := Lib.hid ho
  have HB := Lib.hid (HB.out.trans hb)
  clear ho hb
  go_wp2
  go_ret
  exact ⟨_, rfl, HO.out, HB.out⟩
set_option maxHeartbeats 2000000 in
theorem refEnc_wide (n s a : Nat) (w : World) (hn : n ≤ 1000) (hs : s < 4294967295) (ha : a < 4294967295) : Calls Try.prog 11 #[.agg #[.int .i64 (n : Nat), .int .i64 (s : Nat), .int .i64 (a : Nat), .bool true]] w fun e w' => ∃ v, e = .returned v ∧ OB w.heap.size w' v ((((((((bys 4 [101075792, 44, 0]) ++ bys 2 [813, 45]) ++ bys 4 [0, 0]) ++ bys 8 [(n : Int), (n : Int), (s : Int), (a : Int)]) ++ bys 4 [117853008, 0]) ++ bys 8 [(a : Int) + (s : Int)]) ++ bys 4 [1, 101010256, 0, 4294967295, 4294967295, 4294967295]) ++ [0, 0]) ∧ Below w.heap.size w w' := by
  have q1 : IntKind.u64.wrap (n : Int) = n := by rw [IntKind.wrap_u64]; omega
  have q2 : IntKind.u64.wrap (s : Int) = s := by rw [IntKind.wrap_u64]; omega
  have q3 : IntKind.u64.wrap (a : Int) = a := by rw [IntKind.wrap_u64]; omega
  have q4 : IntKind.u64.wrap ((a : Int) + (s : Int)) = a + s := by rw [IntKind.wrap_u64]; omega
  have HP1 := Lib.hid (fun (W : World) => SU.new .u64 W [101075792, 44, 0] 42)
  have HQ1 : Hid (∀ x ∈ ([101075792, 44, 0] : List Int), 0 ≤ x ∧ x < 18446744073709551616) := Lib.hid (by intro x hx; simp only [List.mem_cons, List.not_mem_nil, or_false] at hx; omega)
  have HP2 := Lib.hid (fun (W : World) => SU.new .u64 W [813, 45] 42)
  have HQ2 : Hid (∀ x ∈ ([813, 45] : List Int), 0 ≤ x ∧ x < 18446744073709551616) := Lib.hid (by intro x hx; simp only [List.mem_cons, List.not_mem_nil, or_false] at hx; omega)
  have HP3 := Lib.hid (fun (W : World) => SU.new .u64 W [0, 0] 42)
  have HQ3 : Hid (∀ x ∈ ([0, 0] : List Int), 0 ≤ x ∧ x < 18446744073709551616) := Lib.hid (by intro x hx; simp only [List.mem_cons, List.not_mem_nil, or_false] at hx; omega)
  have HP4 := Lib.hid (fun (W : World) => SU.new .u64 W [(n : Int), (n : Int), (s : Int), (a : Int)] 42)
  have HQ4 : Hid (∀ x ∈ ([(n : Int), (n : Int), (s : Int), (a : Int)] : List Int), 0 ≤ x ∧ x < 18446744073709551616) := Lib.hid (by intro x hx; simp only [List.mem_cons, List.not_mem_nil, or_false] at hx; omega)
  have HP5 := Lib.hid (fun (W : World) => SU.new .u64 W [117853008, 0] 42)
  have HQ5 : Hid (∀ x ∈ ([117853008, 0] : List Int), 0 ≤ x ∧ x < 18446744073709551616) := Lib.hid (by intro x hx; simp only [List.mem_cons, List.not_mem_nil, or_false] at hx; omega)
  have HP6 := Lib.hid (fun (W : World) => SU.new .u64 W [(a : Int) + (s : Int)] 42)
  have HQ6 : Hid (∀ x ∈ ([(a : Int) + (s : Int)] : List Int), 0 ≤ x ∧ x < 18446744073709551616) := Lib.hid (by intro x hx; simp only [List.mem_cons, List.not_mem_nil, or_false] at hx; omega)
  have HP7 := Lib.hid (fun (W : World) => SU.new .u64 W [1, 101010256, 0, 4294967295, 4294967295, 4294967295] 42)
  have HQ7 : Hid (∀ x ∈ ([1, 101010256, 0, 4294967295, 4294967295, 4294967295] : List Int), 0 ≤ x ∧ x < 18446744073709551616) := Lib.hid (by intro x hx; simp only [List.mem_cons, List.not_mem_nil, or_false] at hx; omega)
  have HB := Lib.hid ((Below.refl w.heap.size w).alloc (Nat.le_refl _) (.cells #[.int .i64 (n : Nat), .int .i64 (s : Nat), .int .i64 (a : Nat), .bool true] 30))
  go_enter Try.func11, Try.ntmps11
  go_wp2
  go_quiet (fail)
  have HB := Lib.hid (below_drewN HB.out nq)
  have hz := HB.out.size
  go_upto_region 7 with (fail)
  generalize (w.alloc (.cells #[.int .i64 (n : Nat), .int .i64 (s : Nat), .int .i64 (a : Nat), .bool true] 30)).drewN nq = wq at *
  go_wp2_with fail
  refine (put27_any 4 (by decide) (HP1.out _) (by simp) HQ1.out).mono ?_
  rintro e w1 ⟨u1, rfl, ho, hb⟩
  have hs := hb.size
  simp only [World.size_alloc] at hs
  have hbb := ((Below.refl _ _).alloc (Nat.le_refl _) _).trans (hb.mono (by simp))
  have HO : Hid (OB w.heap.size w1 u1 (bys 4 [101075792, 44, 0])) := Lib.hid (OB.mono ho (by simp; omega))
  have HB := Lib.hid (HB.out.trans (hbb.mono (by omega)))
  have hz1 : w.heap.size ≤ w1.heap.size := by omega
  clear hb ho hs hbb hz
  have hz := hz1
  clear hz1
  go_wp2_with fail
  refine (put27_any 2 (by decide) (HP2.out _) (by simp) HQ2.out).mono ?_
  rintro e w2 ⟨u2, rfl, ho, hb⟩
  have hs := hb.size
  simp only [World.size_alloc] at hs
  have hbb := ((Below.refl _ _).alloc (Nat.le_refl _) _).trans (hb.mono (by simp))
  have HU := Lib.hid (OB.byt ho)
  have HO := Lib.hid (HO.out.below hbb)
  have HB := Lib.hid (HB.out.trans (hbb.mono (by omega)))
  have hz1 : w.heap.size ≤ w2.heap.size := by omega
  clear hb ho hs hbb hz
  have hz := hz1
  clear hz1
  go_wp2_with (at_builtin; refine append_OB rfl _ _ rfl rfl HO.out rfl HU.out (by simp [bys_length]) hz ?_)
  intro v2 w2b ho hb
  have HO := Lib.hid ho
  have HB := Lib.hid (HB.out.trans hb)
  have hz1 : w.heap.size ≤ w2b.heap.size := Nat.le_trans hz hb.size
  clear ho hb hz HU
  have hz := hz1
  clear hz1
  go_wp2_with fail
  refine (put27_any 4 (by decide) (HP3.out _) (by simp) HQ3.out).mono ?_
  rintro e w3 ⟨u3, rfl, ho, hb⟩
  have hs := hb.size
  simp only [World.size_alloc] at hs
  have hbb := ((Below.refl _ _).alloc (Nat.le_refl _) _).trans (hb.mono (by simp))
  have HU := Lib.hid (OB.byt ho)
  have HO := Lib.hid (HO.out.below hbb)
  have HB := Lib.hid (HB.out.trans (hbb.mono (by omega)))
  have hz1 : w.heap.size ≤ w3.heap.size := by omega
  clear hb ho hs hbb hz
  have hz := hz1
  clear hz1
  go_wp2_with (at_builtin; refine append_OB rfl _ _ rfl rfl HO.out rfl HU.out (by simp [bys_length]) hz ?_)
  intro v3 w3b ho hb
  have HO := Lib.hid ho
  have HB := Lib.hid (HB.out.trans hb)
  have hz1 : w.heap.size ≤ w3b.heap.size := Nat.le_trans hz hb.size
  clear ho hb hz HU
  have hz := hz1
  clear hz1
  go_wp2_with fail
  refine (put27_any 8 (by decide) (HP4.out _) (by simp) HQ4.out).mono ?_
  rintro e w4 ⟨u4, rfl, ho, hb⟩
  have hs := hb.size
  simp only [World.size_alloc] at hs
  have hbb := ((Below.refl _ _).alloc (Nat.le_refl _) _).trans (hb.mono (by simp))
  have HU := Lib.hid (OB.byt ho)
  have HO := Lib.hid (HO.out.below hbb)
  have HB := Lib.hid (HB.out.trans (hbb.mono (by omega)))
  have hz1 : w.heap.size ≤ w4.heap.size := by omega
  clear hb ho hs hbb hz
  have hz := hz1
  clear hz1
  go_wp2_with (at_builtin; refine append_OB rfl _ _ rfl rfl HO.out rfl HU.out (by simp [bys_length]) hz ?_)
  intro v4 w4b ho hb
  have HO := Lib.hid ho
  have HB := Lib.hid (HB.out.trans hb)
  have hz1 : w.heap.size ≤ w4b.heap.size := Nat.le_trans hz hb.size
  clear ho hb hz HU
  have hz := hz1
  clear hz1
  go_wp2_with fail
  refine (put27_any 4 (by decide) (HP5.out _) (by simp) HQ5.out).mono ?_
  rintro e w5 ⟨u5, rfl, ho, hb⟩
  have hs := hb.size
  simp only [World.size_alloc] at hs
  have hbb := ((Below.refl _ _).alloc (Nat.le_refl _) _).trans (hb.mono (by simp))
  have HU := Lib.hid (OB.byt ho)
  have HO := Lib.hid (HO.out.below hbb)
  have HB := Lib.hid (HB.out.trans (hbb.mono (by omega)))
  have hz1 : w.heap.size ≤ w5.heap.size := by omega
  clear hb ho hs hbb hz
  have hz := hz1
  clear hz1
  go_wp2_with (at_builtin; refine append_OB rfl _ _ rfl rfl HO.out rfl HU.out (by simp [bys_length]) hz ?_)
  intro v5 w5b ho hb
  have HO := Lib.hid ho
  have HB := Lib.hid (HB.out.trans hb)
  have hz1 : w.heap.size ≤ w5b.heap.size := Nat.le_trans hz hb.size
  clear ho hb hz HU
  have hz := hz1
  clear hz1
  go_wp2_with fail
  refine (put27_any 8 (by decide) (HP6.out _) (by simp) HQ6.out).mono ?_
  rintro e w6 ⟨u6, rfl, ho, hb⟩
  have hs := hb.size
  simp only [World.size_alloc] at hs
  have hbb := ((Below.refl _ _).alloc (Nat.le_refl _) _).trans (hb.mono (by simp))
  have HU := Lib.hid (OB.byt ho)
  have HO := Lib.hid (HO.out.below hbb)
  have HB := Lib.hid (HB.out.trans (hbb.mono (by omega)))
  have hz1 : w.heap.size ≤ w6.heap.size := by omega
  clear hb ho hs hbb hz
  have hz := hz1
  clear hz1
  go_wp2_with (at_builtin; refine append_OB rfl _ _ rfl rfl HO.out rfl HU.out (by simp [bys_length]) hz ?_)
  intro v6 w6b ho hb
  have HO := Lib.hid ho
  have HB := Lib.hid (HB.out.trans hb)
  have hz1 : w.heap.size ≤ w6b.heap.size := Nat.le_trans hz hb.size
  clear ho hb hz HU
  have hz := hz1
  clear hz1
  go_wp2_with fail
  refine (put27_any 4 (by decide) (HP7.out _) (by simp) HQ7.out).mono ?_
  rintro e w7 ⟨u7, rfl, ho, hb⟩
  have hs := hb.size
  simp only [World.size_alloc] at hs
  have hbb := ((Below.refl _ _).alloc (Nat.le_refl _) _).trans (hb.mono (by simp))
  have HU := Lib.hid (OB.byt ho)
  have HO := Lib.hid (HO.out.below hbb)
  have HB := Lib.hid (HB.out.trans (hbb.mono (by omega)))
  have hz1 : w.heap.size ≤ w7.heap.size := by omega
  clear hb ho hs hbb hz
  have hz := hz1
  clear hz1
  go_wp2_with (at_builtin; refine append_OB rfl _ _ rfl rfl HO.out rfl HU.out (by simp [bys_length]) hz ?_)
  intro v7 w7b ho hb
  have HO := Lib.hid ho
  have HB := Lib.hid (HB.out.trans hb)
  have hz1 : w.heap.size ≤ w7b.heap.size := Nat.le_trans hz hb.size
  clear ho hb hz HU
  have hz := hz1
  clear hz1
  have HT := Lib.hid (fun (W : World) => two_bytes W 0 0)
  have hbt := ((Below.refl _ _).alloc (Nat.le_refl _) (.cells #[.int .u8 0, .int .u8 0] 5) : Below w7b.heap.size w7b _)
  have HO := Lib.hid (HO.out.below hbt)
  have HB := Lib.hid (HB.out.trans (hbt.mono (by omega)))
  clear hbt
  go_wp2_with (at_builtin; refine append_OB rfl _ _ rfl rfl HO.out rfl (HT.out _) (by simp [bys_length]) (by simp; omega) ?_)
  intro vl wl ho hb
  have HO := Lib.hid ho
  have HB := Lib.hid (HB.out.trans hb)
  clear ho hb
  go_wp2
  go_ret
  exact ⟨_, rfl, HO.out, HB.out⟩
end Go.Proofs.Ytfdbgbdiacpmhaa
