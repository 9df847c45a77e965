/- Contracts of the page's Encode and Parse of layer 28, and of the law's closure. -/
import Derived.Test.YtodjoccdjmmilaaDescD
namespace Go.Proofs.Ytodjoccdjmmilaa
open Go.RowKit
theorem piece2 {w : World} {B : Nat} (ae : Option Addr) (n ce : Nat) (m : List UInt8) (h : Byt w B (.slice ae n ce) m) (hn : m.length = n) (hc : n ≤ ce) (lo hi : Nat) (h1 : lo ≤ hi) (h2 : hi ≤ n) :
    ∃ S, (∀ W : World, (Instr.slice 25 (.slice ae n ce) (some (.int .i64 (lo : Nat))) (some (.int .i64 (hi : Nat))) none).run Try.prog W = .ok S W) ∧ Byt w B S ((m.drop lo).take (hi - lo)) := by
  subst hn
  have hsl := fun W => slice_lh (t := 25) (e := 5) (size := 1) rfl size_u8 ae m.length ce (lo : Int) (hi : Int) (by omega) (by omega) (by omega) W
  have hsb := sub_byt h lo (hi - lo) (by omega)
  rw [Int.toNat_natCast, Int.toNat_natCast] at hsl
  exact ⟨_, hsl, hsb⟩
theorem renc_0 (x p s : Int) (g : Bool) (w : World)  (b0 : p < 0) : Calls Try.prog 8 #[.int .u32 x, .int .i64 p, .int .i64 s, .bool g] w fun e w' => e = .returned (.slice none 0 0) ∧ w' = w := by
  have c0 : decide (p < 0) = true := by simp; omega
  go_enter Try.func8, Try.ntmps8
  go_wp2
  go_ret
  exact ⟨rfl, rfl⟩
theorem renc_1 (x p s : Int) (g : Bool) (w : World) (b0 : 0 ≤ p) (b1 : 33554432 < p) : Calls Try.prog 8 #[.int .u32 x, .int .i64 p, .int .i64 s, .bool g] w fun e w' => e = .returned (.slice none 0 0) ∧ w' = w := by
  have c0 : decide (p < 0) = false := by simp; omega
  have c1 : decide (33554432 < p) = true := by simp; omega
  go_enter Try.func8, Try.ntmps8
  go_wp2
  go_ret
  exact ⟨rfl, rfl⟩
theorem renc_2 (x p s : Int) (g : Bool) (w : World) (b0 : 0 ≤ p) (b1 : p ≤ 33554432) (b2 : s < 0) : Calls Try.prog 8 #[.int .u32 x, .int .i64 p, .int .i64 s, .bool g] w fun e w' => e = .returned (.slice none 0 0) ∧ w' = w := by
  have c0 : decide (p < 0) = false := by simp; omega
  have c1 : decide (33554432 < p) = false := by simp; omega
  have c2 : decide (s < 0) = true := by simp; omega
  go_enter Try.func8, Try.ntmps8
  go_wp2
  go_ret
  exact ⟨rfl, rfl⟩
theorem renc_3 (x p s : Int) (g : Bool) (w : World) (b0 : 0 ≤ p) (b1 : p ≤ 33554432) (b2 : 0 ≤ s) (b3 : 16777216 < s) : Calls Try.prog 8 #[.int .u32 x, .int .i64 p, .int .i64 s, .bool g] w fun e w' => e = .returned (.slice none 0 0) ∧ w' = w := by
  have c0 : decide (p < 0) = false := by simp; omega
  have c1 : decide (33554432 < p) = false := by simp; omega
  have c2 : decide (s < 0) = false := by simp; omega
  have c3 : decide (16777216 < s) = true := by simp; omega
  go_enter Try.func8, Try.ntmps8
  go_wp2
  go_ret
  exact ⟨rfl, rfl⟩
theorem renc_no (x p s : Int) (g : Bool) (w : World) (h : descB p s = false) : Calls Try.prog 8 #[.int .u32 x, .int .i64 p, .int .i64 s, .bool g] w fun e w' => e = .returned (.slice none 0 0) ∧ w' = w := by
  have h := of_decide_eq_false h
  by_cases b0 : p < 0
  · exact renc_0 x p s g w  b0
  by_cases b1 : 33554432 < p
  · exact renc_1 x p s g w (by omega) b1
  by_cases b2 : s < 0
  · exact renc_2 x p s g w (by omega) (by omega) b2
  by_cases b3 : 16777216 < s
  · exact renc_3 x p s g w (by omega) (by omega) (by omega) b3
  exact absurd ⟨by omega, by omega, by omega, by omega⟩ h
set_option maxHeartbeats 1000000 in
theorem renc_false (x p s : Nat) (w : World) (hx : x < 4294967296) (h : descB p s = true) : Calls Try.prog 8 #[.int .u32 (x : Nat), .int .i64 (p : Nat), .int .i64 (s : Nat), .bool false] w fun e w' => ∃ v, e = .returned v ∧ OB w.heap.size w' v (descBytes x p s false) ∧ Below w.heap.size w w' := by
  have h' := of_decide_eq_true h
  have c0 : decide ((p : Int) < 0) = false := by simp
  have c1 : decide (33554432 < (p : Int)) = false := by simp; omega
  have c2 : decide ((s : Int) < 0) = false := by simp
  have c3 : decide (16777216 < (s : Int)) = false := by simp; omega
  have q_x : IntKind.u64.wrap (x : Int) = x := by rw [IntKind.wrap_u64]; omega
  have q_p : IntKind.u64.wrap (p : Int) = p := by rw [IntKind.wrap_u64]; omega
  have q_s : IntKind.u64.wrap (s : Int) = s := by rw [IntKind.wrap_u64]; omega
  have HP1 := Lib.hid (fun (W : World) => SU.new .u64 W [134695760, (x : Int)] 46)
  have HQ1 : Hid (∀ y ∈ ([134695760, (x : Int)] : List Int), 0 ≤ y ∧ y < 18446744073709551616) := Lib.hid (by intro y hy; simp only [List.mem_cons, List.not_mem_nil, or_false] at hy; omega)
  have HP2 := Lib.hid (fun (W : World) => SU.new .u64 W [(p : Int), (s : Int)] 46)
  have HQ2 : Hid (∀ y ∈ ([(p : Int), (s : Int)] : List Int), 0 ≤ y ∧ y < 18446744073709551616) := Lib.hid (by intro y hy; simp only [List.mem_cons, List.not_mem_nil, or_false] at hy; omega)
  clear h h'
  go_enter Try.func8, Try.ntmps8
  go_wp2_with fail
  refine (put27_any 4 (by decide) (HP1.out _) (by simp) HQ1.out).mono ?_
  rintro e w1 ⟨u1, rfl, ho, hb⟩
  have hs := hb.size
  simp only [World.size_alloc] at hs
  have hbb := ((Below.refl _ _).alloc (Nat.le_refl _) _).trans (hb.mono (by simp))
  have HO : Hid (OB w.heap.size w1 u1 (bys 4 [134695760, (x : Int)])) := Lib.hid (OB.mono ho (by simp))
  have HB := Lib.hid hbb
  have hz : w.heap.size ≤ w1.heap.size := by omega
  clear hb ho hs hbb
  go_wp2_with fail
  refine (put27_any 4 (by decide) (HP2.out _) (by simp) HQ2.out).mono ?_
  rintro e w2 ⟨u2, rfl, ho, hb⟩
  have hs := hb.size
  simp only [World.size_alloc] at hs
  have hbb := ((Below.refl _ _).alloc (Nat.le_refl _) _).trans (hb.mono (by simp))
  have HU := Lib.hid (OB.byt ho)
  have HO := Lib.hid (HO.out.below hbb)
  have HB := Lib.hid (HB.out.trans (hbb.mono (by omega)))
  have hz1 : w.heap.size ≤ w2.heap.size := by omega
  clear hb ho hs hbb hz
  have hz := hz1
  clear hz1
  go_wp2_with (at_builtin; refine append_OB rfl _ _ rfl rfl HO.out rfl HU.out (by simp [bys_length]) hz ?_)
  intro v3 w3 ho hb
  have HO := Lib.hid ho
  have HB := Lib.hid (HB.out.trans hb)
  clear ho hb
  go_wp2
  go_ret
  refine ⟨_, rfl, ?_, HB.out⟩
  have e : bys 4 [134695760, (x : Int)] ++ bys 4 [(p : Int), (s : Int)] = descBytes x p s false := by
    unfold descBytes bys wd
    simp
  rw [← e]
  exact HO.out
set_option maxHeartbeats 1000000 in
theorem renc_true (x p s : Nat) (w : World) (hx : x < 4294967296) (h : descB p s = true) : Calls Try.prog 8 #[.int .u32 (x : Nat), .int .i64 (p : Nat), .int .i64 (s : Nat), .bool true] w fun e w' => ∃ v, e = .returned v ∧ OB w.heap.size w' v (descBytes x p s true) ∧ Below w.heap.size w w' := by
  have h' := of_decide_eq_true h
  have c0 : decide ((p : Int) < 0) = false := by simp
  have c1 : decide (33554432 < (p : Int)) = false := by simp; omega
  have c2 : decide ((s : Int) < 0) = false := by simp
  have c3 : decide (16777216 < (s : Int)) = false := by simp; omega
  have q_x : IntKind.u64.wrap (x : Int) = x := by rw [IntKind.wrap_u64]; omega
  have q_p : IntKind.u64.wrap (p : Int) = p := by rw [IntKind.wrap_u64]; omega
  have q_s : IntKind.u64.wrap (s : Int) = s := by rw [IntKind.wrap_u64]; omega
  have HP1 := Lib.hid (fun (W : World) => SU.new .u64 W [134695760, (x : Int)] 46)
  have HQ1 : Hid (∀ y ∈ ([134695760, (x : Int)] : List Int), 0 ≤ y ∧ y < 18446744073709551616) := Lib.hid (by intro y hy; simp only [List.mem_cons, List.not_mem_nil, or_false] at hy; omega)
  have HP2 := Lib.hid (fun (W : World) => SU.new .u64 W [(p : Int), (s : Int)] 46)
  have HQ2 : Hid (∀ y ∈ ([(p : Int), (s : Int)] : List Int), 0 ≤ y ∧ y < 18446744073709551616) := Lib.hid (by intro y hy; simp only [List.mem_cons, List.not_mem_nil, or_false] at hy; omega)
  clear h h'
  go_enter Try.func8, Try.ntmps8
  go_wp2_with fail
  refine (put27_any 4 (by decide) (HP1.out _) (by simp) HQ1.out).mono ?_
  rintro e w1 ⟨u1, rfl, ho, hb⟩
  have hs := hb.size
  simp only [World.size_alloc] at hs
  have hbb := ((Below.refl _ _).alloc (Nat.le_refl _) _).trans (hb.mono (by simp))
  have HO : Hid (OB w.heap.size w1 u1 (bys 4 [134695760, (x : Int)])) := Lib.hid (OB.mono ho (by simp))
  have HB := Lib.hid hbb
  have hz : w.heap.size ≤ w1.heap.size := by omega
  clear hb ho hs hbb
  go_wp2_with fail
  refine (put27_any 8 (by decide) (HP2.out _) (by simp) HQ2.out).mono ?_
  rintro e w2 ⟨u2, rfl, ho, hb⟩
  have hs := hb.size
  simp only [World.size_alloc] at hs
  have hbb := ((Below.refl _ _).alloc (Nat.le_refl _) _).trans (hb.mono (by simp))
  have HU := Lib.hid (OB.byt ho)
  have HO := Lib.hid (HO.out.below hbb)
  have HB := Lib.hid (HB.out.trans (hbb.mono (by omega)))
  have hz1 : w.heap.size ≤ w2.heap.size := by omega
  clear hb ho hs hbb hz
  have hz := hz1
  clear hz1
  go_wp2_with (at_builtin; refine append_OB rfl _ _ rfl rfl HO.out rfl HU.out (by simp [bys_length]) hz ?_)
  intro v3 w3 ho hb
  have HO := Lib.hid ho
  have HB := Lib.hid (HB.out.trans hb)
  clear ho hb
  go_wp2
  go_ret
  refine ⟨_, rfl, ?_, HB.out⟩
  have e : bys 4 [134695760, (x : Int)] ++ bys 8 [(p : Int), (s : Int)] = descBytes x p s true := by
    unfold descBytes bys wd
    simp
  rw [← e]
  exact HO.out
theorem renc_yes (x p s : Nat) (g : Bool) (w : World) (hx : x < 4294967296) (h : descB p s = true) : Calls Try.prog 8 #[.int .u32 (x : Nat), .int .i64 (p : Nat), .int .i64 (s : Nat), .bool g] w fun e w' => ∃ v, e = .returned v ∧ OB w.heap.size w' v (descBytes x p s g) ∧ Below w.heap.size w w' := by
  cases g with
  | false => exact renc_false x p s w hx h
  | true => exact renc_true x p s w hx h
set_option maxHeartbeats 1000000 in
theorem rparse_short_false (ad : Option Addr) (c : Nat) (l : List UInt8) (w : World) (h : Byt w w.heap.size (.slice ad l.length c) l) (hl : l.length ≤ 100000) (hc : l.length ≤ c) (hs : l.length < 16) : Calls Try.prog 11 #[.slice ad l.length c, .bool false] w fun e w' => e = .returned (.tuple #[.int .u32 0, .int .i64 0, .int .i64 0, .bool false]) ∧ Below w.heap.size w w' := by
  have t0 : decide ((l.length : Int) < 16) = true := by simp; omega
  clear h
  go_enter Try.func11, Try.ntmps11
  go_wp2
  refine bodyPost_ret (v := .tuple #[.int .u32 0, .int .i64 0, .int .i64 0, .bool false]) (by simp [results, Try.results11, go_sem]) rfl ⟨rfl, Below.refl _ _⟩
set_option maxHeartbeats 2000000 in
theorem rparse_p_false (ad : Option Addr) (c : Nat) (l : List UInt8) (w : World) (h : Byt w w.heap.size (.slice ad l.length c) l) (hl : l.length ≤ 100000) (hc : l.length ≤ c) (hs : 16 ≤ l.length) (hp : 33554432 < rd l 8 4) : Calls Try.prog 11 #[.slice ad l.length c, .bool false] w fun e w' => e = .returned (.tuple #[.int .u32 0, .int .i64 0, .int .i64 0, .bool false]) ∧ Below w.heap.size w w' := by
  have t0 : decide ((l.length : Int) < 16) = false := by simp; omega
  obtain ⟨S1, hs1, hb1⟩ := piece2 ad l.length c l h rfl hc 4 8 (by decide) (by omega)
  have HS1 : Hid (∀ W : World, (Instr.slice 25 (.slice ad l.length c) (some (.int .i64 4)) (some (.int .i64 8)) none).run Try.prog W = .ok S1 W) := Lib.hid hs1
  have NUM1 := Lib.hid (fun (W : World) (hR : Below w.heap.size w W) => refNumber_B (hb1.below hR) (by rw [List.length_take]; omega))
  rw [show num ((l.drop 4).take (8 - 4)) = rd l 4 4 from rfl] at NUM1
  clear hs1 hb1
  obtain ⟨S2, hs2, hb2⟩ := piece2 ad l.length c l h rfl hc 8 12 (by decide) (by omega)
  have HS2 : Hid (∀ W : World, (Instr.slice 25 (.slice ad l.length c) (some (.int .i64 8)) (some (.int .i64 12)) none).run Try.prog W = .ok S2 W) := Lib.hid hs2
  have NUM2 := Lib.hid (fun (W : World) (hR : Below w.heap.size w W) => refNumber_B (hb2.below hR) (by rw [List.length_take]; omega))
  rw [show num ((l.drop 8).take (12 - 8)) = rd l 8 4 from rfl] at NUM2
  clear hs2 hb2
  obtain ⟨S3, hs3, hb3⟩ := piece2 ad l.length c l h rfl hc 12 16 (by decide) (by omega)
  have HS3 : Hid (∀ W : World, (Instr.slice 25 (.slice ad l.length c) (some (.int .i64 12)) (some (.int .i64 16)) none).run Try.prog W = .ok S3 W) := Lib.hid hs3
  have NUM3 := Lib.hid (fun (W : World) (hR : Below w.heap.size w W) => refNumber_B (hb3.below hR) (by rw [List.length_take]; omega))
  rw [show num ((l.drop 12).take (16 - 12)) = rd l 12 4 from rfl] at NUM3
  clear hs3 hb3
  have hsl4 := fun W => slice_h (t := 25) (e := 5) (size := 1) rfl size_u8 ad l.length c (16 : Int) (by decide) (by omega) W
  have hsb4 := sub_byt h 0 16 (by omega)
  rw [List.drop_zero] at hsb4
  simp only [Nat.sub_zero] at hsl4 hsb4
  have HS4 : Hid (∀ W : World, (Instr.slice 25 (.slice ad l.length c) none (some (.int .i64 16)) none).run Try.prog W = .ok (.slice (if c = 0 then ad else ad.map (·.add (0 * 1))) 16 c) W) := Lib.hid hsl4
  have HB4 := Lib.hid hsb4
  clear hsl4 hsb4
  generalize Value.slice (if c = 0 then ad else ad.map (·.add (0 * 1))) 16 c = S4 at *
  have bx : rd l 4 4 < 4294967296 := rd_lt l 4 4
  have q_x : IntKind.u32.wrap ((rd l 4 4 : Nat) : Int) = (rd l 4 4 : Nat) := by rw [IntKind.wrap_u32]; omega
  have HQX := Lib.hid q_x
  clear q_x bx h
  generalize rd l 4 4 = cr at *
  generalize rd l 8 4 = p at *
  generalize rd l 12 4 = s at *
  have d1 : decide (33554432 < (p : Int)) = true := by simp; omega
  go_enter Try.func11, Try.ntmps11
  go_wp2_with fail
  refine Mono.region_below (by kernel_rfl) (by kernel_rfl) (by kernel_rfl) ?_
  refine Mono.rgl_val (v := ?v0) rfl Mono.rr (fun ρ a W hR hd hf => ?h0) ?_
  case h0 =>
    have e0 := Mono.init_get hf (t := 0) (by kernel_rfl)
    clear hd hf
    (go_simp; try with_reducible rfl)
  refine Mono.rgl_val (v := ?v1) rfl Mono.rr (fun ρ a W hR hd hf => ?h1) ?_
  case h1 =>
    have e19 := Mono.dep_val hd hf (t := 19) (k := 0) (by kernel_rfl) rfl
    have hsl := HS1.out W
    clear hd hf
    (go_simp; try with_reducible rfl)
  refine Mono.rgl_call (fun x _ => x = .int .u64 ((cr : Nat) : Int)) rfl Mono.rr (fun _ _ _ h _ => h) (fun ρ a W hR hd hf => ?h2) ?_
  case h2 =>
    have e20 := Mono.dep_val hd hf (t := 20) (k := 1) (by kernel_rfl) rfl
    clear hd hf
    refine ⟨_, _, by go_simp; first | rfl | exact ⟨rfl, rfl⟩, ?_⟩
    exact (NUM1.out W hR).mono (fun e W' ⟨he, hw⟩ => ⟨_, he, hw ▸ Mono.rr _, rfl⟩)
  refine Mono.rgl_val (v := ?v3) rfl Mono.rr (fun ρ a W hR hd hf => ?h3) ?_
  case h3 =>
    have e21 := Mono.dep_val hd hf (t := 21) (k := 2) (by kernel_rfl) rfl
    have hq := HQX.out
    clear hd hf
    (go_simp; try with_reducible rfl)
  refine Mono.rgl_val (v := ?v4) rfl Mono.rr (fun ρ a W hR hd hf => ?h4) ?_
  case h4 =>
    have e0 := Mono.init_get hf (t := 0) (by kernel_rfl)
    clear hd hf
    (go_simp; try with_reducible rfl)
  refine Mono.rgl_val (v := ?v5) rfl Mono.rr (fun ρ a W hR hd hf => ?h5) ?_
  case h5 =>
    have e8 := Mono.init_get hf (t := 8) (by kernel_rfl)
    clear hd hf
    (go_simp; try with_reducible rfl)
  refine Mono.rgl_val (v := .int .i64 12) rfl Mono.rr (fun ρ a W hR hd hf => ?h6) ?_
  case h6 =>
    have e24 := Mono.dep_val hd hf (t := 24) (k := 5) (by kernel_rfl) rfl
    clear hd hf
    (go_simp <;> rfl)
  refine Mono.rgl_val (v := ?v7) rfl Mono.rr (fun ρ a W hR hd hf => ?h7) ?_
  case h7 =>
    have e23 := Mono.dep_val hd hf (t := 23) (k := 4) (by kernel_rfl) rfl
    have e25 := Mono.dep_val hd hf (t := 25) (k := 6) (by kernel_rfl) rfl
    have hsl := HS2.out W
    clear hd hf
    (go_simp; try with_reducible rfl)
  refine Mono.rgl_call (fun x _ => x = .int .u64 ((p : Nat) : Int)) rfl Mono.rr (fun _ _ _ h _ => h) (fun ρ a W hR hd hf => ?h8) ?_
  case h8 =>
    have e26 := Mono.dep_val hd hf (t := 26) (k := 7) (by kernel_rfl) rfl
    clear hd hf
    refine ⟨_, _, by go_simp; first | rfl | exact ⟨rfl, rfl⟩, ?_⟩
    exact (NUM2.out W hR).mono (fun e W' ⟨he, hw⟩ => ⟨_, he, hw ▸ Mono.rr _, rfl⟩)
  refine Mono.rgl_val (v := ?v9) rfl Mono.rr (fun ρ a W hR hd hf => ?h9) ?_
  case h9 =>
    have e0 := Mono.init_get hf (t := 0) (by kernel_rfl)
    clear hd hf
    (go_simp; try with_reducible rfl)
  refine Mono.rgl_val (v := ?v10) rfl Mono.rr (fun ρ a W hR hd hf => ?h10) ?_
  case h10 =>
    have e8 := Mono.init_get hf (t := 8) (by kernel_rfl)
    clear hd hf
    (go_simp; try with_reducible rfl)
  refine Mono.rgl_val (v := .int .i64 12) rfl Mono.rr (fun ρ a W hR hd hf => ?h11) ?_
  case h11 =>
    have e29 := Mono.dep_val hd hf (t := 29) (k := 10) (by kernel_rfl) rfl
    clear hd hf
    (go_simp <;> rfl)
  refine Mono.rgl_val (v := ?v12) rfl Mono.rr (fun ρ a W hR hd hf => ?h12) ?_
  case h12 =>
    have e8 := Mono.init_get hf (t := 8) (by kernel_rfl)
    clear hd hf
    (go_simp; try with_reducible rfl)
  refine Mono.rgl_val (v := .int .i64 8) rfl Mono.rr (fun ρ a W hR hd hf => ?h13) ?_
  case h13 =>
    have e31 := Mono.dep_val hd hf (t := 31) (k := 12) (by kernel_rfl) rfl
    clear hd hf
    (go_simp <;> rfl)
  refine Mono.rgl_val (v := .int .i64 16) rfl Mono.rr (fun ρ a W hR hd hf => ?h14) ?_
  case h14 =>
    have e32 := Mono.dep_val hd hf (t := 32) (k := 13) (by kernel_rfl) rfl
    clear hd hf
    (go_simp <;> rfl)
  refine Mono.rgl_val (v := ?v15) rfl Mono.rr (fun ρ a W hR hd hf => ?h15) ?_
  case h15 =>
    have e28 := Mono.dep_val hd hf (t := 28) (k := 9) (by kernel_rfl) rfl
    have e30 := Mono.dep_val hd hf (t := 30) (k := 11) (by kernel_rfl) rfl
    have e33 := Mono.dep_val hd hf (t := 33) (k := 14) (by kernel_rfl) rfl
    have hsl := HS3.out W
    clear hd hf
    (go_simp; try with_reducible rfl)
  refine Mono.rgl_call (fun x _ => x = .int .u64 ((s : Nat) : Int)) rfl Mono.rr (fun _ _ _ h _ => h) (fun ρ a W hR hd hf => ?h16) ?_
  case h16 =>
    have e34 := Mono.dep_val hd hf (t := 34) (k := 15) (by kernel_rfl) rfl
    clear hd hf
    refine ⟨_, _, by go_simp; first | rfl | exact ⟨rfl, rfl⟩, ?_⟩
    exact (NUM3.out W hR).mono (fun e W' ⟨he, hw⟩ => ⟨_, he, hw ▸ Mono.rr _, rfl⟩)
  refine Mono.rgl_val (v := ?v17) rfl Mono.rr (fun ρ a W hR hd hf => ?h17) ?_
  case h17 =>
    have e22 := Mono.dep_val hd hf (t := 22) (k := 3) (by kernel_rfl) rfl
    clear hd hf
    (go_simp; try with_reducible rfl)
  refine Mono.rgl_val (v := ?v18) rfl Mono.rr (fun ρ a W hR hd hf => ?h18) ?_
  case h18 =>
    have e27 := Mono.dep_val hd hf (t := 27) (k := 8) (by kernel_rfl) rfl
    clear hd hf
    (go_simp; try with_reducible rfl)
  refine Mono.rgl_val (v := ?v19) rfl Mono.rr (fun ρ a W hR hd hf => ?h19) ?_
  case h19 =>
    have e35 := Mono.dep_val hd hf (t := 35) (k := 16) (by kernel_rfl) rfl
    clear hd hf
    (go_simp; try with_reducible rfl)
  refine Mono.rgl_done rfl (fun ρ W hR ht => ?_)
  obtain ⟨d19, d18, d17, d16, d15, d14, d13, d12, d11, d10, d9, d8, d7, d6, d5, d4, d3, d2, d1, d0, _⟩ := ht
  simp only [List.length_cons, List.length_nil, Nat.reduceAdd] at d0 d1 d2 d3 d4 d5 d6 d7 d8 d9 d10 d11 d12 d13 d14 d15 d16 d17 d18 d19
  simp only [Mono.putAll, Nat.reduceAdd, d0, d1, d2, d3, d4, d5, d6, d7, d8, d9, d10, d11, d12, d13, d14, d15, d16, d17, d18, d19, Act.put, List.setIfInBounds_toArray, List.set_cons_zero, List.set_cons_succ]
  clear d0 d1 d2 d3 d4 d5 d6 d7 d8 d9 d10 d11 d12 d13 d14 d15 d16 d17 d18 d19
  have HBW := Lib.hid hR
  clear hR
  obtain ⟨w4, rfl⟩ : ∃ z, z = W := ⟨_, rfl⟩
  go_wp2_with fail
  refine Mono.region_below (by kernel_rfl) (by kernel_rfl) (by kernel_rfl) ?_
  refine Mono.rgl_val (v := ?vz0) rfl Mono.rr (fun ρ a W hR hd hf => ?hz0) ?_
  case hz0 =>
    have e10 := Mono.init_get hf (t := 10) (by kernel_rfl)
    clear hd hf
    (go_simp; try with_reducible rfl)
  refine Mono.rgl_val (v := .bool true) rfl Mono.rr (fun ρ a W hR hd hf => ?hz1) ?_
  case hz1 =>
    have e36 := Mono.dep_val hd hf (t := 36) (k := 0) (by kernel_rfl) rfl
    clear hd hf
    (go_simp)
  refine Mono.rgl_val (v := ?vz2) rfl Mono.rr (fun ρ a W hR hd hf => ?hz2) ?_
  case hz2 =>
    have e37 := Mono.dep_val hd hf (t := 37) (k := 1) (by kernel_rfl) rfl
    clear hd hf
    (go_simp; try with_reducible rfl)
  refine Mono.rgl_skip rfl (by decide) (fun ρ W hd => Mono.guard_val hd (t := 38) (k := 2) (by kernel_rfl) rfl) ?_
  refine Mono.rgl_skip rfl (by decide) (fun ρ W hd => Mono.guard_val hd (t := 38) (k := 2) (by kernel_rfl) rfl) ?_
  refine Mono.rgl_val (v := ?vz5) rfl Mono.rr (fun ρ a W hR hd hf => ?hz5) ?_
  case hz5 =>
    have e38 := Mono.dep_val hd hf (t := 38) (k := 2) (by kernel_rfl) rfl
    have e40 := Mono.dep_val hd hf (t := 40) (k := 4) (by kernel_rfl) rfl
    clear hd hf
    (go_simp; try with_reducible rfl)
  refine Mono.rgl_val (v := ?vz6) rfl Mono.rr (fun ρ a W hR hd hf => ?hz6) ?_
  case hz6 =>
    have e41 := Mono.dep_val hd hf (t := 41) (k := 5) (by kernel_rfl) rfl
    clear hd hf
    (go_simp; try with_reducible rfl)
  refine Mono.rgl_skip rfl (by decide) (fun ρ W hd => Mono.guard_val hd (t := 42) (k := 6) (by kernel_rfl) rfl) ?_
  refine Mono.rgl_skip rfl (by decide) (fun ρ W hd => Mono.guard_val hd (t := 42) (k := 6) (by kernel_rfl) rfl) ?_
  refine Mono.rgl_skip rfl (by decide) (fun ρ W hd => Mono.guard_val hd (t := 42) (k := 6) (by kernel_rfl) rfl) ?_
  refine Mono.rgl_skip rfl (by decide) (fun ρ W hd => Mono.guard_val hd (t := 42) (k := 6) (by kernel_rfl) rfl) ?_
  refine Mono.rgl_skip rfl (by decide) (fun ρ W hd => Mono.guard_val hd (t := 42) (k := 6) (by kernel_rfl) rfl) ?_
  refine Mono.rgl_skip rfl (by decide) (fun ρ W hd => Mono.guard_val hd (t := 42) (k := 6) (by kernel_rfl) rfl) ?_
  refine Mono.rgl_skip rfl (by decide) (fun ρ W hd => Mono.guard_val hd (t := 42) (k := 6) (by kernel_rfl) rfl) ?_
  refine Mono.rgl_skip rfl (by decide) (fun ρ W hd => Mono.guard_val hd (t := 42) (k := 6) (by kernel_rfl) rfl) ?_
  refine Mono.rgl_skip rfl (by decide) (fun ρ W hd => Mono.guard_val hd (t := 42) (k := 6) (by kernel_rfl) rfl) ?_
  refine Mono.rgl_skip rfl (by decide) (fun ρ W hd => Mono.guard_val hd (t := 42) (k := 6) (by kernel_rfl) rfl) ?_
  refine Mono.rgl_skip rfl (by decide) (fun ρ W hd => Mono.guard_val hd (t := 42) (k := 6) (by kernel_rfl) rfl) ?_
  refine Mono.rgl_skip rfl (by decide) (fun ρ W hd => Mono.guard_val hd (t := 42) (k := 6) (by kernel_rfl) rfl) ?_
  refine Mono.rgl_skip rfl (by decide) (fun ρ W hd => Mono.guard_val hd (t := 42) (k := 6) (by kernel_rfl) rfl) ?_
  refine Mono.rgl_skip rfl (by decide) (fun ρ W hd => Mono.guard_val hd (t := 42) (k := 6) (by kernel_rfl) rfl) ?_
  refine Mono.rgl_skip rfl (by decide) (fun ρ W hd => Mono.guard_val hd (t := 42) (k := 6) (by kernel_rfl) rfl) ?_
  refine Mono.rgl_val (v := ?vz22) rfl Mono.rr (fun ρ a W hR hd hf => ?hz22) ?_
  case hz22 =>
    have e42 := Mono.dep_val hd hf (t := 42) (k := 6) (by kernel_rfl) rfl
    have e57 := Mono.dep_val hd hf (t := 57) (k := 21) (by kernel_rfl) rfl
    clear hd hf
    (go_simp; try with_reducible rfl)
  refine Mono.rgl_done rfl (fun ρ W hR ht => ?_)
  obtain ⟨dz22, dz21, dz20, dz19, dz18, dz17, dz16, dz15, dz14, dz13, dz12, dz11, dz10, dz9, dz8, dz7, dz6, dz5, dz4, dz3, dz2, dz1, dz0, _⟩ := ht
  simp only [List.length_cons, List.length_nil, Nat.reduceAdd] at dz0 dz1 dz2 dz3 dz4 dz5 dz6 dz7 dz8 dz9 dz10 dz11 dz12 dz13 dz14 dz15 dz16 dz17 dz18 dz19 dz20 dz21 dz22
  simp only [Mono.putAll, Nat.reduceAdd, dz0, dz1, dz2, dz3, dz4, dz5, dz6, dz7, dz8, dz9, dz10, dz11, dz12, dz13, dz14, dz15, dz16, dz17, dz18, dz19, dz20, dz21, dz22, Act.put, List.setIfInBounds_toArray, List.set_cons_zero, List.set_cons_succ]
  clear dz0 dz1 dz2 dz3 dz4 dz5 dz6 dz7 dz8 dz9 dz10 dz11 dz12 dz13 dz14 dz15 dz16 dz17 dz18 dz19 dz20 dz21 dz22
  have HBZ := Lib.hid (HBW.out.trans (hR.mono HBW.out.size))
  clear hR 
  go_wp2
  refine bodyPost_ret (v := .tuple #[.int .u32 0, .int .i64 0, .int .i64 0, .bool false]) (by simp [results, Try.results11, go_sem]) rfl ⟨rfl, HBZ.out⟩
set_option maxHeartbeats 2000000 in
theorem rparse_s_false (ad : Option Addr) (c : Nat) (l : List UInt8) (w : World) (h : Byt w w.heap.size (.slice ad l.length c) l) (hl : l.length ≤ 100000) (hc : l.length ≤ c) (hs : 16 ≤ l.length) (hp : rd l 8 4 ≤ 33554432) (hs2 : 16777216 < rd l 12 4) : Calls Try.prog 11 #[.slice ad l.length c, .bool false] w fun e w' => e = .returned (.tuple #[.int .u32 0, .int .i64 0, .int .i64 0, .bool false]) ∧ Below w.heap.size w w' := by
  have t0 : decide ((l.length : Int) < 16) = false := by simp; omega
  obtain ⟨S1, hs1, hb1⟩ := piece2 ad l.length c l h rfl hc 4 8 (by decide) (by omega)
  have HS1 : Hid (∀ W : World, (Instr.slice 25 (.slice ad l.length c) (some (.int .i64 4)) (some (.int .i64 8)) none).run Try.prog W = .ok S1 W) := Lib.hid hs1
  have NUM1 := Lib.hid (fun (W : World) (hR : Below w.heap.size w W) => refNumber_B (hb1.below hR) (by rw [List.length_take]; omega))
  rw [show num ((l.drop 4).take (8 - 4)) = rd l 4 4 from rfl] at NUM1
  clear hs1 hb1
  obtain ⟨S2, hs2, hb2⟩ := piece2 ad l.length c l h rfl hc 8 12 (by decide) (by omega)
  have HS2 : Hid (∀ W : World, (Instr.slice 25 (.slice ad l.length c) (some (.int .i64 8)) (some (.int .i64 12)) none).run Try.prog W = .ok S2 W) := Lib.hid hs2
  have NUM2 := Lib.hid (fun (W : World) (hR : Below w.heap.size w W) => refNumber_B (hb2.below hR) (by rw [List.length_take]; omega))
  rw [show num ((l.drop 8).take (12 - 8)) = rd l 8 4 from rfl] at NUM2
  clear hs2 hb2
  obtain ⟨S3, hs3, hb3⟩ := piece2 ad l.length c l h rfl hc 12 16 (by decide) (by omega)
  have HS3 : Hid (∀ W : World, (Instr.slice 25 (.slice ad l.length c) (some (.int .i64 12)) (some (.int .i64 16)) none).run Try.prog W = .ok S3 W) := Lib.hid hs3
  have NUM3 := Lib.hid (fun (W : World) (hR : Below w.heap.size w W) => refNumber_B (hb3.below hR) (by rw [List.length_take]; omega))
  rw [show num ((l.drop 12).take (16 - 12)) = rd l 12 4 from rfl] at NUM3
  clear hs3 hb3
  have hsl4 := fun W => slice_h (t := 25) (e := 5) (size := 1) rfl size_u8 ad l.length c (16 : Int) (by decide) (by omega) W
  have hsb4 := sub_byt h 0 16 (by omega)
  rw [List.drop_zero] at hsb4
  simp only [Nat.sub_zero] at hsl4 hsb4
  have HS4 : Hid (∀ W : World, (Instr.slice 25 (.slice ad l.length c) none (some (.int .i64 16)) none).run Try.prog W = .ok (.slice (if c = 0 then ad else ad.map (·.add (0 * 1))) 16 c) W) := Lib.hid hsl4
  have HB4 := Lib.hid hsb4
  clear hsl4 hsb4
  generalize Value.slice (if c = 0 then ad else ad.map (·.add (0 * 1))) 16 c = S4 at *
  have bx : rd l 4 4 < 4294967296 := rd_lt l 4 4
  have q_x : IntKind.u32.wrap ((rd l 4 4 : Nat) : Int) = (rd l 4 4 : Nat) := by rw [IntKind.wrap_u32]; omega
  have HQX := Lib.hid q_x
  clear q_x bx h
  generalize rd l 4 4 = cr at *
  generalize rd l 8 4 = p at *
  generalize rd l 12 4 = s at *
  have d1 : decide (33554432 < (p : Int)) = false := by simp; omega
  have d2 : decide (16777216 < (s : Int)) = true := by simp; omega
  go_enter Try.func11, Try.ntmps11
  go_wp2_with fail
  refine Mono.region_below (by kernel_rfl) (by kernel_rfl) (by kernel_rfl) ?_
  refine Mono.rgl_val (v := ?v0) rfl Mono.rr (fun ρ a W hR hd hf => ?h0) ?_
  case h0 =>
    have e0 := Mono.init_get hf (t := 0) (by kernel_rfl)
    clear hd hf
    (go_simp; try with_reducible rfl)
  refine Mono.rgl_val (v := ?v1) rfl Mono.rr (fun ρ a W hR hd hf => ?h1) ?_
  case h1 =>
    have e19 := Mono.dep_val hd hf (t := 19) (k := 0) (by kernel_rfl) rfl
    have hsl := HS1.out W
    clear hd hf
    (go_simp; try with_reducible rfl)
  refine Mono.rgl_call (fun x _ => x = .int .u64 ((cr : Nat) : Int)) rfl Mono.rr (fun _ _ _ h _ => h) (fun ρ a W hR hd hf => ?h2) ?_
  case h2 =>
    have e20 := Mono.dep_val hd hf (t := 20) (k := 1) (by kernel_rfl) rfl
    clear hd hf
    refine ⟨_, _, by go_simp; first | rfl | exact ⟨rfl, rfl⟩, ?_⟩
    exact (NUM1.out W hR).mono (fun e W' ⟨he, hw⟩ => ⟨_, he, hw ▸ Mono.rr _, rfl⟩)
  refine Mono.rgl_val (v := ?v3) rfl Mono.rr (fun ρ a W hR hd hf => ?h3) ?_
  case h3 =>
    have e21 := Mono.dep_val hd hf (t := 21) (k := 2) (by kernel_rfl) rfl
    have hq := HQX.out
    clear hd hf
    (go_simp; try with_reducible rfl)
  refine Mono.rgl_val (v := ?v4) rfl Mono.rr (fun ρ a W hR hd hf => ?h4) ?_
  case h4 =>
    have e0 := Mono.init_get hf (t := 0) (by kernel_rfl)
    clear hd hf
    (go_simp; try with_reducible rfl)
  refine Mono.rgl_val (v := ?v5) rfl Mono.rr (fun ρ a W hR hd hf => ?h5) ?_
  case h5 =>
    have e8 := Mono.init_get hf (t := 8) (by kernel_rfl)
    clear hd hf
    (go_simp; try with_reducible rfl)
  refine Mono.rgl_val (v := .int .i64 12) rfl Mono.rr (fun ρ a W hR hd hf => ?h6) ?_
  case h6 =>
    have e24 := Mono.dep_val hd hf (t := 24) (k := 5) (by kernel_rfl) rfl
    clear hd hf
    (go_simp <;> rfl)
  refine Mono.rgl_val (v := ?v7) rfl Mono.rr (fun ρ a W hR hd hf => ?h7) ?_
  case h7 =>
    have e23 := Mono.dep_val hd hf (t := 23) (k := 4) (by kernel_rfl) rfl
    have e25 := Mono.dep_val hd hf (t := 25) (k := 6) (by kernel_rfl) rfl
    have hsl := HS2.out W
    clear hd hf
    (go_simp; try with_reducible rfl)
  refine Mono.rgl_call (fun x _ => x = .int .u64 ((p : Nat) : Int)) rfl Mono.rr (fun _ _ _ h _ => h) (fun ρ a W hR hd hf => ?h8) ?_
  case h8 =>
    have e26 := Mono.dep_val hd hf (t := 26) (k := 7) (by kernel_rfl) rfl
    clear hd hf
    refine ⟨_, _, by go_simp; first | rfl | exact ⟨rfl, rfl⟩, ?_⟩
    exact (NUM2.out W hR).mono (fun e W' ⟨he, hw⟩ => ⟨_, he, hw ▸ Mono.rr _, rfl⟩)
  refine Mono.rgl_val (v := ?v9) rfl Mono.rr (fun ρ a W hR hd hf => ?h9) ?_
  case h9 =>
    have e0 := Mono.init_get hf (t := 0) (by kernel_rfl)
    clear hd hf
    (go_simp; try with_reducible rfl)
  refine Mono.rgl_val (v := ?v10) rfl Mono.rr (fun ρ a W hR hd hf => ?h10) ?_
  case h10 =>
    have e8 := Mono.init_get hf (t := 8) (by kernel_rfl)
    clear hd hf
    (go_simp; try with_reducible rfl)
  refine Mono.rgl_val (v := .int .i64 12) rfl Mono.rr (fun ρ a W hR hd hf => ?h11) ?_
  case h11 =>
    have e29 := Mono.dep_val hd hf (t := 29) (k := 10) (by kernel_rfl) rfl
    clear hd hf
    (go_simp <;> rfl)
  refine Mono.rgl_val (v := ?v12) rfl Mono.rr (fun ρ a W hR hd hf => ?h12) ?_
  case h12 =>
    have e8 := Mono.init_get hf (t := 8) (by kernel_rfl)
    clear hd hf
    (go_simp; try with_reducible rfl)
  refine Mono.rgl_val (v := .int .i64 8) rfl Mono.rr (fun ρ a W hR hd hf => ?h13) ?_
  case h13 =>
    have e31 := Mono.dep_val hd hf (t := 31) (k := 12) (by kernel_rfl) rfl
    clear hd hf
    (go_simp <;> rfl)
  refine Mono.rgl_val (v := .int .i64 16) rfl Mono.rr (fun ρ a W hR hd hf => ?h14) ?_
  case h14 =>
    have e32 := Mono.dep_val hd hf (t := 32) (k := 13) (by kernel_rfl) rfl
    clear hd hf
    (go_simp <;> rfl)
  refine Mono.rgl_val (v := ?v15) rfl Mono.rr (fun ρ a W hR hd hf => ?h15) ?_
  case h15 =>
    have e28 := Mono.dep_val hd hf (t := 28) (k := 9) (by kernel_rfl) rfl
    have e30 := Mono.dep_val hd hf (t := 30) (k := 11) (by kernel_rfl) rfl
    have e33 := Mono.dep_val hd hf (t := 33) (k := 14) (by kernel_rfl) rfl
    have hsl := HS3.out W
    clear hd hf
    (go_simp; try with_reducible rfl)
  refine Mono.rgl_call (fun x _ => x = .int .u64 ((s : Nat) : Int)) rfl Mono.rr (fun _ _ _ h _ => h) (fun ρ a W hR hd hf => ?h16) ?_
  case h16 =>
    have e34 := Mono.dep_val hd hf (t := 34) (k := 15) (by kernel_rfl) rfl
    clear hd hf
    refine ⟨_, _, by go_simp; first | rfl | exact ⟨rfl, rfl⟩, ?_⟩
    exact (NUM3.out W hR).mono (fun e W' ⟨he, hw⟩ => ⟨_, he, hw ▸ Mono.rr _, rfl⟩)
  refine Mono.rgl_val (v := ?v17) rfl Mono.rr (fun ρ a W hR hd hf => ?h17) ?_
  case h17 =>
    have e22 := Mono.dep_val hd hf (t := 22) (k := 3) (by kernel_rfl) rfl
    clear hd hf
    (go_simp; try with_reducible rfl)
  refine Mono.rgl_val (v := ?v18) rfl Mono.rr (fun ρ a W hR hd hf => ?h18) ?_
  case h18 =>
    have e27 := Mono.dep_val hd hf (t := 27) (k := 8) (by kernel_rfl) rfl
    clear hd hf
    (go_simp; try with_reducible rfl)
  refine Mono.rgl_val (v := ?v19) rfl Mono.rr (fun ρ a W hR hd hf => ?h19) ?_
  case h19 =>
    have e35 := Mono.dep_val hd hf (t := 35) (k := 16) (by kernel_rfl) rfl
    clear hd hf
    (go_simp; try with_reducible rfl)
  refine Mono.rgl_done rfl (fun ρ W hR ht => ?_)
  obtain ⟨d19, d18, d17, d16, d15, d14, d13, d12, d11, d10, d9, d8, d7, d6, d5, d4, d3, d2, d1, d0, _⟩ := ht
  simp only [List.length_cons, List.length_nil, Nat.reduceAdd] at d0 d1 d2 d3 d4 d5 d6 d7 d8 d9 d10 d11 d12 d13 d14 d15 d16 d17 d18 d19
  simp only [Mono.putAll, Nat.reduceAdd, d0, d1, d2, d3, d4, d5, d6, d7, d8, d9, d10, d11, d12, d13, d14, d15, d16, d17, d18, d19, Act.put, List.setIfInBounds_toArray, List.set_cons_zero, List.set_cons_succ]
  clear d0 d1 d2 d3 d4 d5 d6 d7 d8 d9 d10 d11 d12 d13 d14 d15 d16 d17 d18 d19
  have HBW := Lib.hid hR
  clear hR
  obtain ⟨w4, rfl⟩ : ∃ z, z = W := ⟨_, rfl⟩
  go_wp2_with fail
  refine Mono.region_below (by kernel_rfl) (by kernel_rfl) (by kernel_rfl) ?_
  refine Mono.rgl_val (v := ?vz0) rfl Mono.rr (fun ρ a W hR hd hf => ?hz0) ?_
  case hz0 =>
    have e10 := Mono.init_get hf (t := 10) (by kernel_rfl)
    clear hd hf
    (go_simp; try with_reducible rfl)
  refine Mono.rgl_val (v := .bool false) rfl Mono.rr (fun ρ a W hR hd hf => ?hz1) ?_
  case hz1 =>
    have e36 := Mono.dep_val hd hf (t := 36) (k := 0) (by kernel_rfl) rfl
    clear hd hf
    (go_simp)
  refine Mono.rgl_val (v := ?vz2) rfl Mono.rr (fun ρ a W hR hd hf => ?hz2) ?_
  case hz2 =>
    have e37 := Mono.dep_val hd hf (t := 37) (k := 1) (by kernel_rfl) rfl
    clear hd hf
    (go_simp; try with_reducible rfl)
  refine Mono.rgl_valg (v := ?vz3) rfl Mono.rr (fun ρ W hd => Mono.guard_val hd (t := 38) (k := 2) (by kernel_rfl) rfl) (fun ρ a W hR hd hf => ?hz3) ?_
  case hz3 =>
    have e11 := Mono.init_get hf (t := 11) (by kernel_rfl)
    clear hd hf
    (go_simp; try with_reducible rfl)
  refine Mono.rgl_valg (v := .bool true) rfl Mono.rr (fun ρ W hd => Mono.guard_val hd (t := 38) (k := 2) (by kernel_rfl) rfl) (fun ρ a W hR hd hf => ?hz4) ?_
  case hz4 =>
    have e39 := Mono.dep_val hd hf (t := 39) (k := 3) (by kernel_rfl) rfl
    clear hd hf
    (go_simp)
  refine Mono.rgl_val (v := ?vz5) rfl Mono.rr (fun ρ a W hR hd hf => ?hz5) ?_
  case hz5 =>
    have e38 := Mono.dep_val hd hf (t := 38) (k := 2) (by kernel_rfl) rfl
    have e40 := Mono.dep_val hd hf (t := 40) (k := 4) (by kernel_rfl) rfl
    clear hd hf
    (go_simp; try with_reducible rfl)
  refine Mono.rgl_val (v := ?vz6) rfl Mono.rr (fun ρ a W hR hd hf => ?hz6) ?_
  case hz6 =>
    have e41 := Mono.dep_val hd hf (t := 41) (k := 5) (by kernel_rfl) rfl
    clear hd hf
    (go_simp; try with_reducible rfl)
  refine Mono.rgl_skip rfl (by decide) (fun ρ W hd => Mono.guard_val hd (t := 42) (k := 6) (by kernel_rfl) rfl) ?_
  refine Mono.rgl_skip rfl (by decide) (fun ρ W hd => Mono.guard_val hd (t := 42) (k := 6) (by kernel_rfl) rfl) ?_
  refine Mono.rgl_skip rfl (by decide) (fun ρ W hd => Mono.guard_val hd (t := 42) (k := 6) (by kernel_rfl) rfl) ?_
  refine Mono.rgl_skip rfl (by decide) (fun ρ W hd => Mono.guard_val hd (t := 42) (k := 6) (by kernel_rfl) rfl) ?_
  refine Mono.rgl_skip rfl (by decide) (fun ρ W hd => Mono.guard_val hd (t := 42) (k := 6) (by kernel_rfl) rfl) ?_
  refine Mono.rgl_skip rfl (by decide) (fun ρ W hd => Mono.guard_val hd (t := 42) (k := 6) (by kernel_rfl) rfl) ?_
  refine Mono.rgl_skip rfl (by decide) (fun ρ W hd => Mono.guard_val hd (t := 42) (k := 6) (by kernel_rfl) rfl) ?_
  refine Mono.rgl_skip rfl (by decide) (fun ρ W hd => Mono.guard_val hd (t := 42) (k := 6) (by kernel_rfl) rfl) ?_
  refine Mono.rgl_skip rfl (by decide) (fun ρ W hd => Mono.guard_val hd (t := 42) (k := 6) (by kernel_rfl) rfl) ?_
  refine Mono.rgl_skip rfl (by decide) (fun ρ W hd => Mono.guard_val hd (t := 42) (k := 6) (by kernel_rfl) rfl) ?_
  refine Mono.rgl_skip rfl (by decide) (fun ρ W hd => Mono.guard_val hd (t := 42) (k := 6) (by kernel_rfl) rfl) ?_
  refine Mono.rgl_skip rfl (by decide) (fun ρ W hd => Mono.guard_val hd (t := 42) (k := 6) (by kernel_rfl) rfl) ?_
  refine Mono.rgl_skip rfl (by decide) (fun ρ W hd => Mono.guard_val hd (t := 42) (k := 6) (by kernel_rfl) rfl) ?_
  refine Mono.rgl_skip rfl (by decide) (fun ρ W hd => Mono.guard_val hd (t := 42) (k := 6) (by kernel_rfl) rfl) ?_
  refine Mono.rgl_skip rfl (by decide) (fun ρ W hd => Mono.guard_val hd (t := 42) (k := 6) (by kernel_rfl) rfl) ?_
  refine Mono.rgl_val (v := ?vz22) rfl Mono.rr (fun ρ a W hR hd hf => ?hz22) ?_
  case hz22 =>
    have e42 := Mono.dep_val hd hf (t := 42) (k := 6) (by kernel_rfl) rfl
    have e57 := Mono.dep_val hd hf (t := 57) (k := 21) (by kernel_rfl) rfl
    clear hd hf
    (go_simp; try with_reducible rfl)
  refine Mono.rgl_done rfl (fun ρ W hR ht => ?_)
  obtain ⟨dz22, dz21, dz20, dz19, dz18, dz17, dz16, dz15, dz14, dz13, dz12, dz11, dz10, dz9, dz8, dz7, dz6, dz5, dz4, dz3, dz2, dz1, dz0, _⟩ := ht
  simp only [List.length_cons, List.length_nil, Nat.reduceAdd] at dz0 dz1 dz2 dz3 dz4 dz5 dz6 dz7 dz8 dz9 dz10 dz11 dz12 dz13 dz14 dz15 dz16 dz17 dz18 dz19 dz20 dz21 dz22
  simp only [Mono.putAll, Nat.reduceAdd, dz0, dz1, dz2, dz3, dz4, dz5, dz6, dz7, dz8, dz9, dz10, dz11, dz12, dz13, dz14, dz15, dz16, dz17, dz18, dz19, dz20, dz21, dz22, Act.put, List.setIfInBounds_toArray, List.set_cons_zero, List.set_cons_succ]
  clear dz0 dz1 dz2 dz3 dz4 dz5 dz6 dz7 dz8 dz9 dz10 dz11 dz12 dz13 dz14 dz15 dz16 dz17 dz18 dz19 dz20 dz21 dz22
  have HBZ := Lib.hid (HBW.out.trans (hR.mono HBW.out.size))
  clear hR 
  go_wp2
  refine bodyPost_ret (v := .tuple #[.int .u32 0, .int .i64 0, .int .i64 0, .bool false]) (by simp [results, Try.results11, go_sem]) rfl ⟨rfl, HBZ.out⟩
set_option maxHeartbeats 2000000 in
theorem rparse_neq_false (ad : Option Addr) (c : Nat) (l : List UInt8) (w : World) (h : Byt w w.heap.size (.slice ad l.length c) l) (hl : l.length ≤ 100000) (hc : l.length ≤ c) (hs : 16 ≤ l.length) (hp : rd l 8 4 ≤ 33554432) (hs2 : rd l 12 4 ≤ 16777216) (hd : descBytes (rd l 4 4) (rd l 8 4) (rd l 12 4) false ≠ l.take 16) : Calls Try.prog 11 #[.slice ad l.length c, .bool false] w fun e w' => e = .returned (.tuple #[.int .u32 0, .int .i64 0, .int .i64 0, .bool false]) ∧ Below w.heap.size w w' := by
  have t0 : decide ((l.length : Int) < 16) = false := by simp; omega
  obtain ⟨S1, hs1, hb1⟩ := piece2 ad l.length c l h rfl hc 4 8 (by decide) (by omega)
  have HS1 : Hid (∀ W : World, (Instr.slice 25 (.slice ad l.length c) (some (.int .i64 4)) (some (.int .i64 8)) none).run Try.prog W = .ok S1 W) := Lib.hid hs1
  have NUM1 := Lib.hid (fun (W : World) (hR : Below w.heap.size w W) => refNumber_B (hb1.below hR) (by rw [List.length_take]; omega))
  rw [show num ((l.drop 4).take (8 - 4)) = rd l 4 4 from rfl] at NUM1
  clear hs1 hb1
  obtain ⟨S2, hs2, hb2⟩ := piece2 ad l.length c l h rfl hc 8 12 (by decide) (by omega)
  have HS2 : Hid (∀ W : World, (Instr.slice 25 (.slice ad l.length c) (some (.int .i64 8)) (some (.int .i64 12)) none).run Try.prog W = .ok S2 W) := Lib.hid hs2
  have NUM2 := Lib.hid (fun (W : World) (hR : Below w.heap.size w W) => refNumber_B (hb2.below hR) (by rw [List.length_take]; omega))
  rw [show num ((l.drop 8).take (12 - 8)) = rd l 8 4 from rfl] at NUM2
  clear hs2 hb2
  obtain ⟨S3, hs3, hb3⟩ := piece2 ad l.length c l h rfl hc 12 16 (by decide) (by omega)
  have HS3 : Hid (∀ W : World, (Instr.slice 25 (.slice ad l.length c) (some (.int .i64 12)) (some (.int .i64 16)) none).run Try.prog W = .ok S3 W) := Lib.hid hs3
  have NUM3 := Lib.hid (fun (W : World) (hR : Below w.heap.size w W) => refNumber_B (hb3.below hR) (by rw [List.length_take]; omega))
  rw [show num ((l.drop 12).take (16 - 12)) = rd l 12 4 from rfl] at NUM3
  clear hs3 hb3
  have hsl4 := fun W => slice_h (t := 25) (e := 5) (size := 1) rfl size_u8 ad l.length c (16 : Int) (by decide) (by omega) W
  have hsb4 := sub_byt h 0 16 (by omega)
  rw [List.drop_zero] at hsb4
  simp only [Nat.sub_zero] at hsl4 hsb4
  have HS4 : Hid (∀ W : World, (Instr.slice 25 (.slice ad l.length c) none (some (.int .i64 16)) none).run Try.prog W = .ok (.slice (if c = 0 then ad else ad.map (·.add (0 * 1))) 16 c) W) := Lib.hid hsl4
  have HB4 := Lib.hid hsb4
  clear hsl4 hsb4
  generalize Value.slice (if c = 0 then ad else ad.map (·.add (0 * 1))) 16 c = S4 at *
  have bx : rd l 4 4 < 4294967296 := rd_lt l 4 4
  have q_x : IntKind.u32.wrap ((rd l 4 4 : Nat) : Int) = (rd l 4 4 : Nat) := by rw [IntKind.wrap_u32]; omega
  have HRE := Lib.hid (fun W => renc_yes (rd l 4 4) (rd l 8 4) (rd l 12 4) false W bx (descB_yes (by omega)))
  have HD := Lib.hid hd
  clear hd
  generalize descBytes (rd l 4 4) (rd l 8 4) (rd l 12 4) false = X at *
  have HQX := Lib.hid q_x
  clear q_x bx h
  generalize rd l 4 4 = cr at *
  generalize rd l 8 4 = p at *
  generalize rd l 12 4 = s at *
  have d1 : decide (33554432 < (p : Int)) = false := by simp; omega
  have d2 : decide (16777216 < (s : Int)) = false := by simp; omega
  have HQP : Hid (IntKind.i64.wrap (p : Int) = p) := Lib.hid (IntWalk.i64_in _ (by omega))
  have HQS : Hid (IntKind.i64.wrap (s : Int) = s) := Lib.hid (IntWalk.i64_in _ (by omega))
  go_enter Try.func11, Try.ntmps11
  go_wp2_with fail
  refine Mono.region_below (by kernel_rfl) (by kernel_rfl) (by kernel_rfl) ?_
  refine Mono.rgl_val (v := ?v0) rfl Mono.rr (fun ρ a W hR hd hf => ?h0) ?_
  case h0 =>
    have e0 := Mono.init_get hf (t := 0) (by kernel_rfl)
    clear hd hf
    (go_simp; try with_reducible rfl)
  refine Mono.rgl_val (v := ?v1) rfl Mono.rr (fun ρ a W hR hd hf => ?h1) ?_
  case h1 =>
    have e19 := Mono.dep_val hd hf (t := 19) (k := 0) (by kernel_rfl) rfl
    have hsl := HS1.out W
    clear hd hf
    (go_simp; try with_reducible rfl)
  refine Mono.rgl_call (fun x _ => x = .int .u64 ((cr : Nat) : Int)) rfl Mono.rr (fun _ _ _ h _ => h) (fun ρ a W hR hd hf => ?h2) ?_
  case h2 =>
    have e20 := Mono.dep_val hd hf (t := 20) (k := 1) (by kernel_rfl) rfl
    clear hd hf
    refine ⟨_, _, by go_simp; first | rfl | exact ⟨rfl, rfl⟩, ?_⟩
    exact (NUM1.out W hR).mono (fun e W' ⟨he, hw⟩ => ⟨_, he, hw ▸ Mono.rr _, rfl⟩)
  refine Mono.rgl_val (v := ?v3) rfl Mono.rr (fun ρ a W hR hd hf => ?h3) ?_
  case h3 =>
    have e21 := Mono.dep_val hd hf (t := 21) (k := 2) (by kernel_rfl) rfl
    have hq := HQX.out
    clear hd hf
    (go_simp; try with_reducible rfl)
  refine Mono.rgl_val (v := ?v4) rfl Mono.rr (fun ρ a W hR hd hf => ?h4) ?_
  case h4 =>
    have e0 := Mono.init_get hf (t := 0) (by kernel_rfl)
    clear hd hf
    (go_simp; try with_reducible rfl)
  refine Mono.rgl_val (v := ?v5) rfl Mono.rr (fun ρ a W hR hd hf => ?h5) ?_
  case h5 =>
    have e8 := Mono.init_get hf (t := 8) (by kernel_rfl)
    clear hd hf
    (go_simp; try with_reducible rfl)
  refine Mono.rgl_val (v := .int .i64 12) rfl Mono.rr (fun ρ a W hR hd hf => ?h6) ?_
  case h6 =>
    have e24 := Mono.dep_val hd hf (t := 24) (k := 5) (by kernel_rfl) rfl
    clear hd hf
    (go_simp <;> rfl)
  refine Mono.rgl_val (v := ?v7) rfl Mono.rr (fun ρ a W hR hd hf => ?h7) ?_
  case h7 =>
    have e23 := Mono.dep_val hd hf (t := 23) (k := 4) (by kernel_rfl) rfl
    have e25 := Mono.dep_val hd hf (t := 25) (k := 6) (by kernel_rfl) rfl
    have hsl := HS2.out W
    clear hd hf
    (go_simp; try with_reducible rfl)
  refine Mono.rgl_call (fun x _ => x = .int .u64 ((p : Nat) : Int)) rfl Mono.rr (fun _ _ _ h _ => h) (fun ρ a W hR hd hf => ?h8) ?_
  case h8 =>
    have e26 := Mono.dep_val hd hf (t := 26) (k := 7) (by kernel_rfl) rfl
    clear hd hf
    refine ⟨_, _, by go_simp; first | rfl | exact ⟨rfl, rfl⟩, ?_⟩
    exact (NUM2.out W hR).mono (fun e W' ⟨he, hw⟩ => ⟨_, he, hw ▸ Mono.rr _, rfl⟩)
  refine Mono.rgl_val (v := ?v9) rfl Mono.rr (fun ρ a W hR hd hf => ?h9) ?_
  case h9 =>
    have e0 := Mono.init_get hf (t := 0) (by kernel_rfl)
    clear hd hf
    (go_simp; try with_reducible rfl)
  refine Mono.rgl_val (v := ?v10) rfl Mono.rr (fun ρ a W hR hd hf => ?h10) ?_
  case h10 =>
    have e8 := Mono.init_get hf (t := 8) (by kernel_rfl)
    clear hd hf
    (go_simp; try with_reducible rfl)
  refine Mono.rgl_val (v := .int .i64 12) rfl Mono.rr (fun ρ a W hR hd hf => ?h11) ?_
  case h11 =>
    have e29 := Mono.dep_val hd hf (t := 29) (k := 10) (by kernel_rfl) rfl
    clear hd hf
    (go_simp <;> rfl)
  refine Mono.rgl_val (v := ?v12) rfl Mono.rr (fun ρ a W hR hd hf => ?h12) ?_
  case h12 =>
    have e8 := Mono.init_get hf (t := 8) (by kernel_rfl)
    clear hd hf
    (go_simp; try with_reducible rfl)
  refine Mono.rgl_val (v := .int .i64 8) rfl Mono.rr (fun ρ a W hR hd hf => ?h13) ?_
  case h13 =>
    have e31 := Mono.dep_val hd hf (t := 31) (k := 12) (by kernel_rfl) rfl
    clear hd hf
    (go_simp <;> rfl)
  refine Mono.rgl_val (v := .int .i64 16) rfl Mono.rr (fun ρ a W hR hd hf => ?h14) ?_
  case h14 =>
    have e32 := Mono.dep_val hd hf (t := 32) (k := 13) (by kernel_rfl) rfl
    clear hd hf
    (go_simp <;> rfl)
  refine Mono.rgl_val (v := ?v15) rfl Mono.rr (fun ρ a W hR hd hf => ?h15) ?_
  case h15 =>
    have e28 := Mono.dep_val hd hf (t := 28) (k := 9) (by kernel_rfl) rfl
    have e30 := Mono.dep_val hd hf (t := 30) (k := 11) (by kernel_rfl) rfl
    have e33 := Mono.dep_val hd hf (t := 33) (k := 14) (by kernel_rfl) rfl
    have hsl := HS3.out W
    clear hd hf
    (go_simp; try with_reducible rfl)
  refine Mono.rgl_call (fun x _ => x = .int .u64 ((s : Nat) : Int)) rfl Mono.rr (fun _ _ _ h _ => h) (fun ρ a W hR hd hf => ?h16) ?_
  case h16 =>
    have e34 := Mono.dep_val hd hf (t := 34) (k := 15) (by kernel_rfl) rfl
    clear hd hf
    refine ⟨_, _, by go_simp; first | rfl | exact ⟨rfl, rfl⟩, ?_⟩
    exact (NUM3.out W hR).mono (fun e W' ⟨he, hw⟩ => ⟨_, he, hw ▸ Mono.rr _, rfl⟩)
  refine Mono.rgl_val (v := ?v17) rfl Mono.rr (fun ρ a W hR hd hf => ?h17) ?_
  case h17 =>
    have e22 := Mono.dep_val hd hf (t := 22) (k := 3) (by kernel_rfl) rfl
    clear hd hf
    (go_simp; try with_reducible rfl)
  refine Mono.rgl_val (v := ?v18) rfl Mono.rr (fun ρ a W hR hd hf => ?h18) ?_
  case h18 =>
    have e27 := Mono.dep_val hd hf (t := 27) (k := 8) (by kernel_rfl) rfl
    clear hd hf
    (go_simp; try with_reducible rfl)
  refine Mono.rgl_val (v := ?v19) rfl Mono.rr (fun ρ a W hR hd hf => ?h19) ?_
  case h19 =>
    have e35 := Mono.dep_val hd hf (t := 35) (k := 16) (by kernel_rfl) rfl
    clear hd hf
    (go_simp; try with_reducible rfl)
  refine Mono.rgl_done rfl (fun ρ W hR ht => ?_)
  obtain ⟨d19, d18, d17, d16, d15, d14, d13, d12, d11, d10, d9, d8, d7, d6, d5, d4, d3, d2, d1, d0, _⟩ := ht
  simp only [List.length_cons, List.length_nil, Nat.reduceAdd] at d0 d1 d2 d3 d4 d5 d6 d7 d8 d9 d10 d11 d12 d13 d14 d15 d16 d17 d18 d19
  simp only [Mono.putAll, Nat.reduceAdd, d0, d1, d2, d3, d4, d5, d6, d7, d8, d9, d10, d11, d12, d13, d14, d15, d16, d17, d18, d19, Act.put, List.setIfInBounds_toArray, List.set_cons_zero, List.set_cons_succ]
  clear d0 d1 d2 d3 d4 d5 d6 d7 d8 d9 d10 d11 d12 d13 d14 d15 d16 d17 d18 d19
  have HBW := Lib.hid hR
  clear hR
  obtain ⟨w4, rfl⟩ : ∃ z, z = W := ⟨_, rfl⟩
  go_wp2_with fail
  refine Mono.region_below (by kernel_rfl) (by kernel_rfl) (by kernel_rfl) ?_
  refine Mono.rgl_val (v := ?vz0) rfl Mono.rr (fun ρ a W hR hd hf => ?hz0) ?_
  case hz0 =>
    have e10 := Mono.init_get hf (t := 10) (by kernel_rfl)
    clear hd hf
    (go_simp; try with_reducible rfl)
  refine Mono.rgl_val (v := .bool false) rfl Mono.rr (fun ρ a W hR hd hf => ?hz1) ?_
  case hz1 =>
    have e36 := Mono.dep_val hd hf (t := 36) (k := 0) (by kernel_rfl) rfl
    clear hd hf
    (go_simp)
  refine Mono.rgl_val (v := ?vz2) rfl Mono.rr (fun ρ a W hR hd hf => ?hz2) ?_
  case hz2 =>
    have e37 := Mono.dep_val hd hf (t := 37) (k := 1) (by kernel_rfl) rfl
    clear hd hf
    (go_simp; try with_reducible rfl)
  refine Mono.rgl_valg (v := ?vz3) rfl Mono.rr (fun ρ W hd => Mono.guard_val hd (t := 38) (k := 2) (by kernel_rfl) rfl) (fun ρ a W hR hd hf => ?hz3) ?_
  case hz3 =>
    have e11 := Mono.init_get hf (t := 11) (by kernel_rfl)
    clear hd hf
    (go_simp; try with_reducible rfl)
  refine Mono.rgl_valg (v := .bool false) rfl Mono.rr (fun ρ W hd => Mono.guard_val hd (t := 38) (k := 2) (by kernel_rfl) rfl) (fun ρ a W hR hd hf => ?hz4) ?_
  case hz4 =>
    have e39 := Mono.dep_val hd hf (t := 39) (k := 3) (by kernel_rfl) rfl
    clear hd hf
    (go_simp)
  refine Mono.rgl_val (v := ?vz5) rfl Mono.rr (fun ρ a W hR hd hf => ?hz5) ?_
  case hz5 =>
    have e38 := Mono.dep_val hd hf (t := 38) (k := 2) (by kernel_rfl) rfl
    have e40 := Mono.dep_val hd hf (t := 40) (k := 4) (by kernel_rfl) rfl
    clear hd hf
    (go_simp; try with_reducible rfl)
  refine Mono.rgl_val (v := ?vz6) rfl Mono.rr (fun ρ a W hR hd hf => ?hz6) ?_
  case hz6 =>
    have e41 := Mono.dep_val hd hf (t := 41) (k := 5) (by kernel_rfl) rfl
    clear hd hf
    (go_simp; try with_reducible rfl)
  refine Mono.rgl_valg (v := ?vz7) rfl Mono.rr (fun ρ W hd => Mono.guard_val hd (t := 42) (k := 6) (by kernel_rfl) rfl) (fun ρ a W hR hd hf => ?hz7) ?_
  case hz7 =>
    have e9 := Mono.init_get hf (t := 9) (by kernel_rfl)
    clear hd hf
    (go_simp; try with_reducible rfl)
  refine Mono.rgl_valg (v := ?vz8) rfl Mono.rr (fun ρ W hd => Mono.guard_val hd (t := 42) (k := 6) (by kernel_rfl) rfl) (fun ρ a W hR hd hf => ?hz8) ?_
  case hz8 =>
    have e10 := Mono.init_get hf (t := 10) (by kernel_rfl)
    clear hd hf
    (go_simp; try with_reducible rfl)
  refine Mono.rgl_valg (v := ?vz9) rfl Mono.rr (fun ρ W hd => Mono.guard_val hd (t := 42) (k := 6) (by kernel_rfl) rfl) (fun ρ a W hR hd hf => ?hz9) ?_
  case hz9 =>
    have e44 := Mono.dep_val hd hf (t := 44) (k := 8) (by kernel_rfl) rfl
    have hq := HQP.out
    clear hd hf
    (go_simp; try with_reducible rfl)
  refine Mono.rgl_valg (v := ?vz10) rfl Mono.rr (fun ρ W hd => Mono.guard_val hd (t := 42) (k := 6) (by kernel_rfl) rfl) (fun ρ a W hR hd hf => ?hz10) ?_
  case hz10 =>
    have e11 := Mono.init_get hf (t := 11) (by kernel_rfl)
    clear hd hf
    (go_simp; try with_reducible rfl)
  refine Mono.rgl_valg (v := ?vz11) rfl Mono.rr (fun ρ W hd => Mono.guard_val hd (t := 42) (k := 6) (by kernel_rfl) rfl) (fun ρ a W hR hd hf => ?hz11) ?_
  case hz11 =>
    have e46 := Mono.dep_val hd hf (t := 46) (k := 10) (by kernel_rfl) rfl
    have hq := HQS.out
    clear hd hf
    (go_simp; try with_reducible rfl)
  refine Mono.rgl_valg (v := ?vz12) rfl Mono.rr (fun ρ W hd => Mono.guard_val hd (t := 42) (k := 6) (by kernel_rfl) rfl) (fun ρ a W hR hd hf => ?hz12) ?_
  case hz12 =>
    have e1 := Mono.init_get hf (t := 1) (by kernel_rfl)
    clear hd hf
    (go_simp; try with_reducible rfl)
  refine Mono.rgl_callg (fun z W => Byt W W.heap.size z X) rfl Mono.rr hstB2 (fun ρ W hd => Mono.guard_val hd (t := 42) (k := 6) (by kernel_rfl) rfl) (fun ρ a W hR hd hf => ?hz13) ?_
  case hz13 =>
    have e43 := Mono.dep_val hd hf (t := 43) (k := 7) (by kernel_rfl) rfl
    have e45 := Mono.dep_val hd hf (t := 45) (k := 9) (by kernel_rfl) rfl
    have e47 := Mono.dep_val hd hf (t := 47) (k := 11) (by kernel_rfl) rfl
    have e48 := Mono.dep_val hd hf (t := 48) (k := 12) (by kernel_rfl) rfl
    clear hd hf
    refine ⟨_, _, by go_simp; first | rfl | exact ⟨rfl, rfl⟩, ?_⟩
    exact (HRE.out W).mono (fun e W' ⟨v', he, ho, hb⟩ => ⟨v', he, hb, ho.byt⟩)
  refine Mono.rgl_valg (v := ?vz14) rfl Mono.rr (fun ρ W hd => Mono.guard_val hd (t := 42) (k := 6) (by kernel_rfl) rfl) (fun ρ a W hR hd hf => ?hz14) ?_
  case hz14 =>
    obtain ⟨e49, d13⟩ := Mono.dep_get hd hf (t := 49) (k := 13) (by kernel_rfl)
    replace d13 : (fun z W => Byt W W.heap.size z X) (ρ 13) W := d13
    have hcv := convert_byt (src := 25) (dst := 9) (e := 5) rfl rfl rfl (d13)
    clear hd hf
    (go_simp; try with_reducible rfl)
  refine Mono.rgl_valg (v := ?vz15) rfl Mono.rr (fun ρ W hd => Mono.guard_val hd (t := 42) (k := 6) (by kernel_rfl) rfl) (fun ρ a W hR hd hf => ?hz15) ?_
  case hz15 =>
    have e0 := Mono.init_get hf (t := 0) (by kernel_rfl)
    clear hd hf
    (go_simp; try with_reducible rfl)
  refine Mono.rgl_valg (v := ?vz16) rfl Mono.rr (fun ρ W hd => Mono.guard_val hd (t := 42) (k := 6) (by kernel_rfl) rfl) (fun ρ a W hR hd hf => ?hz16) ?_
  case hz16 =>
    have e8 := Mono.init_get hf (t := 8) (by kernel_rfl)
    clear hd hf
    (go_simp; try with_reducible rfl)
  refine Mono.rgl_valg (v := .int .i64 8) rfl Mono.rr (fun ρ W hd => Mono.guard_val hd (t := 42) (k := 6) (by kernel_rfl) rfl) (fun ρ a W hR hd hf => ?hz17) ?_
  case hz17 =>
    have e52 := Mono.dep_val hd hf (t := 52) (k := 16) (by kernel_rfl) rfl
    clear hd hf
    (go_simp <;> rfl)
  refine Mono.rgl_valg (v := .int .i64 16) rfl Mono.rr (fun ρ W hd => Mono.guard_val hd (t := 42) (k := 6) (by kernel_rfl) rfl) (fun ρ a W hR hd hf => ?hz18) ?_
  case hz18 =>
    have e53 := Mono.dep_val hd hf (t := 53) (k := 17) (by kernel_rfl) rfl
    clear hd hf
    (go_simp <;> rfl)
  refine Mono.rgl_valg (v := ?vz19) rfl Mono.rr (fun ρ W hd => Mono.guard_val hd (t := 42) (k := 6) (by kernel_rfl) rfl) (fun ρ a W hR hd hf => ?hz19) ?_
  case hz19 =>
    have e51 := Mono.dep_val hd hf (t := 51) (k := 15) (by kernel_rfl) rfl
    have e54 := Mono.dep_val hd hf (t := 54) (k := 18) (by kernel_rfl) rfl
    have hsl := HS4.out W
    clear hd hf
    (go_simp; try with_reducible rfl)
  refine Mono.rgl_valg (v := ?vz20) rfl Mono.rr (fun ρ W hd => Mono.guard_val hd (t := 42) (k := 6) (by kernel_rfl) rfl) (fun ρ a W hR hd hf => ?hz20) ?_
  case hz20 =>
    have e55 := Mono.dep_val hd hf (t := 55) (k := 19) (by kernel_rfl) rfl
    have hcv := convert_byt (src := 25) (dst := 9) (e := 5) rfl rfl rfl (HB4.out.below (HBW.out.trans (hR.mono HBW.out.size)))
    clear hd hf
    (go_simp; try with_reducible rfl)
  refine Mono.rgl_valg (v := .bool true) rfl Mono.rr (fun ρ W hd => Mono.guard_val hd (t := 42) (k := 6) (by kernel_rfl) rfl) (fun ρ a W hR hd hf => ?hz21) ?_
  case hz21 =>
    have e50 := Mono.dep_val hd hf (t := 50) (k := 14) (by kernel_rfl) rfl
    have e56 := Mono.dep_val hd hf (t := 56) (k := 20) (by kernel_rfl) rfl
    clear hd hf
    (go_simp; rw [ByteArray.toList_eq, ByteArray.toList_eq]; exact fun h => HD.out (by simpa [str] using h))
  refine Mono.rgl_val (v := ?vz22) rfl Mono.rr (fun ρ a W hR hd hf => ?hz22) ?_
  case hz22 =>
    have e42 := Mono.dep_val hd hf (t := 42) (k := 6) (by kernel_rfl) rfl
    have e57 := Mono.dep_val hd hf (t := 57) (k := 21) (by kernel_rfl) rfl
    clear hd hf
    (go_simp; try with_reducible rfl)
  refine Mono.rgl_done rfl (fun ρ W hR ht => ?_)
  obtain ⟨dz22, dz21, dz20, dz19, dz18, dz17, dz16, dz15, dz14, dz13, dz12, dz11, dz10, dz9, dz8, dz7, dz6, dz5, dz4, dz3, dz2, dz1, dz0, _⟩ := ht
  replace dz13 : (fun z W => Byt W W.heap.size z X) (ρ 13) W := dz13
  simp only [List.length_cons, List.length_nil, Nat.reduceAdd] at dz0 dz1 dz2 dz3 dz4 dz5 dz6 dz7 dz8 dz9 dz10 dz11 dz12 dz14 dz15 dz16 dz17 dz18 dz19 dz20 dz21 dz22
  simp only [Mono.putAll, Nat.reduceAdd, dz0, dz1, dz2, dz3, dz4, dz5, dz6, dz7, dz8, dz9, dz10, dz11, dz12, dz14, dz15, dz16, dz17, dz18, dz19, dz20, dz21, dz22, Act.put, List.setIfInBounds_toArray, List.set_cons_zero, List.set_cons_succ]
  clear dz0 dz1 dz2 dz3 dz4 dz5 dz6 dz7 dz8 dz9 dz10 dz11 dz12 dz14 dz15 dz16 dz17 dz18 dz19 dz20 dz21 dz22
  generalize ρ 13 = rz13 at *
  have HBZ := Lib.hid (HBW.out.trans (hR.mono HBW.out.size))
  clear hR dz13
  go_wp2
  refine bodyPost_ret (v := .tuple #[.int .u32 0, .int .i64 0, .int .i64 0, .bool false]) (by simp [results, Try.results11, go_sem]) rfl ⟨rfl, HBZ.out⟩
set_option maxHeartbeats 2000000 in
theorem rparse_yes_false (ad : Option Addr) (c : Nat) (l : List UInt8) (w : World) (h : Byt w w.heap.size (.slice ad l.length c) l) (hl : l.length ≤ 100000) (hc : l.length ≤ c) (hs : 16 ≤ l.length) (hp : rd l 8 4 ≤ 33554432) (hs2 : rd l 12 4 ≤ 16777216) (hd : descBytes (rd l 4 4) (rd l 8 4) (rd l 12 4) false = l.take 16) : Calls Try.prog 11 #[.slice ad l.length c, .bool false] w fun e w' => e = .returned (.tuple #[.int .u32 (rd l 4 4 : Nat), .int .i64 (rd l 8 4 : Nat), .int .i64 (rd l 12 4 : Nat), .bool true]) ∧ Below w.heap.size w w' := by
  have t0 : decide ((l.length : Int) < 16) = false := by simp; omega
  obtain ⟨S1, hs1, hb1⟩ := piece2 ad l.length c l h rfl hc 4 8 (by decide) (by omega)
  have HS1 : Hid (∀ W : World, (Instr.slice 25 (.slice ad l.length c) (some (.int .i64 4)) (some (.int .i64 8)) none).run Try.prog W = .ok S1 W) := Lib.hid hs1
  have NUM1 := Lib.hid (fun (W : World) (hR : Below w.heap.size w W) => refNumber_B (hb1.below hR) (by rw [List.length_take]; omega))
  rw [show num ((l.drop 4).take (8 - 4)) = rd l 4 4 from rfl] at NUM1
  clear hs1 hb1
  obtain ⟨S2, hs2, hb2⟩ := piece2 ad l.length c l h rfl hc 8 12 (by decide) (by omega)
  have HS2 : Hid (∀ W : World, (Instr.slice 25 (.slice ad l.length c) (some (.int .i64 8)) (some (.int .i64 12)) none).run Try.prog W = .ok S2 W) := Lib.hid hs2
  have NUM2 := Lib.hid (fun (W : World) (hR : Below w.heap.size w W) => refNumber_B (hb2.below hR) (by rw [List.length_take]; omega))
  rw [show num ((l.drop 8).take (12 - 8)) = rd l 8 4 from rfl] at NUM2
  clear hs2 hb2
  obtain ⟨S3, hs3, hb3⟩ := piece2 ad l.length c l h rfl hc 12 16 (by decide) (by omega)
  have HS3 : Hid (∀ W : World, (Instr.slice 25 (.slice ad l.length c) (some (.int .i64 12)) (some (.int .i64 16)) none).run Try.prog W = .ok S3 W) := Lib.hid hs3
  have NUM3 := Lib.hid (fun (W : World) (hR : Below w.heap.size w W) => refNumber_B (hb3.below hR) (by rw [List.length_take]; omega))
  rw [show num ((l.drop 12).take (16 - 12)) = rd l 12 4 from rfl] at NUM3
  clear hs3 hb3
  have hsl4 := fun W => slice_h (t := 25) (e := 5) (size := 1) rfl size_u8 ad l.length c (16 : Int) (by decide) (by omega) W
  have hsb4 := sub_byt h 0 16 (by omega)
  rw [List.drop_zero] at hsb4
  simp only [Nat.sub_zero] at hsl4 hsb4
  have HS4 : Hid (∀ W : World, (Instr.slice 25 (.slice ad l.length c) none (some (.int .i64 16)) none).run Try.prog W = .ok (.slice (if c = 0 then ad else ad.map (·.add (0 * 1))) 16 c) W) := Lib.hid hsl4
  have HB4 := Lib.hid hsb4
  clear hsl4 hsb4
  generalize Value.slice (if c = 0 then ad else ad.map (·.add (0 * 1))) 16 c = S4 at *
  have bx : rd l 4 4 < 4294967296 := rd_lt l 4 4
  have q_x : IntKind.u32.wrap ((rd l 4 4 : Nat) : Int) = (rd l 4 4 : Nat) := by rw [IntKind.wrap_u32]; omega
  have HRE := Lib.hid (fun W => renc_yes (rd l 4 4) (rd l 8 4) (rd l 12 4) false W bx (descB_yes (by omega)))
  have HD := Lib.hid hd
  clear hd
  generalize descBytes (rd l 4 4) (rd l 8 4) (rd l 12 4) false = X at *
  have HQX := Lib.hid q_x
  clear q_x bx h
  generalize rd l 4 4 = cr at *
  generalize rd l 8 4 = p at *
  generalize rd l 12 4 = s at *
  have d1 : decide (33554432 < (p : Int)) = false := by simp; omega
  have d2 : decide (16777216 < (s : Int)) = false := by simp; omega
  have HQP : Hid (IntKind.i64.wrap (p : Int) = p) := Lib.hid (IntWalk.i64_in _ (by omega))
  have HQS : Hid (IntKind.i64.wrap (s : Int) = s) := Lib.hid (IntWalk.i64_in _ (by omega))
  go_enter Try.func11, Try.ntmps11
  go_wp2_with fail
  refine Mono.region_below (by kernel_rfl) (by kernel_rfl) (by kernel_rfl) ?_
  refine Mono.rgl_val (v := ?v0) rfl Mono.rr (fun ρ a W hR hd hf => ?h0) ?_
  case h0 =>
    have e0 := Mono.init_get hf (t := 0) (by kernel_rfl)
    clear hd hf
    (go_simp; try with_reducible rfl)
  refine Mono.rgl_val (v := ?v1) rfl Mono.rr (fun ρ a W hR hd hf => ?h1) ?_
  case h1 =>
    have e19 := Mono.dep_val hd hf (t := 19) (k := 0) (by kernel_rfl) rfl
    have hsl := HS1.out W
    clear hd hf
    (go_simp; try with_reducible rfl)
  refine Mono.rgl_call (fun x _ => x = .int .u64 ((cr : Nat) : Int)) rfl Mono.rr (fun _ _ _ h _ => h) (fun ρ a W hR hd hf => ?h2) ?_
  case h2 =>
    have e20 := Mono.dep_val hd hf (t := 20) (k := 1) (by kernel_rfl) rfl
    clear hd hf
    refine ⟨_, _, by go_simp; first | rfl | exact ⟨rfl, rfl⟩, ?_⟩
    exact (NUM1.out W hR).mono (fun e W' ⟨he, hw⟩ => ⟨_, he, hw ▸ Mono.rr _, rfl⟩)
  refine Mono.rgl_val (v := ?v3) rfl Mono.rr (fun ρ a W hR hd hf => ?h3) ?_
  case h3 =>
    have e21 := Mono.dep_val hd hf (t := 21) (k := 2) (by kernel_rfl) rfl
    have hq := HQX.out
    clear hd hf
    (go_simp; try with_reducible rfl)
  refine Mono.rgl_val (v := ?v4) rfl Mono.rr (fun ρ a W hR hd hf => ?h4) ?_
  case h4 =>
    have e0 := Mono.init_get hf (t := 0) (by kernel_rfl)
    clear hd hf
    (go_simp; try with_reducible rfl)
  refine Mono.rgl_val (v := ?v5) rfl Mono.rr (fun ρ a W hR hd hf => ?h5) ?_
  case h5 =>
    have e8 := Mono.init_get hf (t := 8) (by kernel_rfl)
    clear hd hf
    (go_simp; try with_reducible rfl)
  refine Mono.rgl_val (v := .int .i64 12) rfl Mono.rr (fun ρ a W hR hd hf => ?h6) ?_
  case h6 =>
    have e24 := Mono.dep_val hd hf (t := 24) (k := 5) (by kernel_rfl) rfl
    clear hd hf
    (go_simp <;> rfl)
  refine Mono.rgl_val (v := ?v7) rfl Mono.rr (fun ρ a W hR hd hf => ?h7) ?_
  case h7 =>
    have e23 := Mono.dep_val hd hf (t := 23) (k := 4) (by kernel_rfl) rfl
    have e25 := Mono.dep_val hd hf (t := 25) (k := 6) (by kernel_rfl) rfl
    have hsl := HS2.out W
    clear hd hf
    (go_simp; try with_reducible rfl)
  refine Mono.rgl_call (fun x _ => x = .int .u64 ((p : Nat) : Int)) rfl Mono.rr (fun _ _ _ h _ => h) (fun ρ a W hR hd hf => ?h8) ?_
  case h8 =>
    have e26 := Mono.dep_val hd hf (t := 26) (k := 7) (by kernel_rfl) rfl
    clear hd hf
    refine ⟨_, _, by go_simp; first | rfl | exact ⟨rfl, rfl⟩, ?_⟩
    exact (NUM2.out W hR).mono (fun e W' ⟨he, hw⟩ => ⟨_, he, hw ▸ Mono.rr _, rfl⟩)
  refine Mono.rgl_val (v := ?v9) rfl Mono.rr (fun ρ a W hR hd hf => ?h9) ?_
  case h9 =>
    have e0 := Mono.init_get hf (t := 0) (by kernel_rfl)
    clear hd hf
    (go_simp; try with_reducible rfl)
  refine Mono.rgl_val (v := ?v10) rfl Mono.rr (fun ρ a W hR hd hf => ?h10) ?_
  case h10 =>
    have e8 := Mono.init_get hf (t := 8) (by kernel_rfl)
    clear hd hf
    (go_simp; try with_reducible rfl)
  refine Mono.rgl_val (v := .int .i64 12) rfl Mono.rr (fun ρ a W hR hd hf => ?h11) ?_
  case h11 =>
    have e29 := Mono.dep_val hd hf (t := 29) (k := 10) (by kernel_rfl) rfl
    clear hd hf
    (go_simp <;> rfl)
  refine Mono.rgl_val (v := ?v12) rfl Mono.rr (fun ρ a W hR hd hf => ?h12) ?_
  case h12 =>
    have e8 := Mono.init_get hf (t := 8) (by kernel_rfl)
    clear hd hf
    (go_simp; try with_reducible rfl)
  refine Mono.rgl_val (v := .int .i64 8) rfl Mono.rr (fun ρ a W hR hd hf => ?h13) ?_
  case h13 =>
    have e31 := Mono.dep_val hd hf (t := 31) (k := 12) (by kernel_rfl) rfl
    clear hd hf
    (go_simp <;> rfl)
  refine Mono.rgl_val (v := .int .i64 16) rfl Mono.rr (fun ρ a W hR hd hf => ?h14) ?_
  case h14 =>
    have e32 := Mono.dep_val hd hf (t := 32) (k := 13) (by kernel_rfl) rfl
    clear hd hf
    (go_simp <;> rfl)
  refine Mono.rgl_val (v := ?v15) rfl Mono.rr (fun ρ a W hR hd hf => ?h15) ?_
  case h15 =>
    have e28 := Mono.dep_val hd hf (t := 28) (k := 9) (by kernel_rfl) rfl
    have e30 := Mono.dep_val hd hf (t := 30) (k := 11) (by kernel_rfl) rfl
    have e33 := Mono.dep_val hd hf (t := 33) (k := 14) (by kernel_rfl) rfl
    have hsl := HS3.out W
    clear hd hf
    (go_simp; try with_reducible rfl)
  refine Mono.rgl_call (fun x _ => x = .int .u64 ((s : Nat) : Int)) rfl Mono.rr (fun _ _ _ h _ => h) (fun ρ a W hR hd hf => ?h16) ?_
  case h16 =>
    have e34 := Mono.dep_val hd hf (t := 34) (k := 15) (by kernel_rfl) rfl
    clear hd hf
    refine ⟨_, _, by go_simp; first | rfl | exact ⟨rfl, rfl⟩, ?_⟩
    exact (NUM3.out W hR).mono (fun e W' ⟨he, hw⟩ => ⟨_, he, hw ▸ Mono.rr _, rfl⟩)
  refine Mono.rgl_val (v := ?v17) rfl Mono.rr (fun ρ a W hR hd hf => ?h17) ?_
  case h17 =>
    have e22 := Mono.dep_val hd hf (t := 22) (k := 3) (by kernel_rfl) rfl
    clear hd hf
    (go_simp; try with_reducible rfl)
  refine Mono.rgl_val (v := ?v18) rfl Mono.rr (fun ρ a W hR hd hf => ?h18) ?_
  case h18 =>
    have e27 := Mono.dep_val hd hf (t := 27) (k := 8) (by kernel_rfl) rfl
    clear hd hf
    (go_simp; try with_reducible rfl)
  refine Mono.rgl_val (v := ?v19) rfl Mono.rr (fun ρ a W hR hd hf => ?h19) ?_
  case h19 =>
    have e35 := Mono.dep_val hd hf (t := 35) (k := 16) (by kernel_rfl) rfl
    clear hd hf
    (go_simp; try with_reducible rfl)
  refine Mono.rgl_done rfl (fun ρ W hR ht => ?_)
  obtain ⟨d19, d18, d17, d16, d15, d14, d13, d12, d11, d10, d9, d8, d7, d6, d5, d4, d3, d2, d1, d0, _⟩ := ht
  simp only [List.length_cons, List.length_nil, Nat.reduceAdd] at d0 d1 d2 d3 d4 d5 d6 d7 d8 d9 d10 d11 d12 d13 d14 d15 d16 d17 d18 d19
  simp only [Mono.putAll, Nat.reduceAdd, d0, d1, d2, d3, d4, d5, d6, d7, d8, d9, d10, d11, d12, d13, d14, d15, d16, d17, d18, d19, Act.put, List.setIfInBounds_toArray, List.set_cons_zero, List.set_cons_succ]
  clear d0 d1 d2 d3 d4 d5 d6 d7 d8 d9 d10 d11 d12 d13 d14 d15 d16 d17 d18 d19
  have HBW := Lib.hid hR
  clear hR
  obtain ⟨w4, rfl⟩ : ∃ z, z = W := ⟨_, rfl⟩
  go_wp2_with fail
  refine Mono.region_below (by kernel_rfl) (by kernel_rfl) (by kernel_rfl) ?_
  refine Mono.rgl_val (v := ?vz0) rfl Mono.rr (fun ρ a W hR hd hf => ?hz0) ?_
  case hz0 =>
    have e10 := Mono.init_get hf (t := 10) (by kernel_rfl)
    clear hd hf
    (go_simp; try with_reducible rfl)
  refine Mono.rgl_val (v := .bool false) rfl Mono.rr (fun ρ a W hR hd hf => ?hz1) ?_
  case hz1 =>
    have e36 := Mono.dep_val hd hf (t := 36) (k := 0) (by kernel_rfl) rfl
    clear hd hf
    (go_simp)
  refine Mono.rgl_val (v := ?vz2) rfl Mono.rr (fun ρ a W hR hd hf => ?hz2) ?_
  case hz2 =>
    have e37 := Mono.dep_val hd hf (t := 37) (k := 1) (by kernel_rfl) rfl
    clear hd hf
    (go_simp; try with_reducible rfl)
  refine Mono.rgl_valg (v := ?vz3) rfl Mono.rr (fun ρ W hd => Mono.guard_val hd (t := 38) (k := 2) (by kernel_rfl) rfl) (fun ρ a W hR hd hf => ?hz3) ?_
  case hz3 =>
    have e11 := Mono.init_get hf (t := 11) (by kernel_rfl)
    clear hd hf
    (go_simp; try with_reducible rfl)
  refine Mono.rgl_valg (v := .bool false) rfl Mono.rr (fun ρ W hd => Mono.guard_val hd (t := 38) (k := 2) (by kernel_rfl) rfl) (fun ρ a W hR hd hf => ?hz4) ?_
  case hz4 =>
    have e39 := Mono.dep_val hd hf (t := 39) (k := 3) (by kernel_rfl) rfl
    clear hd hf
    (go_simp)
  refine Mono.rgl_val (v := ?vz5) rfl Mono.rr (fun ρ a W hR hd hf => ?hz5) ?_
  case hz5 =>
    have e38 := Mono.dep_val hd hf (t := 38) (k := 2) (by kernel_rfl) rfl
    have e40 := Mono.dep_val hd hf (t := 40) (k := 4) (by kernel_rfl) rfl
    clear hd hf
    (go_simp; try with_reducible rfl)
  refine Mono.rgl_val (v := ?vz6) rfl Mono.rr (fun ρ a W hR hd hf => ?hz6) ?_
  case hz6 =>
    have e41 := Mono.dep_val hd hf (t := 41) (k := 5) (by kernel_rfl) rfl
    clear hd hf
    (go_simp; try with_reducible rfl)
  refine Mono.rgl_valg (v := ?vz7) rfl Mono.rr (fun ρ W hd => Mono.guard_val hd (t := 42) (k := 6) (by kernel_rfl) rfl) (fun ρ a W hR hd hf => ?hz7) ?_
  case hz7 =>
    have e9 := Mono.init_get hf (t := 9) (by kernel_rfl)
    clear hd hf
    (go_simp; try with_reducible rfl)
  refine Mono.rgl_valg (v := ?vz8) rfl Mono.rr (fun ρ W hd => Mono.guard_val hd (t := 42) (k := 6) (by kernel_rfl) rfl) (fun ρ a W hR hd hf => ?hz8) ?_
  case hz8 =>
    have e10 := Mono.init_get hf (t := 10) (by kernel_rfl)
    clear hd hf
    (go_simp; try with_reducible rfl)
  refine Mono.rgl_valg (v := ?vz9) rfl Mono.rr (fun ρ W hd => Mono.guard_val hd (t := 42) (k := 6) (by kernel_rfl) rfl) (fun ρ a W hR hd hf => ?hz9) ?_
  case hz9 =>
    have e44 := Mono.dep_val hd hf (t := 44) (k := 8) (by kernel_rfl) rfl
    have hq := HQP.out
    clear hd hf
    (go_simp; try with_reducible rfl)
  refine Mono.rgl_valg (v := ?vz10) rfl Mono.rr (fun ρ W hd => Mono.guard_val hd (t := 42) (k := 6) (by kernel_rfl) rfl) (fun ρ a W hR hd hf => ?hz10) ?_
  case hz10 =>
    have e11 := Mono.init_get hf (t := 11) (by kernel_rfl)
    clear hd hf
    (go_simp; try with_reducible rfl)
  refine Mono.rgl_valg (v := ?vz11) rfl Mono.rr (fun ρ W hd => Mono.guard_val hd (t := 42) (k := 6) (by kernel_rfl) rfl) (fun ρ a W hR hd hf => ?hz11) ?_
  case hz11 =>
    have e46 := Mono.dep_val hd hf (t := 46) (k := 10) (by kernel_rfl) rfl
    have hq := HQS.out
    clear hd hf
    (go_simp; try with_reducible rfl)
  refine Mono.rgl_valg (v := ?vz12) rfl Mono.rr (fun ρ W hd => Mono.guard_val hd (t := 42) (k := 6) (by kernel_rfl) rfl) (fun ρ a W hR hd hf => ?hz12) ?_
  case hz12 =>
    have e1 := Mono.init_get hf (t := 1) (by kernel_rfl)
    clear hd hf
    (go_simp; try with_reducible rfl)
  refine Mono.rgl_callg (fun z W => Byt W W.heap.size z X) rfl Mono.rr hstB2 (fun ρ W hd => Mono.guard_val hd (t := 42) (k := 6) (by kernel_rfl) rfl) (fun ρ a W hR hd hf => ?hz13) ?_
  case hz13 =>
    have e43 := Mono.dep_val hd hf (t := 43) (k := 7) (by kernel_rfl) rfl
    have e45 := Mono.dep_val hd hf (t := 45) (k := 9) (by kernel_rfl) rfl
    have e47 := Mono.dep_val hd hf (t := 47) (k := 11) (by kernel_rfl) rfl
    have e48 := Mono.dep_val hd hf (t := 48) (k := 12) (by kernel_rfl) rfl
    clear hd hf
    refine ⟨_, _, by go_simp; first | rfl | exact ⟨rfl, rfl⟩, ?_⟩
    exact (HRE.out W).mono (fun e W' ⟨v', he, ho, hb⟩ => ⟨v', he, hb, ho.byt⟩)
  refine Mono.rgl_valg (v := ?vz14) rfl Mono.rr (fun ρ W hd => Mono.guard_val hd (t := 42) (k := 6) (by kernel_rfl) rfl) (fun ρ a W hR hd hf => ?hz14) ?_
  case hz14 =>
    obtain ⟨e49, d13⟩ := Mono.dep_get hd hf (t := 49) (k := 13) (by kernel_rfl)
    replace d13 : (fun z W => Byt W W.heap.size z X) (ρ 13) W := d13
    have hcv := convert_byt (src := 25) (dst := 9) (e := 5) rfl rfl rfl (d13)
    clear hd hf
    (go_simp; try with_reducible rfl)
  refine Mono.rgl_valg (v := ?vz15) rfl Mono.rr (fun ρ W hd => Mono.guard_val hd (t := 42) (k := 6) (by kernel_rfl) rfl) (fun ρ a W hR hd hf => ?hz15) ?_
  case hz15 =>
    have e0 := Mono.init_get hf (t := 0) (by kernel_rfl)
    clear hd hf
    (go_simp; try with_reducible rfl)
  refine Mono.rgl_valg (v := ?vz16) rfl Mono.rr (fun ρ W hd => Mono.guard_val hd (t := 42) (k := 6) (by kernel_rfl) rfl) (fun ρ a W hR hd hf => ?hz16) ?_
  case hz16 =>
    have e8 := Mono.init_get hf (t := 8) (by kernel_rfl)
    clear hd hf
    (go_simp; try with_reducible rfl)
  refine Mono.rgl_valg (v := .int .i64 8) rfl Mono.rr (fun ρ W hd => Mono.guard_val hd (t := 42) (k := 6) (by kernel_rfl) rfl) (fun ρ a W hR hd hf => ?hz17) ?_
  case hz17 =>
    have e52 := Mono.dep_val hd hf (t := 52) (k := 16) (by kernel_rfl) rfl
    clear hd hf
    (go_simp <;> rfl)
  refine Mono.rgl_valg (v := .int .i64 16) rfl Mono.rr (fun ρ W hd => Mono.guard_val hd (t := 42) (k := 6) (by kernel_rfl) rfl) (fun ρ a W hR hd hf => ?hz18) ?_
  case hz18 =>
    have e53 := Mono.dep_val hd hf (t := 53) (k := 17) (by kernel_rfl) rfl
    clear hd hf
    (go_simp <;> rfl)
  refine Mono.rgl_valg (v := ?vz19) rfl Mono.rr (fun ρ W hd => Mono.guard_val hd (t := 42) (k := 6) (by kernel_rfl) rfl) (fun ρ a W hR hd hf => ?hz19) ?_
  case hz19 =>
    have e51 := Mono.dep_val hd hf (t := 51) (k := 15) (by kernel_rfl) rfl
    have e54 := Mono.dep_val hd hf (t := 54) (k := 18) (by kernel_rfl) rfl
    have hsl := HS4.out W
    clear hd hf
    (go_simp; try with_reducible rfl)
  refine Mono.rgl_valg (v := ?vz20) rfl Mono.rr (fun ρ W hd => Mono.guard_val hd (t := 42) (k := 6) (by kernel_rfl) rfl) (fun ρ a W hR hd hf => ?hz20) ?_
  case hz20 =>
    have e55 := Mono.dep_val hd hf (t := 55) (k := 19) (by kernel_rfl) rfl
    have hcv := convert_byt (src := 25) (dst := 9) (e := 5) rfl rfl rfl (HB4.out.below (HBW.out.trans (hR.mono HBW.out.size)))
    clear hd hf
    (go_simp; try with_reducible rfl)
  refine Mono.rgl_valg (v := .bool false) rfl Mono.rr (fun ρ W hd => Mono.guard_val hd (t := 42) (k := 6) (by kernel_rfl) rfl) (fun ρ a W hR hd hf => ?hz21) ?_
  case hz21 =>
    have e50 := Mono.dep_val hd hf (t := 50) (k := 14) (by kernel_rfl) rfl
    have e56 := Mono.dep_val hd hf (t := 56) (k := 20) (by kernel_rfl) rfl
    clear hd hf
    (go_simp; rw [ByteArray.toList_eq, ByteArray.toList_eq]; exact congrArg (fun x => (str x).data.toList) HD.out)
  refine Mono.rgl_val (v := ?vz22) rfl Mono.rr (fun ρ a W hR hd hf => ?hz22) ?_
  case hz22 =>
    have e42 := Mono.dep_val hd hf (t := 42) (k := 6) (by kernel_rfl) rfl
    have e57 := Mono.dep_val hd hf (t := 57) (k := 21) (by kernel_rfl) rfl
    clear hd hf
    (go_simp; try with_reducible rfl)
  refine Mono.rgl_done rfl (fun ρ W hR ht => ?_)
  obtain ⟨dz22, dz21, dz20, dz19, dz18, dz17, dz16, dz15, dz14, dz13, dz12, dz11, dz10, dz9, dz8, dz7, dz6, dz5, dz4, dz3, dz2, dz1, dz0, _⟩ := ht
  replace dz13 : (fun z W => Byt W W.heap.size z X) (ρ 13) W := dz13
  simp only [List.length_cons, List.length_nil, Nat.reduceAdd] at dz0 dz1 dz2 dz3 dz4 dz5 dz6 dz7 dz8 dz9 dz10 dz11 dz12 dz14 dz15 dz16 dz17 dz18 dz19 dz20 dz21 dz22
  simp only [Mono.putAll, Nat.reduceAdd, dz0, dz1, dz2, dz3, dz4, dz5, dz6, dz7, dz8, dz9, dz10, dz11, dz12, dz14, dz15, dz16, dz17, dz18, dz19, dz20, dz21, dz22, Act.put, List.setIfInBounds_toArray, List.set_cons_zero, List.set_cons_succ]
  clear dz0 dz1 dz2 dz3 dz4 dz5 dz6 dz7 dz8 dz9 dz10 dz11 dz12 dz14 dz15 dz16 dz17 dz18 dz19 dz20 dz21 dz22
  generalize ρ 13 = rz13 at *
  have HBZ := Lib.hid (HBW.out.trans (hR.mono HBW.out.size))
  clear hR dz13
  have hqp := HQP.out
  have hqs := HQS.out
  go_wp2
  refine bodyPost_ret (v := .tuple #[.int .u32 (cr : Nat), .int .i64 (p : Nat), .int .i64 (s : Nat), .bool true]) (by simp [results, Try.results11, go_sem]) rfl ⟨rfl, HBZ.out⟩
set_option maxHeartbeats 1000000 in
theorem rparse_short_true (ad : Option Addr) (c : Nat) (l : List UInt8) (w : World) (h : Byt w w.heap.size (.slice ad l.length c) l) (hl : l.length ≤ 100000) (hc : l.length ≤ c) (hs : l.length < 24) : Calls Try.prog 11 #[.slice ad l.length c, .bool true] w fun e w' => e = .returned (.tuple #[.int .u32 0, .int .i64 0, .int .i64 0, .bool false]) ∧ Below w.heap.size w w' := by
  have t0 : decide ((l.length : Int) < 24) = true := by simp; omega
  clear h
  go_enter Try.func11, Try.ntmps11
  go_wp2
  refine bodyPost_ret (v := .tuple #[.int .u32 0, .int .i64 0, .int .i64 0, .bool false]) (by simp [results, Try.results11, go_sem]) rfl ⟨rfl, Below.refl _ _⟩
set_option maxHeartbeats 2000000 in
theorem rparse_p_true (ad : Option Addr) (c : Nat) (l : List UInt8) (w : World) (h : Byt w w.heap.size (.slice ad l.length c) l) (hl : l.length ≤ 100000) (hc : l.length ≤ c) (hs : 24 ≤ l.length) (hp : 33554432 < rd l 8 8) : Calls Try.prog 11 #[.slice ad l.length c, .bool true] w fun e w' => e = .returned (.tuple #[.int .u32 0, .int .i64 0, .int .i64 0, .bool false]) ∧ Below w.heap.size w w' := by
  have t0 : decide ((l.length : Int) < 24) = false := by simp; omega
  obtain ⟨S1, hs1, hb1⟩ := piece2 ad l.length c l h rfl hc 4 8 (by decide) (by omega)
  have HS1 : Hid (∀ W : World, (Instr.slice 25 (.slice ad l.length c) (some (.int .i64 4)) (some (.int .i64 8)) none).run Try.prog W = .ok S1 W) := Lib.hid hs1
  have NUM1 := Lib.hid (fun (W : World) (hR : Below w.heap.size w W) => refNumber_B (hb1.below hR) (by rw [List.length_take]; omega))
  rw [show num ((l.drop 4).take (8 - 4)) = rd l 4 4 from rfl] at NUM1
  clear hs1 hb1
  obtain ⟨S2, hs2, hb2⟩ := piece2 ad l.length c l h rfl hc 8 16 (by decide) (by omega)
  have HS2 : Hid (∀ W : World, (Instr.slice 25 (.slice ad l.length c) (some (.int .i64 8)) (some (.int .i64 16)) none).run Try.prog W = .ok S2 W) := Lib.hid hs2
  have NUM2 := Lib.hid (fun (W : World) (hR : Below w.heap.size w W) => refNumber_B (hb2.below hR) (by rw [List.length_take]; omega))
  rw [show num ((l.drop 8).take (16 - 8)) = rd l 8 8 from rfl] at NUM2
  clear hs2 hb2
  obtain ⟨S3, hs3, hb3⟩ := piece2 ad l.length c l h rfl hc 16 24 (by decide) (by omega)
  have HS3 : Hid (∀ W : World, (Instr.slice 25 (.slice ad l.length c) (some (.int .i64 16)) (some (.int .i64 24)) none).run Try.prog W = .ok S3 W) := Lib.hid hs3
  have NUM3 := Lib.hid (fun (W : World) (hR : Below w.heap.size w W) => refNumber_B (hb3.below hR) (by rw [List.length_take]; omega))
  rw [show num ((l.drop 16).take (24 - 16)) = rd l 16 8 from rfl] at NUM3
  clear hs3 hb3
  have hsl4 := fun W => slice_h (t := 25) (e := 5) (size := 1) rfl size_u8 ad l.length c (24 : Int) (by decide) (by omega) W
  have hsb4 := sub_byt h 0 24 (by omega)
  rw [List.drop_zero] at hsb4
  simp only [Nat.sub_zero] at hsl4 hsb4
  have HS4 : Hid (∀ W : World, (Instr.slice 25 (.slice ad l.length c) none (some (.int .i64 24)) none).run Try.prog W = .ok (.slice (if c = 0 then ad else ad.map (·.add (0 * 1))) 24 c) W) := Lib.hid hsl4
  have HB4 := Lib.hid hsb4
  clear hsl4 hsb4
  generalize Value.slice (if c = 0 then ad else ad.map (·.add (0 * 1))) 24 c = S4 at *
  have bx : rd l 4 4 < 4294967296 := rd_lt l 4 4
  have q_x : IntKind.u32.wrap ((rd l 4 4 : Nat) : Int) = (rd l 4 4 : Nat) := by rw [IntKind.wrap_u32]; omega
  have HQX := Lib.hid q_x
  clear q_x bx h
  generalize rd l 4 4 = cr at *
  generalize rd l 8 8 = p at *
  generalize rd l 16 8 = s at *
  have d1 : decide (33554432 < (p : Int)) = true := by simp; omega
  go_enter Try.func11, Try.ntmps11
  go_wp2_with fail
  refine Mono.region_below (by kernel_rfl) (by kernel_rfl) (by kernel_rfl) ?_
  refine Mono.rgl_val (v := ?v0) rfl Mono.rr (fun ρ a W hR hd hf => ?h0) ?_
  case h0 =>
    have e0 := Mono.init_get hf (t := 0) (by kernel_rfl)
    clear hd hf
    (go_simp; try with_reducible rfl)
  refine Mono.rgl_val (v := ?v1) rfl Mono.rr (fun ρ a W hR hd hf => ?h1) ?_
  case h1 =>
    have e19 := Mono.dep_val hd hf (t := 19) (k := 0) (by kernel_rfl) rfl
    have hsl := HS1.out W
    clear hd hf
    (go_simp; try with_reducible rfl)
  refine Mono.rgl_call (fun x _ => x = .int .u64 ((cr : Nat) : Int)) rfl Mono.rr (fun _ _ _ h _ => h) (fun ρ a W hR hd hf => ?h2) ?_
  case h2 =>
    have e20 := Mono.dep_val hd hf (t := 20) (k := 1) (by kernel_rfl) rfl
    clear hd hf
    refine ⟨_, _, by go_simp; first | rfl | exact ⟨rfl, rfl⟩, ?_⟩
    exact (NUM1.out W hR).mono (fun e W' ⟨he, hw⟩ => ⟨_, he, hw ▸ Mono.rr _, rfl⟩)
  refine Mono.rgl_val (v := ?v3) rfl Mono.rr (fun ρ a W hR hd hf => ?h3) ?_
  case h3 =>
    have e21 := Mono.dep_val hd hf (t := 21) (k := 2) (by kernel_rfl) rfl
    have hq := HQX.out
    clear hd hf
    (go_simp; try with_reducible rfl)
  refine Mono.rgl_val (v := ?v4) rfl Mono.rr (fun ρ a W hR hd hf => ?h4) ?_
  case h4 =>
    have e0 := Mono.init_get hf (t := 0) (by kernel_rfl)
    clear hd hf
    (go_simp; try with_reducible rfl)
  refine Mono.rgl_val (v := ?v5) rfl Mono.rr (fun ρ a W hR hd hf => ?h5) ?_
  case h5 =>
    have e8 := Mono.init_get hf (t := 8) (by kernel_rfl)
    clear hd hf
    (go_simp; try with_reducible rfl)
  refine Mono.rgl_val (v := .int .i64 16) rfl Mono.rr (fun ρ a W hR hd hf => ?h6) ?_
  case h6 =>
    have e24 := Mono.dep_val hd hf (t := 24) (k := 5) (by kernel_rfl) rfl
    clear hd hf
    (go_simp <;> rfl)
  refine Mono.rgl_val (v := ?v7) rfl Mono.rr (fun ρ a W hR hd hf => ?h7) ?_
  case h7 =>
    have e23 := Mono.dep_val hd hf (t := 23) (k := 4) (by kernel_rfl) rfl
    have e25 := Mono.dep_val hd hf (t := 25) (k := 6) (by kernel_rfl) rfl
    have hsl := HS2.out W
    clear hd hf
    (go_simp; try with_reducible rfl)
  refine Mono.rgl_call (fun x _ => x = .int .u64 ((p : Nat) : Int)) rfl Mono.rr (fun _ _ _ h _ => h) (fun ρ a W hR hd hf => ?h8) ?_
  case h8 =>
    have e26 := Mono.dep_val hd hf (t := 26) (k := 7) (by kernel_rfl) rfl
    clear hd hf
    refine ⟨_, _, by go_simp; first | rfl | exact ⟨rfl, rfl⟩, ?_⟩
    exact (NUM2.out W hR).mono (fun e W' ⟨he, hw⟩ => ⟨_, he, hw ▸ Mono.rr _, rfl⟩)
  refine Mono.rgl_val (v := ?v9) rfl Mono.rr (fun ρ a W hR hd hf => ?h9) ?_
  case h9 =>
    have e0 := Mono.init_get hf (t := 0) (by kernel_rfl)
    clear hd hf
    (go_simp; try with_reducible rfl)
  refine Mono.rgl_val (v := ?v10) rfl Mono.rr (fun ρ a W hR hd hf => ?h10) ?_
  case h10 =>
    have e8 := Mono.init_get hf (t := 8) (by kernel_rfl)
    clear hd hf
    (go_simp; try with_reducible rfl)
  refine Mono.rgl_val (v := .int .i64 16) rfl Mono.rr (fun ρ a W hR hd hf => ?h11) ?_
  case h11 =>
    have e29 := Mono.dep_val hd hf (t := 29) (k := 10) (by kernel_rfl) rfl
    clear hd hf
    (go_simp <;> rfl)
  refine Mono.rgl_val (v := ?v12) rfl Mono.rr (fun ρ a W hR hd hf => ?h12) ?_
  case h12 =>
    have e8 := Mono.init_get hf (t := 8) (by kernel_rfl)
    clear hd hf
    (go_simp; try with_reducible rfl)
  refine Mono.rgl_val (v := .int .i64 16) rfl Mono.rr (fun ρ a W hR hd hf => ?h13) ?_
  case h13 =>
    have e31 := Mono.dep_val hd hf (t := 31) (k := 12) (by kernel_rfl) rfl
    clear hd hf
    (go_simp <;> rfl)
  refine Mono.rgl_val (v := .int .i64 24) rfl Mono.rr (fun ρ a W hR hd hf => ?h14) ?_
  case h14 =>
    have e32 := Mono.dep_val hd hf (t := 32) (k := 13) (by kernel_rfl) rfl
    clear hd hf
    (go_simp <;> rfl)
  refine Mono.rgl_val (v := ?v15) rfl Mono.rr (fun ρ a W hR hd hf => ?h15) ?_
  case h15 =>
    have e28 := Mono.dep_val hd hf (t := 28) (k := 9) (by kernel_rfl) rfl
    have e30 := Mono.dep_val hd hf (t := 30) (k := 11) (by kernel_rfl) rfl
    have e33 := Mono.dep_val hd hf (t := 33) (k := 14) (by kernel_rfl) rfl
    have hsl := HS3.out W
    clear hd hf
    (go_simp; try with_reducible rfl)
  refine Mono.rgl_call (fun x _ => x = .int .u64 ((s : Nat) : Int)) rfl Mono.rr (fun _ _ _ h _ => h) (fun ρ a W hR hd hf => ?h16) ?_
  case h16 =>
    have e34 := Mono.dep_val hd hf (t := 34) (k := 15) (by kernel_rfl) rfl
    clear hd hf
    refine ⟨_, _, by go_simp; first | rfl | exact ⟨rfl, rfl⟩, ?_⟩
    exact (NUM3.out W hR).mono (fun e W' ⟨he, hw⟩ => ⟨_, he, hw ▸ Mono.rr _, rfl⟩)
  refine Mono.rgl_val (v := ?v17) rfl Mono.rr (fun ρ a W hR hd hf => ?h17) ?_
  case h17 =>
    have e22 := Mono.dep_val hd hf (t := 22) (k := 3) (by kernel_rfl) rfl
    clear hd hf
    (go_simp; try with_reducible rfl)
  refine Mono.rgl_val (v := ?v18) rfl Mono.rr (fun ρ a W hR hd hf => ?h18) ?_
  case h18 =>
    have e27 := Mono.dep_val hd hf (t := 27) (k := 8) (by kernel_rfl) rfl
    clear hd hf
    (go_simp; try with_reducible rfl)
  refine Mono.rgl_val (v := ?v19) rfl Mono.rr (fun ρ a W hR hd hf => ?h19) ?_
  case h19 =>
    have e35 := Mono.dep_val hd hf (t := 35) (k := 16) (by kernel_rfl) rfl
    clear hd hf
    (go_simp; try with_reducible rfl)
  refine Mono.rgl_done rfl (fun ρ W hR ht => ?_)
  obtain ⟨d19, d18, d17, d16, d15, d14, d13, d12, d11, d10, d9, d8, d7, d6, d5, d4, d3, d2, d1, d0, _⟩ := ht
  simp only [List.length_cons, List.length_nil, Nat.reduceAdd] at d0 d1 d2 d3 d4 d5 d6 d7 d8 d9 d10 d11 d12 d13 d14 d15 d16 d17 d18 d19
  simp only [Mono.putAll, Nat.reduceAdd, d0, d1, d2, d3, d4, d5, d6, d7, d8, d9, d10, d11, d12, d13, d14, d15, d16, d17, d18, d19, Act.put, List.setIfInBounds_toArray, List.set_cons_zero, List.set_cons_succ]
  clear d0 d1 d2 d3 d4 d5 d6 d7 d8 d9 d10 d11 d12 d13 d14 d15 d16 d17 d18 d19
  have HBW := Lib.hid hR
  clear hR
  obtain ⟨w4, rfl⟩ : ∃ z, z = W := ⟨_, rfl⟩
  go_wp2_with fail
  refine Mono.region_below (by kernel_rfl) (by kernel_rfl) (by kernel_rfl) ?_
  refine Mono.rgl_val (v := ?vz0) rfl Mono.rr (fun ρ a W hR hd hf => ?hz0) ?_
  case hz0 =>
    have e10 := Mono.init_get hf (t := 10) (by kernel_rfl)
    clear hd hf
    (go_simp; try with_reducible rfl)
  refine Mono.rgl_val (v := .bool true) rfl Mono.rr (fun ρ a W hR hd hf => ?hz1) ?_
  case hz1 =>
    have e36 := Mono.dep_val hd hf (t := 36) (k := 0) (by kernel_rfl) rfl
    clear hd hf
    (go_simp)
  refine Mono.rgl_val (v := ?vz2) rfl Mono.rr (fun ρ a W hR hd hf => ?hz2) ?_
  case hz2 =>
    have e37 := Mono.dep_val hd hf (t := 37) (k := 1) (by kernel_rfl) rfl
    clear hd hf
    (go_simp; try with_reducible rfl)
  refine Mono.rgl_skip rfl (by decide) (fun ρ W hd => Mono.guard_val hd (t := 38) (k := 2) (by kernel_rfl) rfl) ?_
  refine Mono.rgl_skip rfl (by decide) (fun ρ W hd => Mono.guard_val hd (t := 38) (k := 2) (by kernel_rfl) rfl) ?_
  refine Mono.rgl_val (v := ?vz5) rfl Mono.rr (fun ρ a W hR hd hf => ?hz5) ?_
  case hz5 =>
    have e38 := Mono.dep_val hd hf (t := 38) (k := 2) (by kernel_rfl) rfl
    have e40 := Mono.dep_val hd hf (t := 40) (k := 4) (by kernel_rfl) rfl
    clear hd hf
    (go_simp; try with_reducible rfl)
  refine Mono.rgl_val (v := ?vz6) rfl Mono.rr (fun ρ a W hR hd hf => ?hz6) ?_
  case hz6 =>
    have e41 := Mono.dep_val hd hf (t := 41) (k := 5) (by kernel_rfl) rfl
    clear hd hf
    (go_simp; try with_reducible rfl)
  refine Mono.rgl_skip rfl (by decide) (fun ρ W hd => Mono.guard_val hd (t := 42) (k := 6) (by kernel_rfl) rfl) ?_
  refine Mono.rgl_skip rfl (by decide) (fun ρ W hd => Mono.guard_val hd (t := 42) (k := 6) (by kernel_rfl) rfl) ?_
  refine Mono.rgl_skip rfl (by decide) (fun ρ W hd => Mono.guard_val hd (t := 42) (k := 6) (by kernel_rfl) rfl) ?_
  refine Mono.rgl_skip rfl (by decide) (fun ρ W hd => Mono.guard_val hd (t := 42) (k := 6) (by kernel_rfl) rfl) ?_
  refine Mono.rgl_skip rfl (by decide) (fun ρ W hd => Mono.guard_val hd (t := 42) (k := 6) (by kernel_rfl) rfl) ?_
  refine Mono.rgl_skip rfl (by decide) (fun ρ W hd => Mono.guard_val hd (t := 42) (k := 6) (by kernel_rfl) rfl) ?_
  refine Mono.rgl_skip rfl (by decide) (fun ρ W hd => Mono.guard_val hd (t := 42) (k := 6) (by kernel_rfl) rfl) ?_
  refine Mono.rgl_skip rfl (by decide) (fun ρ W hd => Mono.guard_val hd (t := 42) (k := 6) (by kernel_rfl) rfl) ?_
  refine Mono.rgl_skip rfl (by decide) (fun ρ W hd => Mono.guard_val hd (t := 42) (k := 6) (by kernel_rfl) rfl) ?_
  refine Mono.rgl_skip rfl (by decide) (fun ρ W hd => Mono.guard_val hd (t := 42) (k := 6) (by kernel_rfl) rfl) ?_
  refine Mono.rgl_skip rfl (by decide) (fun ρ W hd => Mono.guard_val hd (t := 42) (k := 6) (by kernel_rfl) rfl) ?_
  refine Mono.rgl_skip rfl (by decide) (fun ρ W hd => Mono.guard_val hd (t := 42) (k := 6) (by kernel_rfl) rfl) ?_
  refine Mono.rgl_skip rfl (by decide) (fun ρ W hd => Mono.guard_val hd (t := 42) (k := 6) (by kernel_rfl) rfl) ?_
  refine Mono.rgl_skip rfl (by decide) (fun ρ W hd => Mono.guard_val hd (t := 42) (k := 6) (by kernel_rfl) rfl) ?_
  refine Mono.rgl_skip rfl (by decide) (fun ρ W hd => Mono.guard_val hd (t := 42) (k := 6) (by kernel_rfl) rfl) ?_
  refine Mono.rgl_val (v := ?vz22) rfl Mono.rr (fun ρ a W hR hd hf => ?hz22) ?_
  case hz22 =>
    have e42 := Mono.dep_val hd hf (t := 42) (k := 6) (by kernel_rfl) rfl
    have e57 := Mono.dep_val hd hf (t := 57) (k := 21) (by kernel_rfl) rfl
    clear hd hf
    (go_simp; try with_reducible rfl)
  refine Mono.rgl_done rfl (fun ρ W hR ht => ?_)
  obtain ⟨dz22, dz21, dz20, dz19, dz18, dz17, dz16, dz15, dz14, dz13, dz12, dz11, dz10, dz9, dz8, dz7, dz6, dz5, dz4, dz3, dz2, dz1, dz0, _⟩ := ht
  simp only [List.length_cons, List.length_nil, Nat.reduceAdd] at dz0 dz1 dz2 dz3 dz4 dz5 dz6 dz7 dz8 dz9 dz10 dz11 dz12 dz13 dz14 dz15 dz16 dz17 dz18 dz19 dz20 dz21 dz22
  simp only [Mono.putAll, Nat.reduceAdd, dz0, dz1, dz2, dz3, dz4, dz5, dz6, dz7, dz8, dz9, dz10, dz11, dz12, dz13, dz14, dz15, dz16, dz17, dz18, dz19, dz20, dz21, dz22, Act.put, List.setIfInBounds_toArray, List.set_cons_zero, List.set_cons_succ]
  clear dz0 dz1 dz2 dz3 dz4 dz5 dz6 dz7 dz8 dz9 dz10 dz11 dz12 dz13 dz14 dz15 dz16 dz17 dz18 dz19 dz20 dz21 dz22
  have HBZ := Lib.hid (HBW.out.trans (hR.mono HBW.out.size))
  clear hR 
  go_wp2
  refine bodyPost_ret (v := .tuple #[.int .u32 0, .int .i64 0, .int .i64 0, .bool false]) (by simp [results, Try.results11, go_sem]) rfl ⟨rfl, HBZ.out⟩
set_option maxHeartbeats 2000000 in
theorem rparse_s_true (ad : Option Addr) (c : Nat) (l : List UInt8) (w : World) (h : Byt w w.heap.size (.slice ad l.length c) l) (hl : l.length ≤ 100000) (hc : l.length ≤ c) (hs : 24 ≤ l.length) (hp : rd l 8 8 ≤ 33554432) (hs2 : 16777216 < rd l 16 8) : Calls Try.prog 11 #[.slice ad l.length c, .bool true] w fun e w' => e = .returned (.tuple #[.int .u32 0, .int .i64 0, .int .i64 0, .bool false]) ∧ Below w.heap.size w w' := by
  have t0 : decide ((l.length : Int) < 24) = false := by simp; omega
  obtain ⟨S1, hs1, hb1⟩ := piece2 ad l.length c l h rfl hc 4 8 (by decide) (by omega)
  have HS1 : Hid (∀ W : World, (Instr.slice 25 (.slice ad l.length c) (some (.int .i64 4)) (some (.int .i64 8)) none).run Try.prog W = .ok S1 W) := Lib.hid hs1
  have NUM1 := Lib.hid (fun (W : World) (hR : Below w.heap.size w W) => refNumber_B (hb1.below hR) (by rw [List.length_take]; omega))
  rw [show num ((l.drop 4).take (8 - 4)) = rd l 4 4 from rfl] at NUM1
  clear hs1 hb1
  obtain ⟨S2, hs2, hb2⟩ := piece2 ad l.length c l h rfl hc 8 16 (by decide) (by omega)
  have HS2 : Hid (∀ W : World, (Instr.slice 25 (.slice ad l.length c) (some (.int .i64 8)) (some (.int .i64 16)) none).run Try.prog W = .ok S2 W) := Lib.hid hs2
  have NUM2 := Lib.hid (fun (W : World) (hR : Below w.heap.size w W) => refNumber_B (hb2.below hR) (by rw [List.length_take]; omega))
  rw [show num ((l.drop 8).take (16 - 8)) = rd l 8 8 from rfl] at NUM2
  clear hs2 hb2
  obtain ⟨S3, hs3, hb3⟩ := piece2 ad l.length c l h rfl hc 16 24 (by decide) (by omega)
  have HS3 : Hid (∀ W : World, (Instr.slice 25 (.slice ad l.length c) (some (.int .i64 16)) (some (.int .i64 24)) none).run Try.prog W = .ok S3 W) := Lib.hid hs3
  have NUM3 := Lib.hid (fun (W : World) (hR : Below w.heap.size w W) => refNumber_B (hb3.below hR) (by rw [List.length_take]; omega))
  rw [show num ((l.drop 16).take (24 - 16)) = rd l 16 8 from rfl] at NUM3
  clear hs3 hb3
  have hsl4 := fun W => slice_h (t := 25) (e := 5) (size := 1) rfl size_u8 ad l.length c (24 : Int) (by decide) (by omega) W
  have hsb4 := sub_byt h 0 24 (by omega)
  rw [List.drop_zero] at hsb4
  simp only [Nat.sub_zero] at hsl4 hsb4
  have HS4 : Hid (∀ W : World, (Instr.slice 25 (.slice ad l.length c) none (some (.int .i64 24)) none).run Try.prog W = .ok (.slice (if c = 0 then ad else ad.map (·.add (0 * 1))) 24 c) W) := Lib.hid hsl4
  have HB4 := Lib.hid hsb4
  clear hsl4 hsb4
  generalize Value.slice (if c = 0 then ad else ad.map (·.add (0 * 1))) 24 c = S4 at *
  have bx : rd l 4 4 < 4294967296 := rd_lt l 4 4
  have q_x : IntKind.u32.wrap ((rd l 4 4 : Nat) : Int) = (rd l 4 4 : Nat) := by rw [IntKind.wrap_u32]; omega
  have HQX := Lib.hid q_x
  clear q_x bx h
  generalize rd l 4 4 = cr at *
  generalize rd l 8 8 = p at *
  generalize rd l 16 8 = s at *
  have d1 : decide (33554432 < (p : Int)) = false := by simp; omega
  have d2 : decide (16777216 < (s : Int)) = true := by simp; omega
  go_enter Try.func11, Try.ntmps11
  go_wp2_with fail
  refine Mono.region_below (by kernel_rfl) (by kernel_rfl) (by kernel_rfl) ?_
  refine Mono.rgl_val (v := ?v0) rfl Mono.rr (fun ρ a W hR hd hf => ?h0) ?_
  case h0 =>
    have e0 := Mono.init_get hf (t := 0) (by kernel_rfl)
    clear hd hf
    (go_simp; try with_reducible rfl)
  refine Mono.rgl_val (v := ?v1) rfl Mono.rr (fun ρ a W hR hd hf => ?h1) ?_
  case h1 =>
    have e19 := Mono.dep_val hd hf (t := 19) (k := 0) (by kernel_rfl) rfl
    have hsl := HS1.out W
    clear hd hf
    (go_simp; try with_reducible rfl)
  refine Mono.rgl_call (fun x _ => x = .int .u64 ((cr : Nat) : Int)) rfl Mono.rr (fun _ _ _ h _ => h) (fun ρ a W hR hd hf => ?h2) ?_
  case h2 =>
    have e20 := Mono.dep_val hd hf (t := 20) (k := 1) (by kernel_rfl) rfl
    clear hd hf
    refine ⟨_, _, by go_simp; first | rfl | exact ⟨rfl, rfl⟩, ?_⟩
    exact (NUM1.out W hR).mono (fun e W' ⟨he, hw⟩ => ⟨_, he, hw ▸ Mono.rr _, rfl⟩)
  refine Mono.rgl_val (v := ?v3) rfl Mono.rr (fun ρ a W hR hd hf => ?h3) ?_
  case h3 =>
    have e21 := Mono.dep_val hd hf (t := 21) (k := 2) (by kernel_rfl) rfl
    have hq := HQX.out
    clear hd hf
    (go_simp; try with_reducible rfl)
  refine Mono.rgl_val (v := ?v4) rfl Mono.rr (fun ρ a W hR hd hf => ?h4) ?_
  case h4 =>
    have e0 := Mono.init_get hf (t := 0) (by kernel_rfl)
    clear hd hf
    (go_simp; try with_reducible rfl)
  refine Mono.rgl_val (v := ?v5) rfl Mono.rr (fun ρ a W hR hd hf => ?h5) ?_
  case h5 =>
    have e8 := Mono.init_get hf (t := 8) (by kernel_rfl)
    clear hd hf
    (go_simp; try with_reducible rfl)
  refine Mono.rgl_val (v := .int .i64 16) rfl Mono.rr (fun ρ a W hR hd hf => ?h6) ?_
  case h6 =>
    have e24 := Mono.dep_val hd hf (t := 24) (k := 5) (by kernel_rfl) rfl
    clear hd hf
    (go_simp <;> rfl)
  refine Mono.rgl_val (v := ?v7) rfl Mono.rr (fun ρ a W hR hd hf => ?h7) ?_
  case h7 =>
    have e23 := Mono.dep_val hd hf (t := 23) (k := 4) (by kernel_rfl) rfl
    have e25 := Mono.dep_val hd hf (t := 25) (k := 6) (by kernel_rfl) rfl
    have hsl := HS2.out W
    clear hd hf
    (go_simp; try with_reducible rfl)
  refine Mono.rgl_call (fun x _ => x = .int .u64 ((p : Nat) : Int)) rfl Mono.rr (fun _ _ _ h _ => h) (fun ρ a W hR hd hf => ?h8) ?_
  case h8 =>
    have e26 := Mono.dep_val hd hf (t := 26) (k := 7) (by kernel_rfl) rfl
    clear hd hf
    refine ⟨_, _, by go_simp; first | rfl | exact ⟨rfl, rfl⟩, ?_⟩
    exact (NUM2.out W hR).mono (fun e W' ⟨he, hw⟩ => ⟨_, he, hw ▸ Mono.rr _, rfl⟩)
  refine Mono.rgl_val (v := ?v9) rfl Mono.rr (fun ρ a W hR hd hf => ?h9) ?_
  case h9 =>
    have e0 := Mono.init_get hf (t := 0) (by kernel_rfl)
    clear hd hf
    (go_simp; try with_reducible rfl)
  refine Mono.rgl_val (v := ?v10) rfl Mono.rr (fun ρ a W hR hd hf => ?h10) ?_
  case h10 =>
    have e8 := Mono.init_get hf (t := 8) (by kernel_rfl)
    clear hd hf
    (go_simp; try with_reducible rfl)
  refine Mono.rgl_val (v := .int .i64 16) rfl Mono.rr (fun ρ a W hR hd hf => ?h11) ?_
  case h11 =>
    have e29 := Mono.dep_val hd hf (t := 29) (k := 10) (by kernel_rfl) rfl
    clear hd hf
    (go_simp <;> rfl)
  refine Mono.rgl_val (v := ?v12) rfl Mono.rr (fun ρ a W hR hd hf => ?h12) ?_
  case h12 =>
    have e8 := Mono.init_get hf (t := 8) (by kernel_rfl)
    clear hd hf
    (go_simp; try with_reducible rfl)
  refine Mono.rgl_val (v := .int .i64 16) rfl Mono.rr (fun ρ a W hR hd hf => ?h13) ?_
  case h13 =>
    have e31 := Mono.dep_val hd hf (t := 31) (k := 12) (by kernel_rfl) rfl
    clear hd hf
    (go_simp <;> rfl)
  refine Mono.rgl_val (v := .int .i64 24) rfl Mono.rr (fun ρ a W hR hd hf => ?h14) ?_
  case h14 =>
    have e32 := Mono.dep_val hd hf (t := 32) (k := 13) (by kernel_rfl) rfl
    clear hd hf
    (go_simp <;> rfl)
  refine Mono.rgl_val (v := ?v15) rfl Mono.rr (fun ρ a W hR hd hf => ?h15) ?_
  case h15 =>
    have e28 := Mono.dep_val hd hf (t := 28) (k := 9) (by kernel_rfl) rfl
    have e30 := Mono.dep_val hd hf (t := 30) (k := 11) (by kernel_rfl) rfl
    have e33 := Mono.dep_val hd hf (t := 33) (k := 14) (by kernel_rfl) rfl
    have hsl := HS3.out W
    clear hd hf
    (go_simp; try with_reducible rfl)
  refine Mono.rgl_call (fun x _ => x = .int .u64 ((s : Nat) : Int)) rfl Mono.rr (fun _ _ _ h _ => h) (fun ρ a W hR hd hf => ?h16) ?_
  case h16 =>
    have e34 := Mono.dep_val hd hf (t := 34) (k := 15) (by kernel_rfl) rfl
    clear hd hf
    refine ⟨_, _, by go_simp; first | rfl | exact ⟨rfl, rfl⟩, ?_⟩
    exact (NUM3.out W hR).mono (fun e W' ⟨he, hw⟩ => ⟨_, he, hw ▸ Mono.rr _, rfl⟩)
  refine Mono.rgl_val (v := ?v17) rfl Mono.rr (fun ρ a W hR hd hf => ?h17) ?_
  case h17 =>
    have e22 := Mono.dep_val hd hf (t := 22) (k := 3) (by kernel_rfl) rfl
    clear hd hf
    (go_simp; try with_reducible rfl)
  refine Mono.rgl_val (v := ?v18) rfl Mono.rr (fun ρ a W hR hd hf => ?h18) ?_
  case h18 =>
    have e27 := Mono.dep_val hd hf (t := 27) (k := 8) (by kernel_rfl) rfl
    clear hd hf
    (go_simp; try with_reducible rfl)
  refine Mono.rgl_val (v := ?v19) rfl Mono.rr (fun ρ a W hR hd hf => ?h19) ?_
  case h19 =>
    have e35 := Mono.dep_val hd hf (t := 35) (k := 16) (by kernel_rfl) rfl
    clear hd hf
    (go_simp; try with_reducible rfl)
  refine Mono.rgl_done rfl (fun ρ W hR ht => ?_)
  obtain ⟨d19, d18, d17, d16, d15, d14, d13, d12, d11, d10, d9, d8, d7, d6, d5, d4, d3, d2, d1, d0, _⟩ := ht
  simp only [List.length_cons, List.length_nil, Nat.reduceAdd] at d0 d1 d2 d3 d4 d5 d6 d7 d8 d9 d10 d11 d12 d13 d14 d15 d16 d17 d18 d19
  simp only [Mono.putAll, Nat.reduceAdd, d0, d1, d2, d3, d4, d5, d6, d7, d8, d9, d10, d11, d12, d13, d14, d15, d16, d17, d18, d19, Act.put, List.setIfInBounds_toArray, List.set_cons_zero, List.set_cons_succ]
  clear d0 d1 d2 d3 d4 d5 d6 d7 d8 d9 d10 d11 d12 d13 d14 d15 d16 d17 d18 d19
  have HBW := Lib.hid hR
  clear hR
  obtain ⟨w4, rfl⟩ : ∃ z, z = W := ⟨_, rfl⟩
  go_wp2_with fail
  refine Mono.region_below (by kernel_rfl) (by kernel_rfl) (by kernel_rfl) ?_
  refine Mono.rgl_val (v := ?vz0) rfl Mono.rr (fun ρ a W hR hd hf => ?hz0) ?_
  case hz0 =>
    have e10 := Mono.init_get hf (t := 10) (by kernel_rfl)
    clear hd hf
    (go_simp; try with_reducible rfl)
  refine Mono.rgl_val (v := .bool false) rfl Mono.rr (fun ρ a W hR hd hf => ?hz1) ?_
  case hz1 =>
    have e36 := Mono.dep_val hd hf (t := 36) (k := 0) (by kernel_rfl) rfl
    clear hd hf
    (go_simp)
  refine Mono.rgl_val (v := ?vz2) rfl Mono.rr (fun ρ a W hR hd hf => ?hz2) ?_
  case hz2 =>
    have e37 := Mono.dep_val hd hf (t := 37) (k := 1) (by kernel_rfl) rfl
    clear hd hf
    (go_simp; try with_reducible rfl)
  refine Mono.rgl_valg (v := ?vz3) rfl Mono.rr (fun ρ W hd => Mono.guard_val hd (t := 38) (k := 2) (by kernel_rfl) rfl) (fun ρ a W hR hd hf => ?hz3) ?_
  case hz3 =>
    have e11 := Mono.init_get hf (t := 11) (by kernel_rfl)
    clear hd hf
    (go_simp; try with_reducible rfl)
  refine Mono.rgl_valg (v := .bool true) rfl Mono.rr (fun ρ W hd => Mono.guard_val hd (t := 38) (k := 2) (by kernel_rfl) rfl) (fun ρ a W hR hd hf => ?hz4) ?_
  case hz4 =>
    have e39 := Mono.dep_val hd hf (t := 39) (k := 3) (by kernel_rfl) rfl
    clear hd hf
    (go_simp)
  refine Mono.rgl_val (v := ?vz5) rfl Mono.rr (fun ρ a W hR hd hf => ?hz5) ?_
  case hz5 =>
    have e38 := Mono.dep_val hd hf (t := 38) (k := 2) (by kernel_rfl) rfl
    have e40 := Mono.dep_val hd hf (t := 40) (k := 4) (by kernel_rfl) rfl
    clear hd hf
    (go_simp; try with_reducible rfl)
  refine Mono.rgl_val (v := ?vz6) rfl Mono.rr (fun ρ a W hR hd hf => ?hz6) ?_
  case hz6 =>
    have e41 := Mono.dep_val hd hf (t := 41) (k := 5) (by kernel_rfl) rfl
    clear hd hf
    (go_simp; try with_reducible rfl)
  refine Mono.rgl_skip rfl (by decide) (fun ρ W hd => Mono.guard_val hd (t := 42) (k := 6) (by kernel_rfl) rfl) ?_
  refine Mono.rgl_skip rfl (by decide) (fun ρ W hd => Mono.guard_val hd (t := 42) (k := 6) (by kernel_rfl) rfl) ?_
  refine Mono.rgl_skip rfl (by decide) (fun ρ W hd => Mono.guard_val hd (t := 42) (k := 6) (by kernel_rfl) rfl) ?_
  refine Mono.rgl_skip rfl (by decide) (fun ρ W hd => Mono.guard_val hd (t := 42) (k := 6) (by kernel_rfl) rfl) ?_
  refine Mono.rgl_skip rfl (by decide) (fun ρ W hd => Mono.guard_val hd (t := 42) (k := 6) (by kernel_rfl) rfl) ?_
  refine Mono.rgl_skip rfl (by decide) (fun ρ W hd => Mono.guard_val hd (t := 42) (k := 6) (by kernel_rfl) rfl) ?_
  refine Mono.rgl_skip rfl (by decide) (fun ρ W hd => Mono.guard_val hd (t := 42) (k := 6) (by kernel_rfl) rfl) ?_
  refine Mono.rgl_skip rfl (by decide) (fun ρ W hd => Mono.guard_val hd (t := 42) (k := 6) (by kernel_rfl) rfl) ?_
  refine Mono.rgl_skip rfl (by decide) (fun ρ W hd => Mono.guard_val hd (t := 42) (k := 6) (by kernel_rfl) rfl) ?_
  refine Mono.rgl_skip rfl (by decide) (fun ρ W hd => Mono.guard_val hd (t := 42) (k := 6) (by kernel_rfl) rfl) ?_
  refine Mono.rgl_skip rfl (by decide) (fun ρ W hd => Mono.guard_val hd (t := 42) (k := 6) (by kernel_rfl) rfl) ?_
  refine Mono.rgl_skip rfl (by decide) (fun ρ W hd => Mono.guard_val hd (t := 42) (k := 6) (by kernel_rfl) rfl) ?_
  refine Mono.rgl_skip rfl (by decide) (fun ρ W hd => Mono.guard_val hd (t := 42) (k := 6) (by kernel_rfl) rfl) ?_
  refine Mono.rgl_skip rfl (by decide) (fun ρ W hd => Mono.guard_val hd (t := 42) (k := 6) (by kernel_rfl) rfl) ?_
  refine Mono.rgl_skip rfl (by decide) (fun ρ W hd => Mono.guard_val hd (t := 42) (k := 6) (by kernel_rfl) rfl) ?_
  refine Mono.rgl_val (v := ?vz22) rfl Mono.rr (fun ρ a W hR hd hf => ?hz22) ?_
  case hz22 =>
    have e42 := Mono.dep_val hd hf (t := 42) (k := 6) (by kernel_rfl) rfl
    have e57 := Mono.dep_val hd hf (t := 57) (k := 21) (by kernel_rfl) rfl
    clear hd hf
    (go_simp; try with_reducible rfl)
  refine Mono.rgl_done rfl (fun ρ W hR ht => ?_)
  obtain ⟨dz22, dz21, dz20, dz19, dz18, dz17, dz16, dz15, dz14, dz13, dz12, dz11, dz10, dz9, dz8, dz7, dz6, dz5, dz4, dz3, dz2, dz1, dz0, _⟩ := ht
  simp only [List.length_cons, List.length_nil, Nat.reduceAdd] at dz0 dz1 dz2 dz3 dz4 dz5 dz6 dz7 dz8 dz9 dz10 dz11 dz12 dz13 dz14 dz15 dz16 dz17 dz18 dz19 dz20 dz21 dz22
  simp only [Mono.putAll, Nat.reduceAdd, dz0, dz1, dz2, dz3, dz4, dz5, dz6, dz7, dz8, dz9, dz10, dz11, dz12, dz13, dz14, dz15, dz16, dz17, dz18, dz19, dz20, dz21, dz22, Act.put, List.setIfInBounds_toArray, List.set_cons_zero, List.set_cons_succ]
  clear dz0 dz1 dz2 dz3 dz4 dz5 dz6 dz7 dz8 dz9 dz10 dz11 dz12 dz13 dz14 dz15 dz16 dz17 dz18 dz19 dz20 dz21 dz22
  have HBZ := Lib.hid (HBW.out.trans (hR.mono HBW.out.size))
  clear hR 
  go_wp2
  refine bodyPost_ret (v := .tuple #[.int .u32 0, .int .i64 0, .int .i64 0, .bool false]) (by simp [results, Try.results11, go_sem]) rfl ⟨rfl, HBZ.out⟩
set_option maxHeartbeats 2000000 in
theorem rparse_neq_true (ad : Option Addr) (c : Nat) (l : List UInt8) (w : World) (h : Byt w w.heap.size (.slice ad l.length c) l) (hl : l.length ≤ 100000) (hc : l.length ≤ c) (hs : 24 ≤ l.length) (hp : rd l 8 8 ≤ 33554432) (hs2 : rd l 16 8 ≤ 16777216) (hd : descBytes (rd l 4 4) (rd l 8 8) (rd l 16 8) true ≠ l.take 24) : Calls Try.prog 11 #[.slice ad l.length c, .bool true] w fun e w' => e = .returned (.tuple #[.int .u32 0, .int .i64 0, .int .i64 0, .bool false]) ∧ Below w.heap.size w w' := by
  have t0 : decide ((l.length : Int) < 24) = false := by simp; omega
  obtain ⟨S1, hs1, hb1⟩ := piece2 ad l.length c l h rfl hc 4 8 (by decide) (by omega)
  have HS1 : Hid (∀ W : World, (Instr.slice 25 (.slice ad l.length c) (some (.int .i64 4)) (some (.int .i64 8)) none).run Try.prog W = .ok S1 W) := Lib.hid hs1
  have NUM1 := Lib.hid (fun (W : World) (hR : Below w.heap.size w W) => refNumber_B (hb1.below hR) (by rw [List.length_take]; omega))
  rw [show num ((l.drop 4).take (8 - 4)) = rd l 4 4 from rfl] at NUM1
  clear hs1 hb1
  obtain ⟨S2, hs2, hb2⟩ := piece2 ad l.length c l h rfl hc 8 16 (by decide) (by omega)
  have HS2 : Hid (∀ W : World, (Instr.slice 25 (.slice ad l.length c) (some (.int .i64 8)) (some (.int .i64 16)) none).run Try.prog W = .ok S2 W) := Lib.hid hs2
  have NUM2 := Lib.hid (fun (W : World) (hR : Below w.heap.size w W) => refNumber_B (hb2.below hR) (by rw [List.length_take]; omega))
  rw [show num ((l.drop 8).take (16 - 8)) = rd l 8 8 from rfl] at NUM2
  clear hs2 hb2
  obtain ⟨S3, hs3, hb3⟩ := piece2 ad l.length c l h rfl hc 16 24 (by decide) (by omega)
  have HS3 : Hid (∀ W : World, (Instr.slice 25 (.slice ad l.length c) (some (.int .i64 16)) (some (.int .i64 24)) none).run Try.prog W = .ok S3 W) := Lib.hid hs3
  have NUM3 := Lib.hid (fun (W : World) (hR : Below w.heap.size w W) => refNumber_B (hb3.below hR) (by rw [List.length_take]; omega))
  rw [show num ((l.drop 16).take (24 - 16)) = rd l 16 8 from rfl] at NUM3
  clear hs3 hb3
  have hsl4 := fun W => slice_h (t := 25) (e := 5) (size := 1) rfl size_u8 ad l.length c (24 : Int) (by decide) (by omega) W
  have hsb4 := sub_byt h 0 24 (by omega)
  rw [List.drop_zero] at hsb4
  simp only [Nat.sub_zero] at hsl4 hsb4
  have HS4 : Hid (∀ W : World, (Instr.slice 25 (.slice ad l.length c) none (some (.int .i64 24)) none).run Try.prog W = .ok (.slice (if c = 0 then ad else ad.map (·.add (0 * 1))) 24 c) W) := Lib.hid hsl4
  have HB4 := Lib.hid hsb4
  clear hsl4 hsb4
  generalize Value.slice (if c = 0 then ad else ad.map (·.add (0 * 1))) 24 c = S4 at *
  have bx : rd l 4 4 < 4294967296 := rd_lt l 4 4
  have q_x : IntKind.u32.wrap ((rd l 4 4 : Nat) : Int) = (rd l 4 4 : Nat) := by rw [IntKind.wrap_u32]; omega
  have HRE := Lib.hid (fun W => renc_yes (rd l 4 4) (rd l 8 8) (rd l 16 8) true W bx (descB_yes (by omega)))
  have HD := Lib.hid hd
  clear hd
  generalize descBytes (rd l 4 4) (rd l 8 8) (rd l 16 8) true = X at *
  have HQX := Lib.hid q_x
  clear q_x bx h
  generalize rd l 4 4 = cr at *
  generalize rd l 8 8 = p at *
  generalize rd l 16 8 = s at *
  have d1 : decide (33554432 < (p : Int)) = false := by simp; omega
  have d2 : decide (16777216 < (s : Int)) = false := by simp; omega
  have HQP : Hid (IntKind.i64.wrap (p : Int) = p) := Lib.hid (IntWalk.i64_in _ (by omega))
  have HQS : Hid (IntKind.i64.wrap (s : Int) = s) := Lib.hid (IntWalk.i64_in _ (by omega))
  go_enter Try.func11, Try.ntmps11
  go_wp2_with fail
  refine Mono.region_below (by kernel_rfl) (by kernel_rfl) (by kernel_rfl) ?_
  refine Mono.rgl_val (v := ?v0) rfl Mono.rr (fun ρ a W hR hd hf => ?h0) ?_
  case h0 =>
    have e0 := Mono.init_get hf (t := 0) (by kernel_rfl)
    clear hd hf
    (go_simp; try with_reducible rfl)
  refine Mono.rgl_val (v := ?v1) rfl Mono.rr (fun ρ a W hR hd hf => ?h1) ?_
  case h1 =>
    have e19 := Mono.dep_val hd hf (t := 19) (k := 0) (by kernel_rfl) rfl
    have hsl := HS1.out W
    clear hd hf
    (go_simp; try with_reducible rfl)
  refine Mono.rgl_call (fun x _ => x = .int .u64 ((cr : Nat) : Int)) rfl Mono.rr (fun _ _ _ h _ => h) (fun ρ a W hR hd hf => ?h2) ?_
  case h2 =>
    have e20 := Mono.dep_val hd hf (t := 20) (k := 1) (by kernel_rfl) rfl
    clear hd hf
    refine ⟨_, _, by go_simp; first | rfl | exact ⟨rfl, rfl⟩, ?_⟩
    exact (NUM1.out W hR).mono (fun e W' ⟨he, hw⟩ => ⟨_, he, hw ▸ Mono.rr _, rfl⟩)
  refine Mono.rgl_val (v := ?v3) rfl Mono.rr (fun ρ a W hR hd hf => ?h3) ?_
  case h3 =>
    have e21 := Mono.dep_val hd hf (t := 21) (k := 2) (by kernel_rfl) rfl
    have hq := HQX.out
    clear hd hf
    (go_simp; try with_reducible rfl)
  refine Mono.rgl_val (v := ?v4) rfl Mono.rr (fun ρ a W hR hd hf => ?h4) ?_
  case h4 =>
    have e0 := Mono.init_get hf (t := 0) (by kernel_rfl)
    clear hd hf
    (go_simp; try with_reducible rfl)
  refine Mono.rgl_val (v := ?v5) rfl Mono.rr (fun ρ a W hR hd hf => ?h5) ?_
  case h5 =>
    have e8 := Mono.init_get hf (t := 8) (by kernel_rfl)
    clear hd hf
    (go_simp; try with_reducible rfl)
  refine Mono.rgl_val (v := .int .i64 16) rfl Mono.rr (fun ρ a W hR hd hf => ?h6) ?_
  case h6 =>
    have e24 := Mono.dep_val hd hf (t := 24) (k := 5) (by kernel_rfl) rfl
    clear hd hf
    (go_simp <;> rfl)
  refine Mono.rgl_val (v := ?v7) rfl Mono.rr (fun ρ a W hR hd hf => ?h7) ?_
  case h7 =>
    have e23 := Mono.dep_val hd hf (t := 23) (k := 4) (by kernel_rfl) rfl
    have e25 := Mono.dep_val hd hf (t := 25) (k := 6) (by kernel_rfl) rfl
    have hsl := HS2.out W
    clear hd hf
    (go_simp; try with_reducible rfl)
  refine Mono.rgl_call (fun x _ => x = .int .u64 ((p : Nat) : Int)) rfl Mono.rr (fun _ _ _ h _ => h) (fun ρ a W hR hd hf => ?h8) ?_
  case h8 =>
    have e26 := Mono.dep_val hd hf (t := 26) (k := 7) (by kernel_rfl) rfl
    clear hd hf
    refine ⟨_, _, by go_simp; first | rfl | exact ⟨rfl, rfl⟩, ?_⟩
    exact (NUM2.out W hR).mono (fun e W' ⟨he, hw⟩ => ⟨_, he, hw ▸ Mono.rr _, rfl⟩)
  refine Mono.rgl_val (v := ?v9) rfl Mono.rr (fun ρ a W hR hd hf => ?h9) ?_
  case h9 =>
    have e0 := Mono.init_get hf (t := 0) (by kernel_rfl)
    clear hd hf
    (go_simp; try with_reducible rfl)
  refine Mono.rgl_val (v := ?v10) rfl Mono.rr (fun ρ a W hR hd hf => ?h10) ?_
  case h10 =>
    have e8 := Mono.init_get hf (t := 8) (by kernel_rfl)
    clear hd hf
    (go_simp; try with_reducible rfl)
  refine Mono.rgl_val (v := .int .i64 16) rfl Mono.rr (fun ρ a W hR hd hf => ?h11) ?_
  case h11 =>
    have e29 := Mono.dep_val hd hf (t := 29) (k := 10) (by kernel_rfl) rfl
    clear hd hf
    (go_simp <;> rfl)
  refine Mono.rgl_val (v := ?v12) rfl Mono.rr (fun ρ a W hR hd hf => ?h12) ?_
  case h12 =>
    have e8 := Mono.init_get hf (t := 8) (by kernel_rfl)
    clear hd hf
    (go_simp; try with_reducible rfl)
  refine Mono.rgl_val (v := .int .i64 16) rfl Mono.rr (fun ρ a W hR hd hf => ?h13) ?_
  case h13 =>
    have e31 := Mono.dep_val hd hf (t := 31) (k := 12) (by kernel_rfl) rfl
    clear hd hf
    (go_simp <;> rfl)
  refine Mono.rgl_val (v := .int .i64 24) rfl Mono.rr (fun ρ a W hR hd hf => ?h14) ?_
  case h14 =>
    have e32 := Mono.dep_val hd hf (t := 32) (k := 13) (by kernel_rfl) rfl
    clear hd hf
    (go_simp <;> rfl)
  refine Mono.rgl_val (v := ?v15) rfl Mono.rr (fun ρ a W hR hd hf => ?h15) ?_
  case h15 =>
    have e28 := Mono.dep_val hd hf (t := 28) (k := 9) (by kernel_rfl) rfl
    have e30 := Mono.dep_val hd hf (t := 30) (k := 11) (by kernel_rfl) rfl
    have e33 := Mono.dep_val hd hf (t := 33) (k := 14) (by kernel_rfl) rfl
    have hsl := HS3.out W
    clear hd hf
    (go_simp; try with_reducible rfl)
  refine Mono.rgl_call (fun x _ => x = .int .u64 ((s : Nat) : Int)) rfl Mono.rr (fun _ _ _ h _ => h) (fun ρ a W hR hd hf => ?h16) ?_
  case h16 =>
    have e34 := Mono.dep_val hd hf (t := 34) (k := 15) (by kernel_rfl) rfl
    clear hd hf
    refine ⟨_, _, by go_simp; first | rfl | exact ⟨rfl, rfl⟩, ?_⟩
    exact (NUM3.out W hR).mono (fun e W' ⟨he, hw⟩ => ⟨_, he, hw ▸ Mono.rr _, rfl⟩)
  refine Mono.rgl_val (v := ?v17) rfl Mono.rr (fun ρ a W hR hd hf => ?h17) ?_
  case h17 =>
    have e22 := Mono.dep_val hd hf (t := 22) (k := 3) (by kernel_rfl) rfl
    clear hd hf
    (go_simp; try with_reducible rfl)
  refine Mono.rgl_val (v := ?v18) rfl Mono.rr (fun ρ a W hR hd hf => ?h18) ?_
  case h18 =>
    have e27 := Mono.dep_val hd hf (t := 27) (k := 8) (by kernel_rfl) rfl
    clear hd hf
    (go_simp; try with_reducible rfl)
  refine Mono.rgl_val (v := ?v19) rfl Mono.rr (fun ρ a W hR hd hf => ?h19) ?_
  case h19 =>
    have e35 := Mono.dep_val hd hf (t := 35) (k := 16) (by kernel_rfl) rfl
    clear hd hf
    (go_simp; try with_reducible rfl)
  refine Mono.rgl_done rfl (fun ρ W hR ht => ?_)
  obtain ⟨d19, d18, d17, d16, d15, d14, d13, d12, d11, d10, d9, d8, d7, d6, d5, d4, d3, d2, d1, d0, _⟩ := ht
  simp only [List.length_cons, List.length_nil, Nat.reduceAdd] at d0 d1 d2 d3 d4 d5 d6 d7 d8 d9 d10 d11 d12 d13 d14 d15 d16 d17 d18 d19
  simp only [Mono.putAll, Nat.reduceAdd, d0, d1, d2, d3, d4, d5, d6, d7, d8, d9, d10, d11, d12, d13, d14, d15, d16, d17, d18, d19, Act.put, List.setIfInBounds_toArray, List.set_cons_zero, List.set_cons_succ]
  clear d0 d1 d2 d3 d4 d5 d6 d7 d8 d9 d10 d11 d12 d13 d14 d15 d16 d17 d18 d19
  have HBW := Lib.hid hR
  clear hR
  obtain ⟨w4, rfl⟩ : ∃ z, z = W := ⟨_, rfl⟩
  go_wp2_with fail
  refine Mono.region_below (by kernel_rfl) (by kernel_rfl) (by kernel_rfl) ?_
  refine Mono.rgl_val (v := ?vz0) rfl Mono.rr (fun ρ a W hR hd hf => ?hz0) ?_
  case hz0 =>
    have e10 := Mono.init_get hf (t := 10) (by kernel_rfl)
    clear hd hf
    (go_simp; try with_reducible rfl)
  refine Mono.rgl_val (v := .bool false) rfl Mono.rr (fun ρ a W hR hd hf => ?hz1) ?_
  case hz1 =>
    have e36 := Mono.dep_val hd hf (t := 36) (k := 0) (by kernel_rfl) rfl
    clear hd hf
    (go_simp)
  refine Mono.rgl_val (v := ?vz2) rfl Mono.rr (fun ρ a W hR hd hf => ?hz2) ?_
  case hz2 =>
    have e37 := Mono.dep_val hd hf (t := 37) (k := 1) (by kernel_rfl) rfl
    clear hd hf
    (go_simp; try with_reducible rfl)
  refine Mono.rgl_valg (v := ?vz3) rfl Mono.rr (fun ρ W hd => Mono.guard_val hd (t := 38) (k := 2) (by kernel_rfl) rfl) (fun ρ a W hR hd hf => ?hz3) ?_
  case hz3 =>
    have e11 := Mono.init_get hf (t := 11) (by kernel_rfl)
    clear hd hf
    (go_simp; try with_reducible rfl)
  refine Mono.rgl_valg (v := .bool false) rfl Mono.rr (fun ρ W hd => Mono.guard_val hd (t := 38) (k := 2) (by kernel_rfl) rfl) (fun ρ a W hR hd hf => ?hz4) ?_
  case hz4 =>
    have e39 := Mono.dep_val hd hf (t := 39) (k := 3) (by kernel_rfl) rfl
    clear hd hf
    (go_simp)
  refine Mono.rgl_val (v := ?vz5) rfl Mono.rr (fun ρ a W hR hd hf => ?hz5) ?_
  case hz5 =>
    have e38 := Mono.dep_val hd hf (t := 38) (k := 2) (by kernel_rfl) rfl
    have e40 := Mono.dep_val hd hf (t := 40) (k := 4) (by kernel_rfl) rfl
    clear hd hf
    (go_simp; try with_reducible rfl)
  refine Mono.rgl_val (v := ?vz6) rfl Mono.rr (fun ρ a W hR hd hf => ?hz6) ?_
  case hz6 =>
    have e41 := Mono.dep_val hd hf (t := 41) (k := 5) (by kernel_rfl) rfl
    clear hd hf
    (go_simp; try with_reducible rfl)
  refine Mono.rgl_valg (v := ?vz7) rfl Mono.rr (fun ρ W hd => Mono.guard_val hd (t := 42) (k := 6) (by kernel_rfl) rfl) (fun ρ a W hR hd hf => ?hz7) ?_
  case hz7 =>
    have e9 := Mono.init_get hf (t := 9) (by kernel_rfl)
    clear hd hf
    (go_simp; try with_reducible rfl)
  refine Mono.rgl_valg (v := ?vz8) rfl Mono.rr (fun ρ W hd => Mono.guard_val hd (t := 42) (k := 6) (by kernel_rfl) rfl) (fun ρ a W hR hd hf => ?hz8) ?_
  case hz8 =>
    have e10 := Mono.init_get hf (t := 10) (by kernel_rfl)
    clear hd hf
    (go_simp; try with_reducible rfl)
  refine Mono.rgl_valg (v := ?vz9) rfl Mono.rr (fun ρ W hd => Mono.guard_val hd (t := 42) (k := 6) (by kernel_rfl) rfl) (fun ρ a W hR hd hf => ?hz9) ?_
  case hz9 =>
    have e44 := Mono.dep_val hd hf (t := 44) (k := 8) (by kernel_rfl) rfl
    have hq := HQP.out
    clear hd hf
    (go_simp; try with_reducible rfl)
  refine Mono.rgl_valg (v := ?vz10) rfl Mono.rr (fun ρ W hd => Mono.guard_val hd (t := 42) (k := 6) (by kernel_rfl) rfl) (fun ρ a W hR hd hf => ?hz10) ?_
  case hz10 =>
    have e11 := Mono.init_get hf (t := 11) (by kernel_rfl)
    clear hd hf
    (go_simp; try with_reducible rfl)
  refine Mono.rgl_valg (v := ?vz11) rfl Mono.rr (fun ρ W hd => Mono.guard_val hd (t := 42) (k := 6) (by kernel_rfl) rfl) (fun ρ a W hR hd hf => ?hz11) ?_
  case hz11 =>
    have e46 := Mono.dep_val hd hf (t := 46) (k := 10) (by kernel_rfl) rfl
    have hq := HQS.out
    clear hd hf
    (go_simp; try with_reducible rfl)
  refine Mono.rgl_valg (v := ?vz12) rfl Mono.rr (fun ρ W hd => Mono.guard_val hd (t := 42) (k := 6) (by kernel_rfl) rfl) (fun ρ a W hR hd hf => ?hz12) ?_
  case hz12 =>
    have e1 := Mono.init_get hf (t := 1) (by kernel_rfl)
    clear hd hf
    (go_simp; try with_reducible rfl)
  refine Mono.rgl_callg (fun z W => Byt W W.heap.size z X) rfl Mono.rr hstB2 (fun ρ W hd => Mono.guard_val hd (t := 42) (k := 6) (by kernel_rfl) rfl) (fun ρ a W hR hd hf => ?hz13) ?_
  case hz13 =>
    have e43 := Mono.dep_val hd hf (t := 43) (k := 7) (by kernel_rfl) rfl
    have e45 := Mono.dep_val hd hf (t := 45) (k := 9) (by kernel_rfl) rfl
    have e47 := Mono.dep_val hd hf (t := 47) (k := 11) (by kernel_rfl) rfl
    have e48 := Mono.dep_val hd hf (t := 48) (k := 12) (by kernel_rfl) rfl
    clear hd hf
    refine ⟨_, _, by go_simp; first | rfl | exact ⟨rfl, rfl⟩, ?_⟩
    exact (HRE.out W).mono (fun e W' ⟨v', he, ho, hb⟩ => ⟨v', he, hb, ho.byt⟩)
  refine Mono.rgl_valg (v := ?vz14) rfl Mono.rr (fun ρ W hd => Mono.guard_val hd (t := 42) (k := 6) (by kernel_rfl) rfl) (fun ρ a W hR hd hf => ?hz14) ?_
  case hz14 =>
    obtain ⟨e49, d13⟩ := Mono.dep_get hd hf (t := 49) (k := 13) (by kernel_rfl)
    replace d13 : (fun z W => Byt W W.heap.size z X) (ρ 13) W := d13
    have hcv := convert_byt (src := 25) (dst := 9) (e := 5) rfl rfl rfl (d13)
    clear hd hf
    (go_simp; try with_reducible rfl)
  refine Mono.rgl_valg (v := ?vz15) rfl Mono.rr (fun ρ W hd => Mono.guard_val hd (t := 42) (k := 6) (by kernel_rfl) rfl) (fun ρ a W hR hd hf => ?hz15) ?_
  case hz15 =>
    have e0 := Mono.init_get hf (t := 0) (by kernel_rfl)
    clear hd hf
    (go_simp; try with_reducible rfl)
  refine Mono.rgl_valg (v := ?vz16) rfl Mono.rr (fun ρ W hd => Mono.guard_val hd (t := 42) (k := 6) (by kernel_rfl) rfl) (fun ρ a W hR hd hf => ?hz16) ?_
  case hz16 =>
    have e8 := Mono.init_get hf (t := 8) (by kernel_rfl)
    clear hd hf
    (go_simp; try with_reducible rfl)
  refine Mono.rgl_valg (v := .int .i64 16) rfl Mono.rr (fun ρ W hd => Mono.guard_val hd (t := 42) (k := 6) (by kernel_rfl) rfl) (fun ρ a W hR hd hf => ?hz17) ?_
  case hz17 =>
    have e52 := Mono.dep_val hd hf (t := 52) (k := 16) (by kernel_rfl) rfl
    clear hd hf
    (go_simp <;> rfl)
  refine Mono.rgl_valg (v := .int .i64 24) rfl Mono.rr (fun ρ W hd => Mono.guard_val hd (t := 42) (k := 6) (by kernel_rfl) rfl) (fun ρ a W hR hd hf => ?hz18) ?_
  case hz18 =>
    have e53 := Mono.dep_val hd hf (t := 53) (k := 17) (by kernel_rfl) rfl
    clear hd hf
    (go_simp <;> rfl)
  refine Mono.rgl_valg (v := ?vz19) rfl Mono.rr (fun ρ W hd => Mono.guard_val hd (t := 42) (k := 6) (by kernel_rfl) rfl) (fun ρ a W hR hd hf => ?hz19) ?_
  case hz19 =>
    have e51 := Mono.dep_val hd hf (t := 51) (k := 15) (by kernel_rfl) rfl
    have e54 := Mono.dep_val hd hf (t := 54) (k := 18) (by kernel_rfl) rfl
    have hsl := HS4.out W
    clear hd hf
    (go_simp; try with_reducible rfl)
  refine Mono.rgl_valg (v := ?vz20) rfl Mono.rr (fun ρ W hd => Mono.guard_val hd (t := 42) (k := 6) (by kernel_rfl) rfl) (fun ρ a W hR hd hf => ?hz20) ?_
  case hz20 =>
    have e55 := Mono.dep_val hd hf (t := 55) (k := 19) (by kernel_rfl) rfl
    have hcv := convert_byt (src := 25) (dst := 9) (e := 5) rfl rfl rfl (HB4.out.below (HBW.out.trans (hR.mono HBW.out.size)))
    clear hd hf
    (go_simp; try with_reducible rfl)
  refine Mono.rgl_valg (v := .bool true) rfl Mono.rr (fun ρ W hd => Mono.guard_val hd (t := 42) (k := 6) (by kernel_rfl) rfl) (fun ρ a W hR hd hf => ?hz21) ?_
  case hz21 =>
    have e50 := Mono.dep_val hd hf (t := 50) (k := 14) (by kernel_rfl) rfl
    have e56 := Mono.dep_val hd hf (t := 56) (k := 20) (by kernel_rfl) rfl
    clear hd hf
    (go_simp; rw [ByteArray.toList_eq, ByteArray.toList_eq]; exact fun h => HD.out (by simpa [str] using h))
  refine Mono.rgl_val (v := ?vz22) rfl Mono.rr (fun ρ a W hR hd hf => ?hz22) ?_
  case hz22 =>
    have e42 := Mono.dep_val hd hf (t := 42) (k := 6) (by kernel_rfl) rfl
    have e57 := Mono.dep_val hd hf (t := 57) (k := 21) (by kernel_rfl) rfl
    clear hd hf
    (go_simp; try with_reducible rfl)
  refine Mono.rgl_done rfl (fun ρ W hR ht => ?_)
  obtain ⟨dz22, dz21, dz20, dz19, dz18, dz17, dz16, dz15, dz14, dz13, dz12, dz11, dz10, dz9, dz8, dz7, dz6, dz5, dz4, dz3, dz2, dz1, dz0, _⟩ := ht
  replace dz13 : (fun z W => Byt W W.heap.size z X) (ρ 13) W := dz13
  simp only [List.length_cons, List.length_nil, Nat.reduceAdd] at dz0 dz1 dz2 dz3 dz4 dz5 dz6 dz7 dz8 dz9 dz10 dz11 dz12 dz14 dz15 dz16 dz17 dz18 dz19 dz20 dz21 dz22
  simp only [Mono.putAll, Nat.reduceAdd, dz0, dz1, dz2, dz3, dz4, dz5, dz6, dz7, dz8, dz9, dz10, dz11, dz12, dz14, dz15, dz16, dz17, dz18, dz19, dz20, dz21, dz22, Act.put, List.setIfInBounds_toArray, List.set_cons_zero, List.set_cons_succ]
  clear dz0 dz1 dz2 dz3 dz4 dz5 dz6 dz7 dz8 dz9 dz10 dz11 dz12 dz14 dz15 dz16 dz17 dz18 dz19 dz20 dz21 dz22
  generalize ρ 13 = rz13 at *
  have HBZ := Lib.hid (HBW.out.trans (hR.mono HBW.out.size))
  clear hR dz13
  go_wp2
  refine bodyPost_ret (v := .tuple #[.int .u32 0, .int .i64 0, .int .i64 0, .bool false]) (by simp [results, Try.results11, go_sem]) rfl ⟨rfl, HBZ.out⟩
set_option maxHeartbeats 2000000 in
theorem rparse_yes_true (ad : Option Addr) (c : Nat) (l : List UInt8) (w : World) (h : Byt w w.heap.size (.slice ad l.length c) l) (hl : l.length ≤ 100000) (hc : l.length ≤ c) (hs : 24 ≤ l.length) (hp : rd l 8 8 ≤ 33554432) (hs2 : rd l 16 8 ≤ 16777216) (hd : descBytes (rd l 4 4) (rd l 8 8) (rd l 16 8) true = l.take 24) : Calls Try.prog 11 #[.slice ad l.length c, .bool true] w fun e w' => e = .returned (.tuple #[.int .u32 (rd l 4 4 : Nat), .int .i64 (rd l 8 8 : Nat), .int .i64 (rd l 16 8 : Nat), .bool true]) ∧ Below w.heap.size w w' := by
  have t0 : decide ((l.length : Int) < 24) = false := by simp; omega
  obtain ⟨S1, hs1, hb1⟩ := piece2 ad l.length c l h rfl hc 4 8 (by decide) (by omega)
  have HS1 : Hid (∀ W : World, (Instr.slice 25 (.slice ad l.length c) (some (.int .i64 4)) (some (.int .i64 8)) none).run Try.prog W = .ok S1 W) := Lib.hid hs1
  have NUM1 := Lib.hid (fun (W : World) (hR : Below w.heap.size w W) => refNumber_B (hb1.below hR) (by rw [List.length_take]; omega))
  rw [show num ((l.drop 4).take (8 - 4)) = rd l 4 4 from rfl] at NUM1
  clear hs1 hb1
  obtain ⟨S2, hs2, hb2⟩ := piece2 ad l.length c l h rfl hc 8 16 (by decide) (by omega)
  have HS2 : Hid (∀ W : World, (Instr.slice 25 (.slice ad l.length c) (some (.int .i64 8)) (some (.int .i64 16)) none).run Try.prog W = .ok S2 W) := Lib.hid hs2
  have NUM2 := Lib.hid (fun (W : World) (hR : Below w.heap.size w W) => refNumber_B (hb2.below hR) (by rw [List.length_take]; omega))
  rw [show num ((l.drop 8).take (16 - 8)) = rd l 8 8 from rfl] at NUM2
  clear hs2 hb2
  obtain ⟨S3, hs3, hb3⟩ := piece2 ad l.length c l h rfl hc 16 24 (by decide) (by omega)
  have HS3 : Hid (∀ W : World, (Instr.slice 25 (.slice ad l.length c) (some (.int .i64 16)) (some (.int .i64 24)) none).run Try.prog W = .ok S3 W) := Lib.hid hs3
  have NUM3 := Lib.hid (fun (W : World) (hR : Below w.heap.size w W) => refNumber_B (hb3.below hR) (by rw [List.length_take]; omega))
  rw [show num ((l.drop 16).take (24 - 16)) = rd l 16 8 from rfl] at NUM3
  clear hs3 hb3
  have hsl4 := fun W => slice_h (t := 25) (e := 5) (size := 1) rfl size_u8 ad l.length c (24 : Int) (by decide) (by omega) W
  have hsb4 := sub_byt h 0 24 (by omega)
  rw [List.drop_zero] at hsb4
  simp only [Nat.sub_zero] at hsl4 hsb4
  have HS4 : Hid (∀ W : World, (Instr.slice 25 (.slice ad l.length c) none (some (.int .i64 24)) none).run Try.prog W = .ok (.slice (if c = 0 then ad else ad.map (·.add (0 * 1))) 24 c) W) := Lib.hid hsl4
  have HB4 := Lib.hid hsb4
  clear hsl4 hsb4
  generalize Value.slice (if c = 0 then ad else ad.map (·.add (0 * 1))) 24 c = S4 at *
  have bx : rd l 4 4 < 4294967296 := rd_lt l 4 4
  have q_x : IntKind.u32.wrap ((rd l 4 4 : Nat) : Int) = (rd l 4 4 : Nat) := by rw [IntKind.wrap_u32]; omega
  have HRE := Lib.hid (fun W => renc_yes (rd l 4 4) (rd l 8 8) (rd l 16 8) true W bx (descB_yes (by omega)))
  have HD := Lib.hid hd
  clear hd
  generalize descBytes (rd l 4 4) (rd l 8 8) (rd l 16 8) true = X at *
  have HQX := Lib.hid q_x
  clear q_x bx h
  generalize rd l 4 4 = cr at *
  generalize rd l 8 8 = p at *
  generalize rd l 16 8 = s at *
  have d1 : decide (33554432 < (p : Int)) = false := by simp; omega
  have d2 : decide (16777216 < (s : Int)) = false := by simp; omega
  have HQP : Hid (IntKind.i64.wrap (p : Int) = p) := Lib.hid (IntWalk.i64_in _ (by omega))
  have HQS : Hid (IntKind.i64.wrap (s : Int) = s) := Lib.hid (IntWalk.i64_in _ (by omega))
  go_enter Try.func11, Try.ntmps11
  go_wp2_with fail
  refine Mono.region_below (by kernel_rfl) (by kernel_rfl) (by kernel_rfl) ?_
  refine Mono.rgl_val (v := ?v0) rfl Mono.rr (fun ρ a W hR hd hf => ?h0) ?_
  case h0 =>
    have e0 := Mono.init_get hf (t := 0) (by kernel_rfl)
    clear hd hf
    (go_simp; try with_reducible rfl)
  refine Mono.rgl_val (v := ?v1) rfl Mono.rr (fun ρ a W hR hd hf => ?h1) ?_
  case h1 =>
    have e19 := Mono.dep_val hd hf (t := 19) (k := 0) (by kernel_rfl) rfl
    have hsl := HS1.out W
    clear hd hf
    (go_simp; try with_reducible rfl)
  refine Mono.rgl_call (fun x _ => x = .int .u64 ((cr : Nat) : Int)) rfl Mono.rr (fun _ _ _ h _ => h) (fun ρ a W hR hd hf => ?h2) ?_
  case h2 =>
    have e20 := Mono.dep_val hd hf (t := 20) (k := 1) (by kernel_rfl) rfl
    clear hd hf
    refine ⟨_, _, by go_simp; first | rfl | exact ⟨rfl, rfl⟩, ?_⟩
    exact (NUM1.out W hR).mono (fun e W' ⟨he, hw⟩ => ⟨_, he, hw ▸ Mono.rr _, rfl⟩)
  refine Mono.rgl_val (v := ?v3) rfl Mono.rr (fun ρ a W hR hd hf => ?h3) ?_
  case h3 =>
    have e21 := Mono.dep_val hd hf (t := 21) (k := 2) (by kernel_rfl) rfl
    have hq := HQX.out
    clear hd hf
    (go_simp; try with_reducible rfl)
  refine Mono.rgl_val (v := ?v4) rfl Mono.rr (fun ρ a W hR hd hf => ?h4) ?_
  case h4 =>
    have e0 := Mono.init_get hf (t := 0) (by kernel_rfl)
    clear hd hf
    (go_simp; try with_reducible rfl)
  refine Mono.rgl_val (v := ?v5) rfl Mono.rr (fun ρ a W hR hd hf => ?h5) ?_
  case h5 =>
    have e8 := Mono.init_get hf (t := 8) (by kernel_rfl)
    clear hd hf
    (go_simp; try with_reducible rfl)
  refine Mono.rgl_val (v := .int .i64 16) rfl Mono.rr (fun ρ a W hR hd hf => ?h6) ?_
  case h6 =>
    have e24 := Mono.dep_val hd hf (t := 24) (k := 5) (by kernel_rfl) rfl
    clear hd hf
    (go_simp <;> rfl)
  refine Mono.rgl_val (v := ?v7) rfl Mono.rr (fun ρ a W hR hd hf => ?h7) ?_
  case h7 =>
    have e23 := Mono.dep_val hd hf (t := 23) (k := 4) (by kernel_rfl) rfl
    have e25 := Mono.dep_val hd hf (t := 25) (k := 6) (by kernel_rfl) rfl
    have hsl := HS2.out W
    clear hd hf
    (go_simp; try with_reducible rfl)
  refine Mono.rgl_call (fun x _ => x = .int .u64 ((p : Nat) : Int)) rfl Mono.rr (fun _ _ _ h _ => h) (fun ρ a W hR hd hf => ?h8) ?_
  case h8 =>
    have e26 := Mono.dep_val hd hf (t := 26) (k := 7) (by kernel_rfl) rfl
    clear hd hf
    refine ⟨_, _, by go_simp; first | rfl | exact ⟨rfl, rfl⟩, ?_⟩
    exact (NUM2.out W hR).mono (fun e W' ⟨he, hw⟩ => ⟨_, he, hw ▸ Mono.rr _, rfl⟩)
  refine Mono.rgl_val (v := ?v9) rfl Mono.rr (fun ρ a W hR hd hf => ?h9) ?_
  case h9 =>
    have e0 := Mono.init_get hf (t := 0) (by kernel_rfl)
    clear hd hf
    (go_simp; try with_reducible rfl)
  refine Mono.rgl_val (v := ?v10) rfl Mono.rr (fun ρ a W hR hd hf => ?h10) ?_
  case h10 =>
    have e8 := Mono.init_get hf (t := 8) (by kernel_rfl)
    clear hd hf
    (go_simp; try with_reducible rfl)
  refine Mono.rgl_val (v := .int .i64 16) rfl Mono.rr (fun ρ a W hR hd hf => ?h11) ?_
  case h11 =>
    have e29 := Mono.dep_val hd hf (t := 29) (k := 10) (by kernel_rfl) rfl
    clear hd hf
    (go_simp <;> rfl)
  refine Mono.rgl_val (v := ?v12) rfl Mono.rr (fun ρ a W hR hd hf => ?h12) ?_
  case h12 =>
    have e8 := Mono.init_get hf (t := 8) (by kernel_rfl)
    clear hd hf
    (go_simp; try with_reducible rfl)
  refine Mono.rgl_val (v := .int .i64 16) rfl Mono.rr (fun ρ a W hR hd hf => ?h13) ?_
  case h13 =>
    have e31 := Mono.dep_val hd hf (t := 31) (k := 12) (by kernel_rfl) rfl
    clear hd hf
    (go_simp <;> rfl)
  refine Mono.rgl_val (v := .int .i64 24) rfl Mono.rr (fun ρ a W hR hd hf => ?h14) ?_
  case h14 =>
    have e32 := Mono.dep_val hd hf (t := 32) (k := 13) (by kernel_rfl) rfl
    clear hd hf
    (go_simp <;> rfl)
  refine Mono.rgl_val (v := ?v15) rfl Mono.rr (fun ρ a W hR hd hf => ?h15) ?_
  case h15 =>
    have e28 := Mono.dep_val hd hf (t := 28) (k := 9) (by kernel_rfl) rfl
    have e30 := Mono.dep_val hd hf (t := 30) (k := 11) (by kernel_rfl) rfl
    have e33 := Mono.dep_val hd hf (t := 33) (k := 14) (by kernel_rfl) rfl
    have hsl := HS3.out W
    clear hd hf
    (go_simp; try with_reducible rfl)
  refine Mono.rgl_call (fun x _ => x = .int .u64 ((s : Nat) : Int)) rfl Mono.rr (fun _ _ _ h _ => h) (fun ρ a W hR hd hf => ?h16) ?_
  case h16 =>
    have e34 := Mono.dep_val hd hf (t := 34) (k := 15) (by kernel_rfl) rfl
    clear hd hf
    refine ⟨_, _, by go_simp; first | rfl | exact ⟨rfl, rfl⟩, ?_⟩
    exact (NUM3.out W hR).mono (fun e W' ⟨he, hw⟩ => ⟨_, he, hw ▸ Mono.rr _, rfl⟩)
  refine Mono.rgl_val (v := ?v17) rfl Mono.rr (fun ρ a W hR hd hf => ?h17) ?_
  case h17 =>
    have e22 := Mono.dep_val hd hf (t := 22) (k := 3) (by kernel_rfl) rfl
    clear hd hf
    (go_simp; try with_reducible rfl)
  refine Mono.rgl_val (v := ?v18) rfl Mono.rr (fun ρ a W hR hd hf => ?h18) ?_
  case h18 =>
    have e27 := Mono.dep_val hd hf (t := 27) (k := 8) (by kernel_rfl) rfl
    clear hd hf
    (go_simp; try with_reducible rfl)
  refine Mono.rgl_val (v := ?v19) rfl Mono.rr (fun ρ a W hR hd hf => ?h19) ?_
  case h19 =>
    have e35 := Mono.dep_val hd hf (t := 35) (k := 16) (by kernel_rfl) rfl
    clear hd hf
    (go_simp; try with_reducible rfl)
  refine Mono.rgl_done rfl (fun ρ W hR ht => ?_)
  obtain ⟨d19, d18, d17, d16, d15, d14, d13, d12, d11, d10, d9, d8, d7, d6, d5, d4, d3, d2, d1, d0, _⟩ := ht
  simp only [List.length_cons, List.length_nil, Nat.reduceAdd] at d0 d1 d2 d3 d4 d5 d6 d7 d8 d9 d10 d11 d12 d13 d14 d15 d16 d17 d18 d19
  simp only [Mono.putAll, Nat.reduceAdd, d0, d1, d2, d3, d4, d5, d6, d7, d8, d9, d10, d11, d12, d13, d14, d15, d16, d17, d18, d19, Act.put, List.setIfInBounds_toArray, List.set_cons_zero, List.set_cons_succ]
  clear d0 d1 d2 d3 d4 d5 d6 d7 d8 d9 d10 d11 d12 d13 d14 d15 d16 d17 d18 d19
  have HBW := Lib.hid hR
  clear hR
  obtain ⟨w4, rfl⟩ : ∃ z, z = W := ⟨_, rfl⟩
  go_wp2_with fail
  refine Mono.region_below (by kernel_rfl) (by kernel_rfl) (by kernel_rfl) ?_
  refine Mono.rgl_val (v := ?vz0) rfl Mono.rr (fun ρ a W hR hd hf => ?hz0) ?_
  case hz0 =>
    have e10 := Mono.init_get hf (t := 10) (by kernel_rfl)
    clear hd hf
    (go_simp; try with_reducible rfl)
  refine Mono.rgl_val (v := .bool false) rfl Mono.rr (fun ρ a W hR hd hf => ?hz1) ?_
  case hz1 =>
    have e36 := Mono.dep_val hd hf (t := 36) (k := 0) (by kernel_rfl) rfl
    clear hd hf
    (go_simp)
  refine Mono.rgl_val (v := ?vz2) rfl Mono.rr (fun ρ a W hR hd hf => ?hz2) ?_
  case hz2 =>
    have e37 := Mono.dep_val hd hf (t := 37) (k := 1) (by kernel_rfl) rfl
    clear hd hf
    (go_simp; try with_reducible rfl)
  refine Mono.rgl_valg (v := ?vz3) rfl Mono.rr (fun ρ W hd => Mono.guard_val hd (t := 38) (k := 2) (by kernel_rfl) rfl) (fun ρ a W hR hd hf => ?hz3) ?_
  case hz3 =>
    have e11 := Mono.init_get hf (t := 11) (by kernel_rfl)
    clear hd hf
    (go_simp; try with_reducible rfl)
  refine Mono.rgl_valg (v := .bool false) rfl Mono.rr (fun ρ W hd => Mono.guard_val hd (t := 38) (k := 2) (by kernel_rfl) rfl) (fun ρ a W hR hd hf => ?hz4) ?_
  case hz4 =>
    have e39 := Mono.dep_val hd hf (t := 39) (k := 3) (by kernel_rfl) rfl
    clear hd hf
    (go_simp)
  refine Mono.rgl_val (v := ?vz5) rfl Mono.rr (fun ρ a W hR hd hf => ?hz5) ?_
  case hz5 =>
    have e38 := Mono.dep_val hd hf (t := 38) (k := 2) (by kernel_rfl) rfl
    have e40 := Mono.dep_val hd hf (t := 40) (k := 4) (by kernel_rfl) rfl
    clear hd hf
    (go_simp; try with_reducible rfl)
  refine Mono.rgl_val (v := ?vz6) rfl Mono.rr (fun ρ a W hR hd hf => ?hz6) ?_
  case hz6 =>
    have e41 := Mono.dep_val hd hf (t := 41) (k := 5) (by kernel_rfl) rfl
    clear hd hf
    (go_simp; try with_reducible rfl)
  refine Mono.rgl_valg (v := ?vz7) rfl Mono.rr (fun ρ W hd => Mono.guard_val hd (t := 42) (k := 6) (by kernel_rfl) rfl) (fun ρ a W hR hd hf => ?hz7) ?_
  case hz7 =>
    have e9 := Mono.init_get hf (t := 9) (by kernel_rfl)
    clear hd hf
    (go_simp; try with_reducible rfl)
  refine Mono.rgl_valg (v := ?vz8) rfl Mono.rr (fun ρ W hd => Mono.guard_val hd (t := 42) (k := 6) (by kernel_rfl) rfl) (fun ρ a W hR hd hf => ?hz8) ?_
  case hz8 =>
    have e10 := Mono.init_get hf (t := 10) (by kernel_rfl)
    clear hd hf
    (go_simp; try with_reducible rfl)
  refine Mono.rgl_valg (v := ?vz9) rfl Mono.rr (fun ρ W hd => Mono.guard_val hd (t := 42) (k := 6) (by kernel_rfl) rfl) (fun ρ a W hR hd hf => ?hz9) ?_
  case hz9 =>
    have e44 := Mono.dep_val hd hf (t := 44) (k := 8) (by kernel_rfl) rfl
    have hq := HQP.out
    clear hd hf
    (go_simp; try with_reducible rfl)
  refine Mono.rgl_valg (v := ?vz10) rfl Mono.rr (fun ρ W hd => Mono.guard_val hd (t := 42) (k := 6) (by kernel_rfl) rfl) (fun ρ a W hR hd hf => ?hz10) ?_
  case hz10 =>
    have e11 := Mono.init_get hf (t := 11) (by kernel_rfl)
    clear hd hf
    (go_simp; try with_reducible rfl)
  refine Mono.rgl_valg (v := ?vz11) rfl Mono.rr (fun ρ W hd => Mono.guard_val hd (t := 42) (k := 6) (by kernel_rfl) rfl) (fun ρ a W hR hd hf => ?hz11) ?_
  case hz11 =>
    have e46 := Mono.dep_val hd hf (t := 46) (k := 10) (by kernel_rfl) rfl
    have hq := HQS.out
    clear hd hf
    (go_simp; try with_reducible rfl)
  refine Mono.rgl_valg (v := ?vz12) rfl Mono.rr (fun ρ W hd => Mono.guard_val hd (t := 42) (k := 6) (by kernel_rfl) rfl) (fun ρ a W hR hd hf => ?hz12) ?_
  case hz12 =>
    have e1 := Mono.init_get hf (t := 1) (by kernel_rfl)
    clear hd hf
    (go_simp; try with_reducible rfl)
  refine Mono.rgl_callg (fun z W => Byt W W.heap.size z X) rfl Mono.rr hstB2 (fun ρ W hd => Mono.guard_val hd (t := 42) (k := 6) (by kernel_rfl) rfl) (fun ρ a W hR hd hf => ?hz13) ?_
  case hz13 =>
    have e43 := Mono.dep_val hd hf (t := 43) (k := 7) (by kernel_rfl) rfl
    have e45 := Mono.dep_val hd hf (t := 45) (k := 9) (by kernel_rfl) rfl
    have e47 := Mono.dep_val hd hf (t := 47) (k := 11) (by kernel_rfl) rfl
    have e48 := Mono.dep_val hd hf (t := 48) (k := 12) (by kernel_rfl) rfl
    clear hd hf
    refine ⟨_, _, by go_simp; first | rfl | exact ⟨rfl, rfl⟩, ?_⟩
    exact (HRE.out W).mono (fun e W' ⟨v', he, ho, hb⟩ => ⟨v', he, hb, ho.byt⟩)
  refine Mono.rgl_valg (v := ?vz14) rfl Mono.rr (fun ρ W hd => Mono.guard_val hd (t := 42) (k := 6) (by kernel_rfl) rfl) (fun ρ a W hR hd hf => ?hz14) ?_
  case hz14 =>
    obtain ⟨e49, d13⟩ := Mono.dep_get hd hf (t := 49) (k := 13) (by kernel_rfl)
    replace d13 : (fun z W => Byt W W.heap.size z X) (ρ 13) W := d13
    have hcv := convert_byt (src := 25) (dst := 9) (e := 5) rfl rfl rfl (d13)
    clear hd hf
    (go_simp; try with_reducible rfl)
  refine Mono.rgl_valg (v := ?vz15) rfl Mono.rr (fun ρ W hd => Mono.guard_val hd (t := 42) (k := 6) (by kernel_rfl) rfl) (fun ρ a W hR hd hf => ?hz15) ?_
  case hz15 =>
    have e0 := Mono.init_get hf (t := 0) (by kernel_rfl)
    clear hd hf
    (go_simp; try with_reducible rfl)
  refine Mono.rgl_valg (v := ?vz16) rfl Mono.rr (fun ρ W hd => Mono.guard_val hd (t := 42) (k := 6) (by kernel_rfl) rfl) (fun ρ a W hR hd hf => ?hz16) ?_
  case hz16 =>
    have e8 := Mono.init_get hf (t := 8) (by kernel_rfl)
    clear hd hf
    (go_simp; try with_reducible rfl)
  refine Mono.rgl_valg (v := .int .i64 16) rfl Mono.rr (fun ρ W hd => Mono.guard_val hd (t := 42) (k := 6) (by kernel_rfl) rfl) (fun ρ a W hR hd hf => ?hz17) ?_
  case hz17 =>
    have e52 := Mono.dep_val hd hf (t := 52) (k := 16) (by kernel_rfl) rfl
    clear hd hf
    (go_simp <;> rfl)
  refine Mono.rgl_valg (v := .int .i64 24) rfl Mono.rr (fun ρ W hd => Mono.guard_val hd (t := 42) (k := 6) (by kernel_rfl) rfl) (fun ρ a W hR hd hf => ?hz18) ?_
  case hz18 =>
    have e53 := Mono.dep_val hd hf (t := 53) (k := 17) (by kernel_rfl) rfl
    clear hd hf
    (go_simp <;> rfl)
  refine Mono.rgl_valg (v := ?vz19) rfl Mono.rr (fun ρ W hd => Mono.guard_val hd (t := 42) (k := 6) (by kernel_rfl) rfl) (fun ρ a W hR hd hf => ?hz19) ?_
  case hz19 =>
    have e51 := Mono.dep_val hd hf (t := 51) (k := 15) (by kernel_rfl) rfl
    have e54 := Mono.dep_val hd hf (t := 54) (k := 18) (by kernel_rfl) rfl
    have hsl := HS4.out W
    clear hd hf
    (go_simp; try with_reducible rfl)
  refine Mono.rgl_valg (v := ?vz20) rfl Mono.rr (fun ρ W hd => Mono.guard_val hd (t := 42) (k := 6) (by kernel_rfl) rfl) (fun ρ a W hR hd hf => ?hz20) ?_
  case hz20 =>
    have e55 := Mono.dep_val hd hf (t := 55) (k := 19) (by kernel_rfl) rfl
    have hcv := convert_byt (src := 25) (dst := 9) (e := 5) rfl rfl rfl (HB4.out.below (HBW.out.trans (hR.mono HBW.out.size)))
    clear hd hf
    (go_simp; try with_reducible rfl)
  refine Mono.rgl_valg (v := .bool false) rfl Mono.rr (fun ρ W hd => Mono.guard_val hd (t := 42) (k := 6) (by kernel_rfl) rfl) (fun ρ a W hR hd hf => ?hz21) ?_
  case hz21 =>
    have e50 := Mono.dep_val hd hf (t := 50) (k := 14) (by kernel_rfl) rfl
    have e56 := Mono.dep_val hd hf (t := 56) (k := 20) (by kernel_rfl) rfl
    clear hd hf
    (go_simp; rw [ByteArray.toList_eq, ByteArray.toList_eq]; exact congrArg (fun x => (str x).data.toList) HD.out)
  refine Mono.rgl_val (v := ?vz22) rfl Mono.rr (fun ρ a W hR hd hf => ?hz22) ?_
  case hz22 =>
    have e42 := Mono.dep_val hd hf (t := 42) (k := 6) (by kernel_rfl) rfl
    have e57 := Mono.dep_val hd hf (t := 57) (k := 21) (by kernel_rfl) rfl
    clear hd hf
    (go_simp; try with_reducible rfl)
  refine Mono.rgl_done rfl (fun ρ W hR ht => ?_)
  obtain ⟨dz22, dz21, dz20, dz19, dz18, dz17, dz16, dz15, dz14, dz13, dz12, dz11, dz10, dz9, dz8, dz7, dz6, dz5, dz4, dz3, dz2, dz1, dz0, _⟩ := ht
  replace dz13 : (fun z W => Byt W W.heap.size z X) (ρ 13) W := dz13
  simp only [List.length_cons, List.length_nil, Nat.reduceAdd] at dz0 dz1 dz2 dz3 dz4 dz5 dz6 dz7 dz8 dz9 dz10 dz11 dz12 dz14 dz15 dz16 dz17 dz18 dz19 dz20 dz21 dz22
  simp only [Mono.putAll, Nat.reduceAdd, dz0, dz1, dz2, dz3, dz4, dz5, dz6, dz7, dz8, dz9, dz10, dz11, dz12, dz14, dz15, dz16, dz17, dz18, dz19, dz20, dz21, dz22, Act.put, List.setIfInBounds_toArray, List.set_cons_zero, List.set_cons_succ]
  clear dz0 dz1 dz2 dz3 dz4 dz5 dz6 dz7 dz8 dz9 dz10 dz11 dz12 dz14 dz15 dz16 dz17 dz18 dz19 dz20 dz21 dz22
  generalize ρ 13 = rz13 at *
  have HBZ := Lib.hid (HBW.out.trans (hR.mono HBW.out.size))
  clear hR dz13
  have hqp := HQP.out
  have hqs := HQS.out
  go_wp2
  refine bodyPost_ret (v := .tuple #[.int .u32 (cr : Nat), .int .i64 (p : Nat), .int .i64 (s : Nat), .bool true]) (by simp [results, Try.results11, go_sem]) rfl ⟨rfl, HBZ.out⟩
end Go.Proofs.Ytodjoccdjmmilaa
