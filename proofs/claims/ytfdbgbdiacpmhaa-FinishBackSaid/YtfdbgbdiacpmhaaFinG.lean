/- The law FinishReads. -/
import Derived.Test.YtfdbgbdiacpmhaaFinF
namespace Go.Proofs.Ytfdbgbdiacpmhaa
open Go.RowKit
set_option maxHeartbeats 1000000 in
theorem reads_fail (ad : Option Addr) (c : Nat) (l : List UInt8) (w : World) (h : Byt w w.heap.size (.slice ad l.length c) l) (hl : l.length ≤ 1000) (hc : l.length ≤ c) (code : Int) (hcd : code ≠ 0) (hP : ∀ W : World, Byt W W.heap.size (.slice ad l.length c) l → Calls Try.prog 12 #[.slice ad l.length c] W fun e w' => e = .returned (.tuple #[.agg #[.int .i64 0, .int .i64 0, .int .i64 0, .bool false], .int .i64 0, .int .i64 code]) ∧ Below W.heap.size W w') (hR : ∀ W : World, Byt W W.heap.size (.slice ad l.length c) l → Calls Try.prog 13 #[.slice ad l.length c] W fun e w' => e = .returned (.tuple #[.agg #[.int .i64 0, .int .i64 0, .int .i64 0, .bool false], .int .i64 0]) ∧ Below W.heap.size W w') : Calls Try.prog 4 #[.slice ad l.length c] w (lawQ w) := by
  have tc : (code != 0) = true := by simpa using hcd
  clear hcd
  have HH := Lib.hid h
  have HPC := Lib.hid hP
  have HRC := Lib.hid hR
  clear h hP hR
  have t0 : decide (1000 < (l.length : Int)) = false := by simp; omega
  go_enter Try.func4, Try.ntmps4
  go_wp2_with fail
  refine (awake_any _).mono ?_
  rintro e w1 ⟨rfl, hb⟩
  have HB := Lib.hid hb
  have hz := hb.size
  clear hb
  go_wp2_with fail
  refine (HPC.out _ ((HH.out.below HB.out).mono HB.out.size)).mono ?_
  rintro e w2 ⟨rfl, hb⟩
  have HB := Lib.hid (HB.out.trans (hb.mono hz))
  have hz2 : w.heap.size ≤ w2.heap.size := Nat.le_trans hz hb.size
  clear hb hz
  have HT := Lib.hid (Cells.new_at w2 [.int .i64 0, .int .i64 0, .int .i64 0, .bool false] 23 w2.heap.size rfl)
  have HB := Lib.hid (HB.out.alloc hz2 (.cells #[.int .i64 0, .int .i64 0, .int .i64 0, .bool false] 23))
  have hz3 : w2.heap.size < (w2.alloc (.cells #[.int .i64 0, .int .i64 0, .int .i64 0, .bool false] 23)).heap.size := by simp
  go_upto_region 6 with (fail)
  generalize w2.alloc (.cells #[.int .i64 0, .int .i64 0, .int .i64 0, .bool false] 23) = w3 at *
  generalize w2.heap.size = b3 at *
  go_wp2_with fail
  refine (HRC.out _ ((HH.out.below HB.out).mono (by omega))).mono ?_
  rintro e w4 ⟨rfl, hb⟩
  have HT := Lib.hid (HT.out.below hb (by omega))
  have HB := Lib.hid (HB.out.trans (hb.mono (by omega)))
  have hz4 : b3 < w4.heap.size := Nat.lt_of_lt_of_le hz3 hb.size
  clear hb hz3
  have HU := Lib.hid (Cells.new_at w4 [.int .i64 0, .int .i64 0, .int .i64 0, .bool false] 30 w4.heap.size rfl)
  have HT := Lib.hid (HT.out.below ((Below.refl _ _).alloc (Nat.le_refl _) (.cells #[.int .i64 0, .int .i64 0, .int .i64 0, .bool false] 30)) (by omega))
  have HB := Lib.hid (HB.out.alloc (by omega) (.cells #[.int .i64 0, .int .i64 0, .int .i64 0, .bool false] 30))
  have hz5 : w4.heap.size < (w4.alloc (.cells #[.int .i64 0, .int .i64 0, .int .i64 0, .bool false] 30)).heap.size := by simp
  go_upto_region 7 with (fail)
  generalize w4.alloc (.cells #[.int .i64 0, .int .i64 0, .int .i64 0, .bool false] 30) = w5 at *
  generalize w4.heap.size = b5 at *
  have y0 := HT.out 0 _ rfl
  have y1 := HT.out 1 _ rfl
  have y2 := HT.out 2 _ rfl
  have y3 := HT.out 3 _ rfl
  go_wp2
  go_ret
  exact ⟨rfl, HB.out⟩
set_option maxHeartbeats 1000000 in
theorem reads_yes (ad : Option Addr) (c : Nat) (l : List UInt8) (w : World) (h : Byt w w.heap.size (.slice ad l.length c) l) (hl : l.length ≤ 1000) (hc : l.length ≤ c) (n s k : Int) (g : Bool) (ln : Nat) (hln : 0 < ln) (hl2 : ln ≤ l.length) (hP : ∀ W : World, Byt W W.heap.size (.slice ad l.length c) l → Calls Try.prog 12 #[.slice ad l.length c] W fun e w' => e = .returned (.tuple #[.agg #[.int .i64 n, .int .i64 s, .int .i64 k, .bool g], .int .i64 ((l.length : Int) - ln), .int .i64 0]) ∧ Below W.heap.size W w') (hR : ∀ W : World, Byt W W.heap.size (.slice ad l.length c) l → Calls Try.prog 13 #[.slice ad l.length c] W fun e w' => e = .returned (.tuple #[.agg #[.int .i64 n, .int .i64 s, .int .i64 k, .bool g], .int .i64 (ln : Nat)]) ∧ Below W.heap.size W w') : Calls Try.prog 4 #[.slice ad l.length c] w (lawQ w) := by
  have tc : ((ln : Int) == 0) = false := by simp; omega
  have hwr : IntKind.i64.wrap ((l.length : Int) - (ln : Int)) = (l.length : Int) - ln := IntWalk.i64_in _ (by omega)
  have HWR := Lib.hid hwr
  have HH := Lib.hid h
  have HPC := Lib.hid hP
  have HRC := Lib.hid hR
  clear h hP hR
  have t0 : decide (1000 < (l.length : Int)) = false := by simp; omega
  go_enter Try.func4, Try.ntmps4
  go_wp2_with fail
  refine (awake_any _).mono ?_
  rintro e w1 ⟨rfl, hb⟩
  have HB := Lib.hid hb
  have hz := hb.size
  clear hb
  go_wp2_with fail
  refine (HPC.out _ ((HH.out.below HB.out).mono HB.out.size)).mono ?_
  rintro e w2 ⟨rfl, hb⟩
  have HB := Lib.hid (HB.out.trans (hb.mono hz))
  have hz2 : w.heap.size ≤ w2.heap.size := Nat.le_trans hz hb.size
  clear hb hz
  have HT := Lib.hid (Cells.new_at w2 [.int .i64 n, .int .i64 s, .int .i64 k, .bool g] 23 w2.heap.size rfl)
  have HB := Lib.hid (HB.out.alloc hz2 (.cells #[.int .i64 n, .int .i64 s, .int .i64 k, .bool g] 23))
  have hz3 : w2.heap.size < (w2.alloc (.cells #[.int .i64 n, .int .i64 s, .int .i64 k, .bool g] 23)).heap.size := by simp
  go_upto_region 6 with (fail)
  generalize w2.alloc (.cells #[.int .i64 n, .int .i64 s, .int .i64 k, .bool g] 23) = w3 at *
  generalize w2.heap.size = b3 at *
  go_wp2_with fail
  refine (HRC.out _ ((HH.out.below HB.out).mono (by omega))).mono ?_
  rintro e w4 ⟨rfl, hb⟩
  have HT := Lib.hid (HT.out.below hb (by omega))
  have HB := Lib.hid (HB.out.trans (hb.mono (by omega)))
  have hz4 : b3 < w4.heap.size := Nat.lt_of_lt_of_le hz3 hb.size
  clear hb hz3
  have HU := Lib.hid (Cells.new_at w4 [.int .i64 n, .int .i64 s, .int .i64 k, .bool g] 30 w4.heap.size rfl)
  have HT := Lib.hid (HT.out.below ((Below.refl _ _).alloc (Nat.le_refl _) (.cells #[.int .i64 n, .int .i64 s, .int .i64 k, .bool g] 30)) (by omega))
  have HB := Lib.hid (HB.out.alloc (by omega) (.cells #[.int .i64 n, .int .i64 s, .int .i64 k, .bool g] 30))
  have hz5 : w4.heap.size < (w4.alloc (.cells #[.int .i64 n, .int .i64 s, .int .i64 k, .bool g] 30)).heap.size := by simp
  go_upto_region 7 with (fail)
  generalize w4.alloc (.cells #[.int .i64 n, .int .i64 s, .int .i64 k, .bool g] 30) = w5 at *
  generalize w4.heap.size = b5 at *
  go_wp2_with fail
  refine Mono.region_below (by kernel_rfl) (by kernel_rfl) (by kernel_rfl) ?_
  refine Mono.rgl_val (v := ?v0) rfl Mono.rr (fun ρ a W hR hd hf => ?h0) ?_
  case h0 =>
    have e5 := Mono.init_get hf (t := 5) (by kernel_rfl)
    clear hd hf
    (go_simp; try with_reducible rfl)
  refine Mono.rgl_val (v := ?v1) rfl Mono.rr (fun ρ a W hR hd hf => ?h1) ?_
  case h1 =>
    have e37 := Mono.dep_val hd hf (t := 37) (k := 0) (by kernel_rfl) rfl
    clear hd hf
    (go_simp; try with_reducible rfl)
  refine Mono.rgl_val (v := ?v2) rfl Mono.rr (fun ρ a W hR hd hf => ?h2) ?_
  case h2 =>
    have e38 := Mono.dep_val hd hf (t := 38) (k := 1) (by kernel_rfl) rfl
    clear hd hf
    (go_simp; try with_reducible rfl)
  refine Mono.rgl_valg (v := ?v3) rfl Mono.rr (fun ρ W hd => Mono.guard_val hd (t := 39) (k := 2) (by kernel_rfl) rfl) (fun ρ a W hR hd hf => ?h3) ?_
  case h3 =>
    have e3 := Mono.init_get hf (t := 3) (by kernel_rfl)
    have hk0 := (HT.out.below hR (by omega) : Cells W _ _) 0 _ rfl
    have hk1 := (HT.out.below hR (by omega) : Cells W _ _) 1 _ rfl
    have hk2 := (HT.out.below hR (by omega) : Cells W _ _) 2 _ rfl
    have hk3 := (HT.out.below hR (by omega) : Cells W _ _) 3 _ rfl
    clear hd hf
    (go_simp; try with_reducible rfl)
  refine Mono.rgl_callg (fun x _ => x = .agg #[.int .i64 n, .int .i64 s, .int .i64 k, .bool g]) rfl Mono.rr (fun _ _ _ h _ => h) (fun ρ W hd => Mono.guard_val hd (t := 39) (k := 2) (by kernel_rfl) rfl) (fun ρ a W hR hd hf => ?h4) ?_
  case h4 =>
    have e40 := Mono.dep_val hd hf (t := 40) (k := 3) (by kernel_rfl) rfl
    clear hd hf
    refine ⟨_, _, by go_simp; first | rfl | exact ⟨rfl, rfl⟩, ?_⟩
    exact (ref_any n s k g W).mono (fun e W' ⟨he, hb⟩ => ⟨_, he, hb, rfl⟩)
  refine Mono.rgl_valg (v := ?v5) rfl Mono.rr (fun ρ W hd => Mono.guard_val hd (t := 39) (k := 2) (by kernel_rfl) rfl) (fun ρ a W hR hd hf => ?h5) ?_
  case h5 =>
    have e6 := Mono.init_get hf (t := 6) (by kernel_rfl)
    have hk0 := (HU.out.below hR (by omega) : Cells W _ _) 0 _ rfl
    have hk1 := (HU.out.below hR (by omega) : Cells W _ _) 1 _ rfl
    have hk2 := (HU.out.below hR (by omega) : Cells W _ _) 2 _ rfl
    have hk3 := (HU.out.below hR (by omega) : Cells W _ _) 3 _ rfl
    clear hd hf
    (go_simp; try with_reducible rfl)
  refine Mono.rgl_valg (v := .bool true) rfl Mono.rr (fun ρ W hd => Mono.guard_val hd (t := 39) (k := 2) (by kernel_rfl) rfl) (fun ρ a W hR hd hf => ?h6) ?_
  case h6 =>
    have e41 := Mono.dep_val hd hf (t := 41) (k := 4) (by kernel_rfl) rfl
    have e42 := Mono.dep_val hd hf (t := 42) (k := 5) (by kernel_rfl) rfl
    clear hd hf
    (go_simp)
  refine Mono.rgl_val (v := ?v7) rfl Mono.rr (fun ρ a W hR hd hf => ?h7) ?_
  case h7 =>
    have e39 := Mono.dep_val hd hf (t := 39) (k := 2) (by kernel_rfl) rfl
    have e43 := Mono.dep_val hd hf (t := 43) (k := 6) (by kernel_rfl) rfl
    clear hd hf
    (go_simp; try with_reducible rfl)
  refine Mono.rgl_val (v := ?v8) rfl Mono.rr (fun ρ a W hR hd hf => ?h8) ?_
  case h8 =>
    have e44 := Mono.dep_val hd hf (t := 44) (k := 7) (by kernel_rfl) rfl
    clear hd hf
    (go_simp; try with_reducible rfl)
  refine Mono.rgl_valg (v := ?v9) rfl Mono.rr (fun ρ W hd => Mono.guard_val hd (t := 45) (k := 8) (by kernel_rfl) rfl) (fun ρ a W hR hd hf => ?h9) ?_
  case h9 =>
    have e4 := Mono.init_get hf (t := 4) (by kernel_rfl)
    clear hd hf
    (go_simp; try with_reducible rfl)
  refine Mono.rgl_valg (v := ?v10) rfl Mono.rr (fun ρ W hd => Mono.guard_val hd (t := 45) (k := 8) (by kernel_rfl) rfl) (fun ρ a W hR hd hf => ?h10) ?_
  case h10 =>
    have e0 := Mono.init_get hf (t := 0) (by kernel_rfl)
    clear hd hf
    (go_simp; try with_reducible rfl)
  refine Mono.rgl_valg (v := ?v11) rfl Mono.rr (fun ρ W hd => Mono.guard_val hd (t := 45) (k := 8) (by kernel_rfl) rfl) (fun ρ a W hR hd hf => ?h11) ?_
  case h11 =>
    have e47 := Mono.dep_val hd hf (t := 47) (k := 10) (by kernel_rfl) rfl
    clear hd hf
    (go_simp; try with_reducible rfl)
  refine Mono.rgl_valg (v := ?v12) rfl Mono.rr (fun ρ W hd => Mono.guard_val hd (t := 45) (k := 8) (by kernel_rfl) rfl) (fun ρ a W hR hd hf => ?h12) ?_
  case h12 =>
    have e7 := Mono.init_get hf (t := 7) (by kernel_rfl)
    clear hd hf
    (go_simp; try with_reducible rfl)
  refine Mono.rgl_valg (v := ?v13) rfl Mono.rr (fun ρ W hd => Mono.guard_val hd (t := 45) (k := 8) (by kernel_rfl) rfl) (fun ρ a W hR hd hf => ?h13) ?_
  case h13 =>
    have e48 := Mono.dep_val hd hf (t := 48) (k := 11) (by kernel_rfl) rfl
    have e49 := Mono.dep_val hd hf (t := 49) (k := 12) (by kernel_rfl) rfl
    have hw := hwr
    clear hd hf
    (go_simp; try with_reducible rfl)
  refine Mono.rgl_valg (v := .bool true) rfl Mono.rr (fun ρ W hd => Mono.guard_val hd (t := 45) (k := 8) (by kernel_rfl) rfl) (fun ρ a W hR hd hf => ?h14) ?_
  case h14 =>
    have e46 := Mono.dep_val hd hf (t := 46) (k := 9) (by kernel_rfl) rfl
    have e50 := Mono.dep_val hd hf (t := 50) (k := 13) (by kernel_rfl) rfl
    clear hd hf
    (go_simp)
  refine Mono.rgl_val (v := ?v15) rfl Mono.rr (fun ρ a W hR hd hf => ?h15) ?_
  case h15 =>
    have e45 := Mono.dep_val hd hf (t := 45) (k := 8) (by kernel_rfl) rfl
    have e51 := Mono.dep_val hd hf (t := 51) (k := 14) (by kernel_rfl) rfl
    clear hd hf
    (go_simp; try with_reducible rfl)
  refine Mono.rgl_val (v := ?v16) rfl Mono.rr (fun ρ a W hR hd hf => ?h16) ?_
  case h16 =>
    have e52 := Mono.dep_val hd hf (t := 52) (k := 15) (by kernel_rfl) rfl
    clear hd hf
    (go_simp; try with_reducible rfl)
  refine Mono.rgl_done rfl (fun ρ W hR ht => ?_)
  obtain ⟨d16, d15, d14, d13, d12, d11, d10, d9, d8, d7, d6, d5, d4, d3, d2, d1, d0, _⟩ := ht
  simp only [List.length_cons, List.length_nil, Nat.reduceAdd] at d0 d1 d2 d3 d4 d5 d6 d7 d8 d9 d10 d11 d12 d13 d14 d15 d16
  simp only [Mono.putAll, Nat.reduceAdd, d0, d1, d2, d3, d4, d5, d6, d7, d8, d9, d10, d11, d12, d13, d14, d15, d16, Act.put, List.setIfInBounds_toArray, List.set_cons_zero, List.set_cons_succ]
  clear d0 d1 d2 d3 d4 d5 d6 d7 d8 d9 d10 d11 d12 d13 d14 d15 d16
  have HZ := Lib.hid (HB.out.trans (hR.mono (by omega)))
  clear hR
  go_wp2
  go_ret
  exact ⟨rfl, HZ.out⟩
set_option maxHeartbeats 400000 in
theorem reads_long (ad : Option Addr) (c len : Nat) (w : World) (hl : 1000 < len) : Calls Try.prog 4 #[.slice ad len c] w (lawQ w) := by
  have t0 : decide (1000 < (len : Int)) = true := by simp; omega
  go_enter Try.func4, Try.ntmps4
  go_wp2_with fail
  refine (awake_any _).mono ?_
  rintro e w1 ⟨rfl, hb⟩
  have HB := Lib.hid hb
  clear hb
  go_wp2
  go_ret
  exact ⟨rfl, HB.out⟩
theorem rd_drop (l : List UInt8) (p q n : Nat) : rd l (p + q) n = rd (l.drop p) q n := by unfold rd; rw [List.drop_drop]
theorem magic_narrow {l : List UInt8} {p : Nat} {n s k : Int} (h : l.drop p = tailBytes n s k false) : rd l p 4 = 101010256 := by
  have e : rd l p 4 = rd (l.drop p) 0 4 := rd_drop l p 0 4
  rw [e, h]
  have e2 : ((tailBytes n s k false).drop 0).take 4 = byt 4 101010256 := rfl
  unfold rd
  rw [e2, num_byt]
theorem drop_wide {l : List UInt8} (hl : 98 ≤ l.length) {n s k : Int} (h : l.drop (l.length - 98) = tailBytes n s k true) : l.drop (l.length - 22) = encN (narrowL 65535 4294967295 4294967295) := by
  have e : l.drop (l.length - 22) = (l.drop (l.length - 98)).drop 76 := by rw [List.drop_drop]; congr 1; omega
  rw [e, h]
  rfl
theorem magic_wide {l : List UInt8} (hl : 98 ≤ l.length) {n s k : Int} (h : l.drop (l.length - 98) = tailBytes n s k true) : rd l (l.length - 22) 4 = 101010256 ∧ rd l (l.length - 22 + 8) 2 = 65535 := by
  have e := drop_wide hl h
  have e1 : rd l (l.length - 22) 4 = rd (l.drop (l.length - 22)) 0 4 := rd_drop l _ 0 4
  rw [e1, rd_drop, e]
  exact ⟨by decide, by decide⟩
theorem wrap_cases (v : Nat) (hv : v < 18446744073709551616) : IntKind.i64.wrap (v : Int) = if v < 9223372036854775808 then (v : Int) else (v : Int) - 18446744073709551616 := by
  rw [IntKind.wrap_i64]
  split <;> omega
theorem tail_alike (a b d : Nat) (ha : a < 18446744073709551616) (hb : b < 18446744073709551616) (hd : d < 18446744073709551616) :
    tailB (IntKind.i64.wrap a) (IntKind.i64.wrap b) (IntKind.i64.wrap d) = tailB (tW a) (tW b) (tW d) ∧ (tailB (tW a) (tW b) (tW d) = true → IntKind.i64.wrap (a : Int) = tW a ∧ IntKind.i64.wrap (b : Int) = tW b ∧ IntKind.i64.wrap (d : Int) = tW d) := by
  have e : ∀ v : Nat, v < 18446744073709551616 → (v ≤ 4294967295 ∧ IntKind.i64.wrap (v : Int) = v ∧ tW v = v) ∨ ((IntKind.i64.wrap (v : Int) < 0 ∨ 4294967295 < IntKind.i64.wrap (v : Int)) ∧ (tW v < 0 ∨ 4294967295 < tW v)) := by
    intro v hv
    rw [wrap_cases v hv]
    unfold tW
    split <;> split <;> omega
  have ea := e a ha
  have eb := e b hb
  have ed := e d hd
  generalize IntKind.i64.wrap (a : Int) = x1 at *
  generalize IntKind.i64.wrap (b : Int) = x2 at *
  generalize IntKind.i64.wrap (d : Int) = x3 at *
  generalize tW a = y1 at *
  generalize tW b = y2 at *
  generalize tW d = y3 at *
  constructor
  · unfold tailB
    rw [Bool.eq_iff_iff, decide_eq_true_eq, decide_eq_true_eq]
    omega
  · intro h
    have h := of_decide_eq_true h
    omega
theorem reads_any (ad : Option Addr) (c : Nat) (l : List UInt8) (w : World) (h : Byt w w.heap.size (.slice ad l.length c) l) (hl : l.length ≤ 1000) (hc : l.length ≤ c) : Calls Try.prog 4 #[.slice ad l.length c] w (lawQ w) := by
  have hl5 : l.length ≤ 100000 := by omega
  by_cases hs : l.length < 22
  · exact reads_fail ad c l w h hl hc 4 (by decide) (fun W hw => parse_short ad c l W hw hl5 hc hs) (fun W hw => rparse_short ad c l W hw hl5 hc hs)
  have hs : 22 ≤ l.length := by omega
  by_cases hn : rd l (l.length - 22 + 8) 2 = 65535
  · by_cases hs2 : l.length < 98
    · have ht : tailB (rd l (l.length - 22 + 8) 2 : Nat) (rd l (l.length - 22 + 12) 4 : Nat) (rd l (l.length - 22 + 16) 4 : Nat) = false := by rw [hn]; exact tailB_no (by omega)
      by_cases hm : rd l (l.length - 22) 4 = 101010256
      · exact reads_fail ad c l w h hl hc 4 (by decide) (fun W hw => parse_wide_short ad c l W hw hl5 hc hs hs2 hm hn) (fun W hw => rparse_narrow_nob ad c l W hw hl5 hc hs hn hs2 ht)
      · exact reads_fail ad c l w h hl hc 30 (by decide) (fun W hw => parse_magic ad c l W hw hl5 hc hs hm) (fun W hw => rparse_narrow_nob ad c l W hw hl5 hc hs hn hs2 ht)
    · have hs2 : 98 ≤ l.length := by omega
      obtain ⟨e1, e2⟩ := tail_alike (rd l (l.length - 98 + 24) 8) (rd l (l.length - 98 + 40) 8) (rd l (l.length - 98 + 48) 8) (rd_lt _ _ _) (rd_lt _ _ _) (rd_lt _ _ _)
      cases ht : tailB (tW (rd l (l.length - 98 + 24) 8)) (tW (rd l (l.length - 98 + 40) 8)) (tW (rd l (l.length - 98 + 48) 8)) with
      | false =>
        by_cases hm : rd l (l.length - 22) 4 = 101010256
        · exact reads_fail ad c l w h hl hc 13 (by decide) (fun W hw => parse_wide_no ad c l W hw hl5 hc hs2 hm hn (e1.trans ht)) (fun W hw => rparse_wide_no ad c l W hw hl5 hc hs2 hn ht)
        · exact reads_fail ad c l w h hl hc 30 (by decide) (fun W hw => parse_magic ad c l W hw hl5 hc hs hm) (fun W hw => rparse_wide_no ad c l W hw hl5 hc hs2 hn ht)
      | true =>
        obtain ⟨q1, q2, q3⟩ := e2 ht
        by_cases hq : l.drop (l.length - 98) = tailBytes (tW (rd l (l.length - 98 + 24) 8)) (tW (rd l (l.length - 98 + 40) 8)) (tW (rd l (l.length - 98 + 48) 8)) true
        · have hm := (magic_wide hs2 hq).1
          refine reads_yes ad c l w h hl hc _ _ _ true 98 (by decide) hs2 (fun W hw => ?_) (fun W hw => rparse_wide_yes ad c l W hw hl5 hc hs2 hn ht hq)
          have := parse_wide_yes ad c l W hw hl5 hc hs2 hm hn (e1.trans ht) (by rw [q1, q2, q3]; exact decide_eq_true hq.symm)
          rw [q1, q2, q3] at this
          exact this
        · by_cases hm : rd l (l.length - 22) 4 = 101010256
          · exact reads_fail ad c l w h hl hc 39 (by decide) (fun W hw => parse_wide_neq ad c l W hw hl5 hc hs2 hm hn (e1.trans ht) (by rw [q1, q2, q3]; exact decide_eq_false (fun h => hq h.symm))) (fun W hw => rparse_wide_neq ad c l W hw hl5 hc hs2 hn ht hq)
          · exact reads_fail ad c l w h hl hc 30 (by decide) (fun W hw => parse_magic ad c l W hw hl5 hc hs hm) (fun W hw => rparse_wide_neq ad c l W hw hl5 hc hs2 hn ht hq)
  · cases ht : tailB (rd l (l.length - 22 + 8) 2 : Nat) (rd l (l.length - 22 + 12) 4 : Nat) (rd l (l.length - 22 + 16) 4 : Nat) with
    | false =>
      by_cases hm : rd l (l.length - 22) 4 = 101010256
      · exact reads_fail ad c l w h hl hc 13 (by decide) (fun W hw => parse_narrow_no ad c l W hw hl5 hc hs hm hn ht) (fun W hw => rparse_narrow_noa ad c l W hw hl5 hc hs hn ht)
      · exact reads_fail ad c l w h hl hc 30 (by decide) (fun W hw => parse_magic ad c l W hw hl5 hc hs hm) (fun W hw => rparse_narrow_noa ad c l W hw hl5 hc hs hn ht)
    | true =>
      by_cases hq : l.drop (l.length - 22) = tailBytes (rd l (l.length - 22 + 8) 2 : Nat) (rd l (l.length - 22 + 12) 4 : Nat) (rd l (l.length - 22 + 16) 4 : Nat) false
      · have hm := magic_narrow hq
        exact reads_yes ad c l w h hl hc _ _ _ false 22 (by decide) hs (fun W hw => parse_narrow_yes ad c l W hw hl5 hc hs hm hn ht (decide_eq_true hq.symm)) (fun W hw => rparse_narrow_yes ad c l W hw hl5 hc hs hn ht hq)
      · by_cases hm : rd l (l.length - 22) 4 = 101010256
        · exact reads_fail ad c l w h hl hc 39 (by decide) (fun W hw => parse_narrow_neq ad c l W hw hl5 hc hs hm hn ht (decide_eq_false (fun h => hq h.symm))) (fun W hw => rparse_narrow_neq ad c l W hw hl5 hc hs hn ht hq)
        · exact reads_fail ad c l w h hl hc 30 (by decide) (fun W hw => parse_magic ad c l W hw hl5 hc hs hm) (fun W hw => rparse_narrow_neq ad c l W hw hl5 hc hs hn ht hq)
theorem reads_walk (ad : Option Addr) (c : Nat) (l : List UInt8) (w : World) (h : Byt w w.heap.size (.slice ad l.length c) l) (hc : l.length ≤ c) : Calls Try.prog 4 #[.slice ad l.length c] w fun e w' => e = .returned (.bool true) ∧ Below w.heap.size w w' := by
  by_cases hl : l.length ≤ 1000
  · exact reads_any ad c l w h hl hc
  · exact reads_long ad c l.length w (by omega)
end Go.Proofs.Ytfdbgbdiacpmhaa
