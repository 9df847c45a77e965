/- Contracts of Encode and Decode, the program's and the page's. -/
import Derived.Test.YtcpojpgdjjmfbaaDoorDsC
import Derived.Laws.BitsAllLaws
namespace Go.Proofs.YtcpojpgdjjmfbaaDoor.Dos
set_option linter.unusedVariables false
set_option linter.unusedSimpArgs false
set_option maxRecDepth 100000
open Go.RowKit
theorem u16_div (a b : Int) (h0 : 0 ≤ a) (h1 : a ≤ 65535) (hb : 1 ≤ b) : IntKind.u16.wrap (a.tdiv b) = a / b := by
  rw [Int.tdiv_eq_ediv_of_nonneg h0, IntKind.wrap_u16]
  have h2 : a / b ≤ a := Int.ediv_le_self b h0
  have h3 : 0 ≤ a / b := Int.ediv_nonneg h0 (by omega)
  omega
theorem days_le (y m : Int) : 0 ≤ days y m ∧ days y m ≤ 31 := by
  unfold days
  split
  · omega
  · split
    · split <;> omega
    · split <;> omega
theorem right_elim {y m d h i s : Int} (h0 : rightB y m d h i s = true) : 1980 ≤ y ∧ y ≤ 2107 ∧ 1 ≤ m ∧ m ≤ 12 ∧ 1 ≤ d ∧ d ≤ days y m ∧ 0 ≤ h ∧ h ≤ 23 ∧ 0 ≤ i ∧ i ≤ 59 ∧ 0 ≤ s ∧ s ≤ 58 ∧ s % 2 = 0 := by
  unfold rightB wi at h0
  simp only [Bool.and_eq_true, decide_eq_true_eq, beq_iff_eq] at h0
  have e : s.tmod 2 = s % 2 := Int.tmod_eq_emod_of_nonneg (by omega)
  rw [e] at h0
  omega
def dateOf (y m d : Int) : Int := (y - 1980) * 512 + m * 32 + d
def clockOf (h i s : Int) : Int := h * 2048 + i * 32 + s / 2
set_option maxHeartbeats 1000000 in
theorem encode_yes (y m d h i s : Int) (w : World) (h0 : rightB y m d h i s = true) : Calls Tryd.prog 25 #[.agg #[.int .i64 y, .int .i64 m, .int .i64 d, .int .i64 h, .int .i64 i, .int .i64 s]] w fun e w' => e = .returned (.tuple #[.int .u16 (dateOf y m d), .int .u16 (clockOf h i s), .int .i64 0]) ∧ Below w.heap.size w w' := by
  obtain ⟨a1, a2, a3, a4, a5, a6, a7, a8, a9, a10, a11, a12, a13⟩ := right_elim h0
  have hdl := days_le y m
  have HR := Lib.hid (fun W => right_any y m d h i s W)
  rw [h0] at HR
  have A13 := Lib.hid a13
  clear h0 a13
  go_enter Tryd.func25, Tryd.ntmps25
  go_wp2_with fail
  refine (HR.out _).mono ?_
  rintro e w1 ⟨rfl, hb⟩
  have hs := hb.size
  simp only [World.size_alloc] at hs
  have hc : ∀ j v, #[Value.int .i64 y, .int .i64 m, .int .i64 d, .int .i64 h, .int .i64 i, .int .i64 s][j]? = some v → w1.cell? ⟨w.heap.size, j, none⟩ = some v := by
    intro j v hj
    rw [hb.cell (p := ⟨w.heap.size, j, none⟩) (by simp), World.cell?_alloc_at _ _ _ _ rfl]; exact hj
  have c0 := hc 0 _ rfl
  have c1 := hc 1 _ rfl
  have c2 := hc 2 _ rfl
  have c3 := hc 3 _ rfl
  have c4 := hc 4 _ rfl
  have c5 := hc 5 _ rfl
  have HB := Lib.hid (((Below.refl _ _).alloc (Nat.le_refl _) _).trans (hb.mono (by simp)) : Below w.heap.size w w1)
  clear hc hb
  go_wp2
  go_ret3
  refine ⟨?_, HB.out⟩
  simp [dateOf, clockOf]
set_option maxHeartbeats 1000000 in
theorem encode_no (y m d h i s : Int) (w : World) (h0 : rightB y m d h i s = false) : Calls Tryd.prog 25 #[.agg #[.int .i64 y, .int .i64 m, .int .i64 d, .int .i64 h, .int .i64 i, .int .i64 s]] w fun e w' => e = .returned (.tuple #[.int .u16 0, .int .u16 0, .int .i64 34]) ∧ Below w.heap.size w w' := by
  have HR := Lib.hid (fun W => right_any y m d h i s W)
  rw [h0] at HR
  clear h0
  go_enter Tryd.func25, Tryd.ntmps25
  go_wp2_with fail
  refine (HR.out _).mono ?_
  rintro e w1 ⟨rfl, hb⟩
  have HB := Lib.hid (((Below.refl _ _).alloc (Nat.le_refl _) _).trans (hb.mono (by simp)) : Below w.heap.size w w1)
  clear hb
  go_wp2
  go_ret3
  exact ⟨rfl, HB.out⟩
set_option maxHeartbeats 1000000 in
theorem refEncode_any (y m d h i s : Int) (w : World) (h0 : rightB y m d h i s = true) : Calls Tryd.prog 30 #[.agg #[.int .i64 y, .int .i64 m, .int .i64 d, .int .i64 h, .int .i64 i, .int .i64 s]] w fun e w' => e = .returned (.tuple #[.int .i64 (dateOf y m d), .int .i64 (clockOf h i s)]) ∧ Below w.heap.size w w' := by
  obtain ⟨a1, a2, a3, a4, a5, a6, a7, a8, a9, a10, a11, a12, a13⟩ := right_elim h0
  have hdl := days_le y m
  have e1 : dateOf y m d = (y - 1980) * 512 + m * 32 + d := rfl
  have e2 : clockOf h i s = h * 2048 + i * 32 + s / 2 := rfl
  have E1 := Lib.hid e1
  have E2 := Lib.hid e2
  have A13 := Lib.hid a13
  clear h0 a13 e1 e2
  go_enter Tryd.func30, Tryd.ntmps30
  go_wp2
  go_quiet (fail)
  go_wp2
  go_ret2
  refine ⟨?_, ⟨rfl, rfl, rfl, by simp [World.drewN], fun k hk => Below.heap_alloc _ _ _ hk⟩⟩
  rw [E1.out, E2.out]
  simp
set_option maxHeartbeats 1000000 in
theorem decode_yes (D C : Int) (w : World) (hD0 : 0 ≤ D) (hD1 : D ≤ 65535) (hC0 : 0 ≤ C) (hC1 : C ≤ 65535) (h0 : rightB (1980 + D / 512) (D / 32 % 16) (D % 32) (C / 2048) (C / 32 % 64) (C % 32 * 2) = true) : Calls Tryd.prog 60 #[.int .u16 D, .int .u16 C] w fun e w' => e = .returned (.tuple #[.agg #[.int .i64 (1980 + D / 512), .int .i64 (D / 32 % 16), .int .i64 (D % 32), .int .i64 (C / 2048), .int .i64 (C / 32 % 64), .int .i64 (C % 32 * 2)], .int .i64 0]) ∧ Below w.heap.size w w' := by
  have HR := Lib.hid (fun W => right_any (1980 + D / 512) (D / 32 % 16) (D % 32) (C / 2048) (C / 32 % 64) (C % 32 * 2) W)
  rw [h0] at HR
  clear h0
  have q1 := u16_div D 512 hD0 hD1 (by omega)
  have q2 := u16_div D 32 hD0 hD1 (by omega)
  have q3 := u16_div C 2048 hC0 hC1 (by omega)
  have q4 := u16_div C 32 hC0 hC1 (by omega)
  go_enter Tryd.func60, Tryd.ntmps60
  go_wp2_with fail
  refine (HR.out _).mono ?_
  rintro e w1 ⟨rfl, hb⟩
  have hs := hb.size
  simp only [World.size_alloc] at hs
  have hz : ∀ j v, #[Value.int .i64 0, .int .i64 0, .int .i64 0, .int .i64 0, .int .i64 0, .int .i64 0][j]? = some v → w1.cell? ⟨w.heap.size, j, none⟩ = some v := by
    intro j v hj
    rw [hb.cell (p := ⟨w.heap.size, j, none⟩) (by simp; omega), World.cell?_alloc_past _ _ _ (by simp), World.cell?_alloc_at _ _ _ _ rfl]; exact hj
  have hc : ∀ j v, #[Value.int .i64 (1980 + D / 512), .int .i64 (D / 32 % 16), .int .i64 (D % 32), .int .i64 (C / 2048), .int .i64 (C / 32 % 64), .int .i64 (C % 32 * 2)][j]? = some v → w1.cell? ⟨w.heap.size + 1, j, none⟩ = some v := by
    intro j v hj
    rw [hb.cell (p := ⟨w.heap.size + 1, j, none⟩) (by simp), World.cell?_alloc_at _ _ _ _ (by simp)]; exact hj
  have hf : ∀ j, w1.frozen? ⟨w.heap.size, j, none⟩ = false := by
    intro j
    rw [hb.frozen (p := ⟨w.heap.size, j, none⟩) (by simp; omega), World.frozen?_alloc_past _ _ _ (by simp), World.frozen?_alloc_at _ _ _ _ rfl]
  have z0 := hz 0 _ rfl
  have z1 := hz 1 _ rfl
  have z2 := hz 2 _ rfl
  have z3 := hz 3 _ rfl
  have z4 := hz 4 _ rfl
  have z5 := hz 5 _ rfl
  have c0 := hc 0 _ rfl
  have c1 := hc 1 _ rfl
  have c2 := hc 2 _ rfl
  have c3 := hc 3 _ rfl
  have c4 := hc 4 _ rfl
  have c5 := hc 5 _ rfl
  have HB := Lib.hid ((((Below.refl _ _).alloc (Nat.le_refl _) _).alloc (by simp) _).trans (hb.mono (by simp; omega)) : Below w.heap.size w w1)
  clear hc hz hb
  go_wp2
  refine bodyPost_ret (v := .tuple #[.agg #[.int .i64 (1980 + D / 512), .int .i64 (D / 32 % 16), .int .i64 (D % 32), .int .i64 (C / 2048), .int .i64 (C / 32 % 64), .int .i64 (C % 32 * 2)], .int .i64 0]) (by simp [results, Tryd.results60, go_sem, z0, z1, z2, z3, z4, z5]) rfl ⟨rfl, ?_⟩
  exact (((((HB.out.setCell (by simp) _).setCell (by simp) _).setCell (by simp) _).setCell (by simp) _).setCell (by simp) _).setCell (by simp) _
set_option maxHeartbeats 1000000 in
theorem decode_no (D C : Int) (w : World) (hD0 : 0 ≤ D) (hD1 : D ≤ 65535) (hC0 : 0 ≤ C) (hC1 : C ≤ 65535) (h0 : rightB (1980 + D / 512) (D / 32 % 16) (D % 32) (C / 2048) (C / 32 % 64) (C % 32 * 2) = false) : Calls Tryd.prog 60 #[.int .u16 D, .int .u16 C] w fun e w' => e = .returned (.tuple #[.agg #[.int .i64 0, .int .i64 0, .int .i64 0, .int .i64 0, .int .i64 0, .int .i64 0], .int .i64 34]) ∧ Below w.heap.size w w' := by
  have HR := Lib.hid (fun W => right_any (1980 + D / 512) (D / 32 % 16) (D % 32) (C / 2048) (C / 32 % 64) (C % 32 * 2) W)
  rw [h0] at HR
  clear h0
  have q1 := u16_div D 512 hD0 hD1 (by omega)
  have q2 := u16_div D 32 hD0 hD1 (by omega)
  have q3 := u16_div C 2048 hC0 hC1 (by omega)
  have q4 := u16_div C 32 hC0 hC1 (by omega)
  go_enter Tryd.func60, Tryd.ntmps60
  go_wp2_with fail
  refine (HR.out _).mono ?_
  rintro e w1 ⟨rfl, hb⟩
  have hs := hb.size
  simp only [World.size_alloc] at hs
  have hz : ∀ j v, #[Value.int .i64 0, .int .i64 0, .int .i64 0, .int .i64 0, .int .i64 0, .int .i64 0][j]? = some v → w1.cell? ⟨w.heap.size, j, none⟩ = some v := by
    intro j v hj
    rw [hb.cell (p := ⟨w.heap.size, j, none⟩) (by simp; omega), World.cell?_alloc_past _ _ _ (by simp), World.cell?_alloc_at _ _ _ _ rfl]; exact hj
  have hc : ∀ j v, #[Value.int .i64 (1980 + D / 512), .int .i64 (D / 32 % 16), .int .i64 (D % 32), .int .i64 (C / 2048), .int .i64 (C / 32 % 64), .int .i64 (C % 32 * 2)][j]? = some v → w1.cell? ⟨w.heap.size + 1, j, none⟩ = some v := by
    intro j v hj
    rw [hb.cell (p := ⟨w.heap.size + 1, j, none⟩) (by simp), World.cell?_alloc_at _ _ _ _ (by simp)]; exact hj
  have hf : ∀ j, w1.frozen? ⟨w.heap.size, j, none⟩ = false := by
    intro j
    rw [hb.frozen (p := ⟨w.heap.size, j, none⟩) (by simp; omega), World.frozen?_alloc_past _ _ _ (by simp), World.frozen?_alloc_at _ _ _ _ rfl]
  have z0 := hz 0 _ rfl
  have z1 := hz 1 _ rfl
  have z2 := hz 2 _ rfl
  have z3 := hz 3 _ rfl
  have z4 := hz 4 _ rfl
  have z5 := hz 5 _ rfl
  have c0 := hc 0 _ rfl
  have c1 := hc 1 _ rfl
  have c2 := hc 2 _ rfl
  have c3 := hc 3 _ rfl
  have c4 := hc 4 _ rfl
  have c5 := hc 5 _ rfl
  have HB := Lib.hid ((((Below.refl _ _).alloc (Nat.le_refl _) _).alloc (by simp) _).trans (hb.mono (by simp; omega)) : Below w.heap.size w w1)
  clear hc hz hb
  go_wp2
  refine bodyPost_ret (v := .tuple #[.agg #[.int .i64 0, .int .i64 0, .int .i64 0, .int .i64 0, .int .i64 0, .int .i64 0], .int .i64 34]) (by simp [results, Tryd.results60, go_sem, z0, z1, z2, z3, z4, z5]) rfl ⟨rfl, ?_⟩
  exact (((((HB.out.setCell (by simp) _).setCell (by simp) _).setCell (by simp) _).setCell (by simp) _).setCell (by simp) _).setCell (by simp) _
set_option maxHeartbeats 1000000 in
theorem refDecode_yes (D C : Int) (w : World) (hD0 : 0 ≤ D) (hD1 : D ≤ 70000) (hC0 : 0 ≤ C) (hC1 : C ≤ 70000) (h0 : rightB (1980 + D / 512) (D / 32 % 16) (D % 32) (C / 2048) (C / 32 % 64) (C % 32 * 2) = true) : Calls Tryd.prog 35 #[.int .i64 D, .int .i64 C] w fun e w' => e = .returned (.tuple #[.agg #[.int .i64 (1980 + D / 512), .int .i64 (D / 32 % 16), .int .i64 (D % 32), .int .i64 (C / 2048), .int .i64 (C / 32 % 64), .int .i64 (C % 32 * 2)], .bool true]) ∧ Below w.heap.size w w' := by
  have HR := Lib.hid (fun W => refRight_any (1980 + D / 512) (D / 32 % 16) (D % 32) (C / 2048) (C / 32 % 64) (C % 32 * 2) W)
  rw [h0] at HR
  clear h0
  go_enter Tryd.func35, Tryd.ntmps35
  go_wp2_with fail
  refine (HR.out _).mono ?_
  rintro e w1 ⟨rfl, hb⟩
  have hs := hb.size
  simp only [World.size_alloc] at hs
  have hz : ∀ j v, #[Value.int .i64 0, .int .i64 0, .int .i64 0, .int .i64 0, .int .i64 0, .int .i64 0][j]? = some v → w1.cell? ⟨w.heap.size, j, none⟩ = some v := by
    intro j v hj
    rw [hb.cell (p := ⟨w.heap.size, j, none⟩) (by simp; omega), World.cell?_alloc_past _ _ _ (by simp), World.cell?_alloc_at _ _ _ _ rfl]; exact hj
  have hc : ∀ j v, #[Value.int .i64 (1980 + D / 512), .int .i64 (D / 32 % 16), .int .i64 (D % 32), .int .i64 (C / 2048), .int .i64 (C / 32 % 64), .int .i64 (C % 32 * 2)][j]? = some v → w1.cell? ⟨w.heap.size + 1, j, none⟩ = some v := by
    intro j v hj
    rw [hb.cell (p := ⟨w.heap.size + 1, j, none⟩) (by simp), World.cell?_alloc_at _ _ _ _ (by simp)]; exact hj
  have hf : ∀ j, w1.frozen? ⟨w.heap.size, j, none⟩ = false := by
    intro j
    rw [hb.frozen (p := ⟨w.heap.size, j, none⟩) (by simp; omega), World.frozen?_alloc_past _ _ _ (by simp), World.frozen?_alloc_at _ _ _ _ rfl]
  have z0 := hz 0 _ rfl
  have z1 := hz 1 _ rfl
  have z2 := hz 2 _ rfl
  have z3 := hz 3 _ rfl
  have z4 := hz 4 _ rfl
  have z5 := hz 5 _ rfl
  have c0 := hc 0 _ rfl
  have c1 := hc 1 _ rfl
  have c2 := hc 2 _ rfl
  have c3 := hc 3 _ rfl
  have c4 := hc 4 _ rfl
  have c5 := hc 5 _ rfl
  have HB := Lib.hid ((((Below.refl _ _).alloc (Nat.le_refl _) _).alloc (by simp) _).trans (hb.mono (by simp; omega)) : Below w.heap.size w w1)
  clear hc hz hb
  go_wp2
  refine bodyPost_ret (v := .tuple #[.agg #[.int .i64 (1980 + D / 512), .int .i64 (D / 32 % 16), .int .i64 (D % 32), .int .i64 (C / 2048), .int .i64 (C / 32 % 64), .int .i64 (C % 32 * 2)], .bool true]) (by simp [results, Tryd.results35, go_sem, z0, z1, z2, z3, z4, z5]) rfl ⟨rfl, ?_⟩
  exact (((((HB.out.setCell (by simp) _).setCell (by simp) _).setCell (by simp) _).setCell (by simp) _).setCell (by simp) _).setCell (by simp) _
set_option maxHeartbeats 1000000 in
theorem refDecode_no (D C : Int) (w : World) (hD0 : 0 ≤ D) (hD1 : D ≤ 70000) (hC0 : 0 ≤ C) (hC1 : C ≤ 70000) (h0 : rightB (1980 + D / 512) (D / 32 % 16) (D % 32) (C / 2048) (C / 32 % 64) (C % 32 * 2) = false) : Calls Tryd.prog 35 #[.int .i64 D, .int .i64 C] w fun e w' => e = .returned (.tuple #[.agg #[.int .i64 0, .int .i64 0, .int .i64 0, .int .i64 0, .int .i64 0, .int .i64 0], .bool false]) ∧ Below w.heap.size w w' := by
  have HR := Lib.hid (fun W => refRight_any (1980 + D / 512) (D / 32 % 16) (D % 32) (C / 2048) (C / 32 % 64) (C % 32 * 2) W)
  rw [h0] at HR
  clear h0
  go_enter Tryd.func35, Tryd.ntmps35
  go_wp2_with fail
  refine (HR.out _).mono ?_
  rintro e w1 ⟨rfl, hb⟩
  have hs := hb.size
  simp only [World.size_alloc] at hs
  have hz : ∀ j v, #[Value.int .i64 0, .int .i64 0, .int .i64 0, .int .i64 0, .int .i64 0, .int .i64 0][j]? = some v → w1.cell? ⟨w.heap.size, j, none⟩ = some v := by
    intro j v hj
    rw [hb.cell (p := ⟨w.heap.size, j, none⟩) (by simp; omega), World.cell?_alloc_past _ _ _ (by simp), World.cell?_alloc_at _ _ _ _ rfl]; exact hj
  have hc : ∀ j v, #[Value.int .i64 (1980 + D / 512), .int .i64 (D / 32 % 16), .int .i64 (D % 32), .int .i64 (C / 2048), .int .i64 (C / 32 % 64), .int .i64 (C % 32 * 2)][j]? = some v → w1.cell? ⟨w.heap.size + 1, j, none⟩ = some v := by
    intro j v hj
    rw [hb.cell (p := ⟨w.heap.size + 1, j, none⟩) (by simp), World.cell?_alloc_at _ _ _ _ (by simp)]; exact hj
  have hf : ∀ j, w1.frozen? ⟨w.heap.size, j, none⟩ = false := by
    intro j
    rw [hb.frozen (p := ⟨w.heap.size, j, none⟩) (by simp; omega), World.frozen?_alloc_past _ _ _ (by simp), World.frozen?_alloc_at _ _ _ _ rfl]
  have z0 := hz 0 _ rfl
  have z1 := hz 1 _ rfl
  have z2 := hz 2 _ rfl
  have z3 := hz 3 _ rfl
  have z4 := hz 4 _ rfl
  have z5 := hz 5 _ rfl
  have c0 := hc 0 _ rfl
  have c1 := hc 1 _ rfl
  have c2 := hc 2 _ rfl
  have c3 := hc 3 _ rfl
  have c4 := hc 4 _ rfl
  have c5 := hc 5 _ rfl
  have HB := Lib.hid ((((Below.refl _ _).alloc (Nat.le_refl _) _).alloc (by simp) _).trans (hb.mono (by simp; omega)) : Below w.heap.size w w1)
  clear hc hz hb
  go_wp2
  refine bodyPost_ret (v := .tuple #[.agg #[.int .i64 0, .int .i64 0, .int .i64 0, .int .i64 0, .int .i64 0, .int .i64 0], .bool false]) (by simp [results, Tryd.results35, go_sem, z0, z1, z2, z3, z4, z5]) rfl ⟨rfl, ?_⟩
  exact (((((HB.out.setCell (by simp) _).setCell (by simp) _).setCell (by simp) _).setCell (by simp) _).setCell (by simp) _).setCell (by simp) _
end Go.Proofs.YtcpojpgdjjmfbaaDoor.Dos
