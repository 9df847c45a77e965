/- The document's bytes of spans; Same. -/
import Derived.Test.YtfnaoekkdgndkaaCpM
namespace Go.Proofs.Ytfnaoekkdgndkaa
set_option maxRecDepth 100000
set_option linter.unusedVariables false
set_option linter.unusedSimpArgs false
open Go.RowKit
def inC (x : Nat) : List Value := [.int .i64 (x : Nat)]
theorem inC_len (x : Nat) : (inC x).length = 1 := rfl
def btsN (a k : Nat) : List Nat := (List.range k).map (a + ·)
theorem btsN_succ (a k : Nat) : btsN a (k + 1) = btsN a k ++ [a + k] := by unfold btsN; rw [List.range_succ, List.map_append]; rfl
theorem btsN_len (a k : Nat) : (btsN a k).length = k := by unfold btsN; simp
theorem take_len_le (l : List Sp) (j : Nat) : (bytes (l.take j)).length ≤ (bytes l).length := by
  conv => rhs; rw [← List.take_append_drop j l]
  rw [bytes_app, List.length_append]
  omega
set_option maxHeartbeats 8000000 in
theorem rplaces_any (l : List Sp) (v : Value) (B : Nat) (w : World) (h : Sl w B 2 v l.length (lc spC l)) (hB : B ≤ w.heap.size) (hn : l.length ≤ 100000) (hbd : BdS l) (hby : (bytes l).length ≤ 1000000) :
    Calls Try.prog 15 #[v] w fun e w' => ∃ v', e = .returned v' ∧ Row w.heap.size 3 1 w' v' (bytes l).length (lc inC (bytes l)) ∧ Below w.heap.size w w' := by
  obtain ⟨a, cap, rfl, hcap⟩ := h.form
  have HS := Lib.hid (fun (W : World) (hW : Below w.heap.size w W) => h.below (hW.mono hB))
  have HBD := Lib.hid hbd
  have HBY := Lib.hid hby
  obtain ⟨n, hn0⟩ : ∃ z, l.length = z := ⟨_, rfl⟩
  rw [hn0] at HS hcap hn ⊢
  have HN0 := Lib.hid hn0
  clear h hbd hn0 hby
  go_enter Try.func15, Try.ntmps15
  go_wp2_with (fail)
  go_loopw [3, 4] (fun x i wr => ∃ (j : Nat), i = .int .i64 j ∧ j ≤ n ∧ Hid (Row w.heap.size 3 1 wr x (bytes (l.take j)).length (lc inC (bytes (l.take j)))) ∧ Hid (Below w.heap.size w wr)) (fun _ i _ => n - (intOf i).toNat)
  case atStart => exact ⟨0, rfl, Nat.zero_le _, Lib.hid Row.nil, Lib.hid (Below.refl _ _)⟩
  case round =>
    obtain ⟨j, rfl, hj, HR, HB⟩ := hrel
    obtain ⟨wo, rfl⟩ : ∃ z : World, z = wr := ⟨_, rfl⟩
    obtain ⟨xa, xc, rfl, _⟩ := HR.out.form
    by_cases hlt : j < n
    rotate_left
    · have d1 : decide (j < n) = false := decide_eq_false hlt
      have d2 : decide ((j : Int) < (n : Int)) = false := decide_eq_false (by omega)
      obtain rfl : j = n := by omega
      go_wp2_with (fail)
      go_ret
      refine ⟨_, rfl, ?_, HB.out⟩
      have := HR.out
      have e : l.take j = l := List.take_of_length_le (by rw [HN0.out]; exact Nat.le_refl _)
      rw [e] at this
      rw [e]
      exact this
    have d1 : decide (j < n) = true := decide_eq_true hlt
    have d2 : decide ((j : Int) < (n : Int)) = true := decide_eq_true (by omega)
    have q1 : IntKind.i64.wrap ((j : Int) + 1) = (j : Int) + 1 := IntWalk.i64_in _ (by omega)
    have hbi : (j : Int) < (n : Int) := by omega
    obtain ⟨b, off, rfl, _⟩ := sl_cells (HS.out wo HB.out) (by omega)
    obtain ⟨x, hx⟩ : ∃ x, l[j]? = some x := ⟨_, List.getElem?_eq_getElem (by rw [HN0.out]; exact hlt)⟩
    have kx := fun (W : World) (hW : Below w.heap.size w W) => sp_cells (HS.out W hW) HN0.out.symm hx
    have hxb := HBD.out x (List.mem_of_getElem? hx)
    have hjs : bytes (l.take (j + 1)) = bytes (l.take j) ++ bts x := by rw [List.take_add_one, hx, bytes_app]; exact congrArg _ (bytes_one x)
    have hlj : (bytes (l.take j)).length + x.2 ≤ 1000000 := by
      have h1 := take_len_le l (j + 1)
      rw [hjs, List.length_append, bts_len] at h1
      have := HBY.out
      omega
    obtain ⟨x1, x2⟩ := x
    simp only at kx hxb hlj
    have KX := Lib.hid kx
    have HJS := Lib.hid hjs
    clear kx hx hjs
    obtain ⟨S, hS⟩ : ∃ z, (bytes (l.take j)).length = z := ⟨_, rfl⟩
    rw [hS] at HR hlj ⊢
    have HSS := Lib.hid hS
    clear hS
    go_wp2_with (fail)
    go_loopw [3, 5] (fun x i wr => ∃ (k : Nat), i = .int .i64 k ∧ k ≤ x2 ∧ Hid (Row w.heap.size 3 1 wr x (S + k) (lc inC (bytes (l.take j) ++ btsN x1 k))) ∧ Hid (Below w.heap.size w wr)) (fun _ i _ => x2 - (intOf i).toNat)
    case atStart => exact ⟨0, rfl, Nat.zero_le _, Lib.hid (by have := HR.out; unfold btsN; simpa using this), HB⟩
    case round =>
      clear HR HB
      obtain ⟨k, rfl, hk, HR, HB⟩ := hrel
      obtain ⟨w2, rfl⟩ : ∃ z : World, z = wr := ⟨_, rfl⟩
      obtain ⟨ya, yc, rfl, _⟩ := HR.out.form
      obtain ⟨k0, k1⟩ := KX.out w2 HB.out
      by_cases hkx : k < x2
      rotate_left
      · have d3 : decide (k < x2) = false := decide_eq_false hkx
        have d4 : decide ((k : Int) < (x2 : Int)) = false := decide_eq_false (by omega)
        obtain rfl : k = x2 := by omega
        have HRJ : Hid (Row w.heap.size 3 1 w2 (.slice ya (S + k) yc) (bytes (l.take (j + 1))).length (lc inC (bytes (l.take (j + 1))))) := Lib.hid (by rw [HJS.out, List.length_append, HSS.out, bts_len]; exact HR.out)
        clear hkx
        go_wp2_with (fail)
        go_roundw
        case rel => exact ⟨j + 1, rfl, hlt, HRJ, HB⟩
        case measure => simp [intOf] <;> omega
      have d3 : decide (k < x2) = true := decide_eq_true hkx
      have d4 : decide ((k : Int) < (x2 : Int)) = true := decide_eq_true (by omega)
      have q2 : IntKind.i64.wrap ((k : Int) + 1) = (k : Int) + 1 := IntWalk.i64_in _ (by omega)
      have q3 : IntKind.i64.wrap ((x1 : Int) + (k : Int)) = ((x1 + k : Nat) : Int) := by rw [IntWalk.i64_in _ (by omega)]; omega
      obtain ⟨Z, hZ⟩ : ∃ z, x1 + k = z := ⟨_, rfl⟩
      rw [hZ] at q3
      have HZ := Lib.hid hZ
      clear hZ
      obtain ⟨wx, hwx⟩ : ∃ z : World, z = w2.alloc (.cells #[.int .i64 (Z : Nat)] 3) := ⟨_, rfl⟩
      have hbx : Below w2.heap.size w2 wx := by rw [hwx]; exact (Below.refl _ _).alloc (Nat.le_refl _) _
      have HSX : Hid (Sl wx (w2.heap.size + 1) 1 (.slice (some ⟨w2.heap.size, 0, none⟩) 1 1) 1 [.int .i64 (Z : Nat)]) := Lib.hid (by rw [hwx]; exact Sl.new w2 1 1 _ 3 rfl)
      have HON : Hid (∀ u ∈ ([.int .i64 (Z : Nat)] : List Value), u.oneCell' = true) := Lib.hid (by intro u hu; simp at hu; subst hu; rfl)
      have HRX := Lib.hid (HR.out.below hbx)
      have HBX := Lib.hid (HB.out.trans (hbx.mono HB.out.size))
      have HZX := Lib.hid HBX.out.size
      have HWX := Lib.hid hwx
      clear hbx hwx
      go_wp2_with (at_builtin; rw [← HWX.out]; refine append_row (base := w.heap.size) (size := 1) (xs := lc inC (bytes (l.take j) ++ btsN x1 k)) Try.underlying49 info_in rfl (by decide) rfl _ _ rfl rfl HRX.out rfl HSX.out HON.out ?_ ?_ ?_ ?_; omega; omega; exact HZX.out)
      intro v3 w3 hr3 hb3
      have HR3 : Hid (Row w.heap.size 3 1 w3 v3 (S + (k + 1)) (lc inC (bytes (l.take j) ++ btsN x1 (k + 1)))) := Lib.hid (by rw [btsN_succ, HZ.out, ← List.append_assoc, lc_app, lc_one]; exact hr3)
      have HB3 := Lib.hid (HBX.out.trans hb3)
      clear hr3 hb3 k0 k1
      go_wp2_with (fail)
      go_roundw
      case rel => exact ⟨k + 1, rfl, hkx, HR3, HB3⟩
      case measure => simp [intOf] <;> omega
set_option maxHeartbeats 8000000 in
theorem same_any (l : List Sp) (u v : Value) (B : Nat) (w : World) (h1 : Sl w B 2 u l.length (lc spC l)) (h2 : Sl w B 2 v l.length (lc spC l)) (hB : B ≤ w.heap.size) (hn : l.length ≤ 100000) :
    Calls Try.prog 11 #[u, v] w fun e w' => e = .returned (.bool true) ∧ Below w.heap.size w w' := by
  obtain ⟨a, cap, rfl, hcap⟩ := h1.form
  obtain ⟨a2, cap2, rfl, hcap2⟩ := h2.form
  have HS := Lib.hid (fun (W : World) (hW : Below w.heap.size w W) => h1.below (hW.mono hB))
  have HS2 := Lib.hid (fun (W : World) (hW : Below w.heap.size w W) => h2.below (hW.mono hB))
  obtain ⟨n, hn0⟩ : ∃ z, l.length = z := ⟨_, rfl⟩
  rw [hn0] at HS HS2 hcap hcap2 hn ⊢
  have HN0 := Lib.hid hn0
  clear h1 h2 hn0
  have dn : ((n : Int) != (n : Int)) = false := by simp
  have dn2 : (n != n) = false := by simp
  go_enter Try.func11, Try.ntmps11
  go_wp2_with (fail)
  go_loopw [5] (fun i wr => ∃ (j : Nat), i = .int .i64 j ∧ j ≤ n ∧ Hid (Below w.heap.size w wr)) (fun i _ => n - (intOf i).toNat)
  case atStart => exact ⟨0, rfl, Nat.zero_le _, Lib.hid (Below.refl _ _)⟩
  case round =>
    obtain ⟨j, rfl, hj, HB⟩ := hrel
    obtain ⟨wo, rfl⟩ : ∃ z : World, z = wr := ⟨_, rfl⟩
    by_cases hlt : j < n
    rotate_left
    · have d1 : decide (j < n) = false := decide_eq_false hlt
      have d2 : decide ((j : Int) < (n : Int)) = false := decide_eq_false (by omega)
      obtain rfl : j = n := by omega
      go_wp2_with (fail)
      go_ret
      exact ⟨by rfl, HB.out⟩
    have d1 : decide (j < n) = true := decide_eq_true hlt
    have d2 : decide ((j : Int) < (n : Int)) = true := decide_eq_true (by omega)
    have q1 : IntKind.i64.wrap ((j : Int) + 1) = (j : Int) + 1 := IntWalk.i64_in _ (by omega)
    have hbi : (j : Int) < (n : Int) := by omega
    obtain ⟨b, off, rfl, _⟩ := sl_cells (HS.out wo HB.out) (by omega)
    obtain ⟨b2, off2, rfl, _⟩ := sl_cells (HS2.out wo HB.out) (by omega)
    obtain ⟨x, hx⟩ : ∃ x, l[j]? = some x := ⟨_, List.getElem?_eq_getElem (by rw [HN0.out]; exact hlt)⟩
    have K1 := Lib.hid (fun (W : World) (hW : Below w.heap.size w W) => sp_cells (HS.out W hW) HN0.out.symm hx)
    have K2 := Lib.hid (fun (W : World) (hW : Below w.heap.size w W) => sp_cells (HS2.out W hW) HN0.out.symm hx)
    clear hx
    obtain ⟨x1, x2⟩ := x
    simp only at K1 K2
    have HZ := Lib.hid HB.out.size
    have e1 : ((x1 : Int) != (x1 : Int)) = false := by simp
    have e2 : ((x2 : Int) != (x2 : Int)) = false := by simp
    have e3 : (x1 != x1) = false := by simp
    have e4 : (x2 != x2) = false := by simp
    go_upto_region 6 with (fail)
    refine Mono.region_below (by kernel_rfl) (by kernel_rfl) (by kernel_rfl) ?_
    refine Mono.rgl_val (v := ?vs0) rfl Mono.rr (fun ρ a W hR hd hf => ?hs0) ?_
    case hs0 =>
      have e0 := Mono.init_get hf (t := 0) (by kernel_rfl)
      clear hd hf
      (go_simp; try with_reducible rfl)
    refine Mono.rgl_val (v := ?vs1) rfl Mono.rr (fun ρ a W hR hd hf => ?hs1) ?_
    case hs1 =>
      have e5 := Mono.init_get hf (t := 5) (by kernel_rfl)
      clear hd hf
      (go_simp; try with_reducible rfl)
    refine Mono.rgl_val (v := ?vs2) rfl Mono.rr (fun ρ a W hR hd hf => ?hs2) ?_
    case hs2 =>
      have e17 := Mono.dep_val hd hf (t := 17) (k := 0) (by kernel_rfl) rfl
      have e18 := Mono.dep_val hd hf (t := 18) (k := 1) (by kernel_rfl) rfl
      clear hd hf
      (go_simp; try with_reducible rfl)
    refine Mono.rgl_val (v := ?vs3) rfl Mono.rr (fun ρ a W hR hd hf => ?hs3) ?_
    case hs3 =>
      have e19 := Mono.dep_val hd hf (t := 19) (k := 2) (by kernel_rfl) rfl
      clear hd hf
      (go_simp; try with_reducible rfl)
    refine Mono.rgl_val (v := ?vs4) rfl Mono.rr (fun ρ a W hR hd hf => ?hs4) ?_
    case hs4 =>
      have e20 := Mono.dep_val hd hf (t := 20) (k := 3) (by kernel_rfl) rfl
      have hk := (K1.out W (HB.out.trans (hR.mono HZ.out))).1
      clear hd hf
      (go_simp; try with_reducible rfl)
    refine Mono.rgl_val (v := ?vs5) rfl Mono.rr (fun ρ a W hR hd hf => ?hs5) ?_
    case hs5 =>
      have e1 := Mono.init_get hf (t := 1) (by kernel_rfl)
      clear hd hf
      (go_simp; try with_reducible rfl)
    refine Mono.rgl_val (v := ?vs6) rfl Mono.rr (fun ρ a W hR hd hf => ?hs6) ?_
    case hs6 =>
      have e5 := Mono.init_get hf (t := 5) (by kernel_rfl)
      clear hd hf
      (go_simp; try with_reducible rfl)
    refine Mono.rgl_val (v := ?vs7) rfl Mono.rr (fun ρ a W hR hd hf => ?hs7) ?_
    case hs7 =>
      have e22 := Mono.dep_val hd hf (t := 22) (k := 5) (by kernel_rfl) rfl
      have e23 := Mono.dep_val hd hf (t := 23) (k := 6) (by kernel_rfl) rfl
      clear hd hf
      (go_simp; try with_reducible rfl)
    refine Mono.rgl_val (v := ?vs8) rfl Mono.rr (fun ρ a W hR hd hf => ?hs8) ?_
    case hs8 =>
      have e24 := Mono.dep_val hd hf (t := 24) (k := 7) (by kernel_rfl) rfl
      clear hd hf
      (go_simp; try with_reducible rfl)
    refine Mono.rgl_val (v := ?vs9) rfl Mono.rr (fun ρ a W hR hd hf => ?hs9) ?_
    case hs9 =>
      have e25 := Mono.dep_val hd hf (t := 25) (k := 8) (by kernel_rfl) rfl
      have hk := (K2.out W (HB.out.trans (hR.mono HZ.out))).1
      clear hd hf
      (go_simp; try with_reducible rfl)
    refine Mono.rgl_val (v := ?vs10) rfl Mono.rr (fun ρ a W hR hd hf => ?hs10) ?_
    case hs10 =>
      have e21 := Mono.dep_val hd hf (t := 21) (k := 4) (by kernel_rfl) rfl
      have e26 := Mono.dep_val hd hf (t := 26) (k := 9) (by kernel_rfl) rfl
      clear hd hf
      (go_simp; try with_reducible rfl)
    refine Mono.rgl_val (v := ?vs11) rfl Mono.rr (fun ρ a W hR hd hf => ?hs11) ?_
    case hs11 =>
      have e27 := Mono.dep_val hd hf (t := 27) (k := 10) (by kernel_rfl) rfl
      clear hd hf
      (go_simp; try with_reducible rfl)
    refine Mono.rgl_valg (v := ?vs12) rfl Mono.rr (fun ρ W hd => Mono.guard_val hd (t := 28) (k := 11) (by kernel_rfl) rfl) (fun ρ a W hR hd hf => ?hs12) ?_
    case hs12 =>
      have e0 := Mono.init_get hf (t := 0) (by kernel_rfl)
      clear hd hf
      (go_simp; try with_reducible rfl)
    refine Mono.rgl_valg (v := ?vs13) rfl Mono.rr (fun ρ W hd => Mono.guard_val hd (t := 28) (k := 11) (by kernel_rfl) rfl) (fun ρ a W hR hd hf => ?hs13) ?_
    case hs13 =>
      have e5 := Mono.init_get hf (t := 5) (by kernel_rfl)
      clear hd hf
      (go_simp; try with_reducible rfl)
    refine Mono.rgl_valg (v := ?vs14) rfl Mono.rr (fun ρ W hd => Mono.guard_val hd (t := 28) (k := 11) (by kernel_rfl) rfl) (fun ρ a W hR hd hf => ?hs14) ?_
    case hs14 =>
      have e29 := Mono.dep_val hd hf (t := 29) (k := 12) (by kernel_rfl) rfl
      have e30 := Mono.dep_val hd hf (t := 30) (k := 13) (by kernel_rfl) rfl
      clear hd hf
      (go_simp; try with_reducible rfl)
    refine Mono.rgl_valg (v := ?vs15) rfl Mono.rr (fun ρ W hd => Mono.guard_val hd (t := 28) (k := 11) (by kernel_rfl) rfl) (fun ρ a W hR hd hf => ?hs15) ?_
    case hs15 =>
      have e31 := Mono.dep_val hd hf (t := 31) (k := 14) (by kernel_rfl) rfl
      clear hd hf
      (go_simp; try with_reducible rfl)
    refine Mono.rgl_valg (v := ?vs16) rfl Mono.rr (fun ρ W hd => Mono.guard_val hd (t := 28) (k := 11) (by kernel_rfl) rfl) (fun ρ a W hR hd hf => ?hs16) ?_
    case hs16 =>
      have e32 := Mono.dep_val hd hf (t := 32) (k := 15) (by kernel_rfl) rfl
      have hk := (K1.out W (HB.out.trans (hR.mono HZ.out))).2
      clear hd hf
      (go_simp; try with_reducible rfl)
    refine Mono.rgl_valg (v := ?vs17) rfl Mono.rr (fun ρ W hd => Mono.guard_val hd (t := 28) (k := 11) (by kernel_rfl) rfl) (fun ρ a W hR hd hf => ?hs17) ?_
    case hs17 =>
      have e1 := Mono.init_get hf (t := 1) (by kernel_rfl)
      clear hd hf
      (go_simp; try with_reducible rfl)
    refine Mono.rgl_valg (v := ?vs18) rfl Mono.rr (fun ρ W hd => Mono.guard_val hd (t := 28) (k := 11) (by kernel_rfl) rfl) (fun ρ a W hR hd hf => ?hs18) ?_
    case hs18 =>
      have e5 := Mono.init_get hf (t := 5) (by kernel_rfl)
      clear hd hf
      (go_simp; try with_reducible rfl)
    refine Mono.rgl_valg (v := ?vs19) rfl Mono.rr (fun ρ W hd => Mono.guard_val hd (t := 28) (k := 11) (by kernel_rfl) rfl) (fun ρ a W hR hd hf => ?hs19) ?_
    case hs19 =>
      have e34 := Mono.dep_val hd hf (t := 34) (k := 17) (by kernel_rfl) rfl
      have e35 := Mono.dep_val hd hf (t := 35) (k := 18) (by kernel_rfl) rfl
      clear hd hf
      (go_simp; try with_reducible rfl)
    refine Mono.rgl_valg (v := ?vs20) rfl Mono.rr (fun ρ W hd => Mono.guard_val hd (t := 28) (k := 11) (by kernel_rfl) rfl) (fun ρ a W hR hd hf => ?hs20) ?_
    case hs20 =>
      have e36 := Mono.dep_val hd hf (t := 36) (k := 19) (by kernel_rfl) rfl
      clear hd hf
      (go_simp; try with_reducible rfl)
    refine Mono.rgl_valg (v := ?vs21) rfl Mono.rr (fun ρ W hd => Mono.guard_val hd (t := 28) (k := 11) (by kernel_rfl) rfl) (fun ρ a W hR hd hf => ?hs21) ?_
    case hs21 =>
      have e37 := Mono.dep_val hd hf (t := 37) (k := 20) (by kernel_rfl) rfl
      have hk := (K2.out W (HB.out.trans (hR.mono HZ.out))).2
      clear hd hf
      (go_simp; try with_reducible rfl)
    refine Mono.rgl_valg (v := ?vs22) rfl Mono.rr (fun ρ W hd => Mono.guard_val hd (t := 28) (k := 11) (by kernel_rfl) rfl) (fun ρ a W hR hd hf => ?hs22) ?_
    case hs22 =>
      have e33 := Mono.dep_val hd hf (t := 33) (k := 16) (by kernel_rfl) rfl
      have e38 := Mono.dep_val hd hf (t := 38) (k := 21) (by kernel_rfl) rfl
      clear hd hf
      (go_simp; try with_reducible rfl)
    refine Mono.rgl_val (v := ?vs23) rfl Mono.rr (fun ρ a W hR hd hf => ?hs23) ?_
    case hs23 =>
      have e28 := Mono.dep_val hd hf (t := 28) (k := 11) (by kernel_rfl) rfl
      have e39 := Mono.dep_val hd hf (t := 39) (k := 22) (by kernel_rfl) rfl
      clear hd hf
      (go_simp; try with_reducible rfl)
    refine Mono.rgl_done rfl (fun ρ W hR ht => ?_)
    obtain ⟨ds23, ds22, ds21, ds20, ds19, ds18, ds17, ds16, ds15, ds14, ds13, ds12, ds11, ds10, ds9, ds8, ds7, ds6, ds5, ds4, ds3, ds2, ds1, ds0, _⟩ := ht
    simp only [List.length_cons, List.length_nil, Nat.reduceAdd] at ds0 ds1 ds2 ds3 ds4 ds5 ds6 ds7 ds8 ds9 ds10 ds11 ds12 ds13 ds14 ds15 ds16 ds17 ds18 ds19 ds20 ds21 ds22 ds23
    simp only [Mono.putAll, Nat.reduceAdd, ds0, ds1, ds2, ds3, ds4, ds5, ds6, ds7, ds8, ds9, ds10, ds11, ds12, ds13, ds14, ds15, ds16, ds17, ds18, ds19, ds20, ds21, ds22, ds23, Act.put, List.setIfInBounds_toArray, List.set_cons_zero, List.set_cons_succ]
    clear ds0 ds1 ds2 ds3 ds4 ds5 ds6 ds7 ds8 ds9 ds10 ds11 ds12 ds13 ds14 ds15 ds16 ds17 ds18 ds19 ds20 ds21 ds22 ds23
    have HB2 := Lib.hid (HB.out.trans (hR.mono HZ.out))
    clear hR
    go_wp2_with (fail)
    go_roundw
    case rel => exact ⟨j + 1, rfl, hlt, HB2⟩
    case measure => simp [intOf] <;> omega
end Go.Proofs.Ytfnaoekkdgndkaa
