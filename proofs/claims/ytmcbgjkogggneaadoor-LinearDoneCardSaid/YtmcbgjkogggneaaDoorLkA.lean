/- Lists of texts; Before, Can, place, has, same, Equal. -/
import Derived.Test.YtmcbgjkogggneaaDoorLiI
namespace Go.Proofs.YtmcbgjkogggneaaDoor
set_option maxRecDepth 100000
set_option linter.unusedVariables false
set_option linter.unusedSimpArgs false
open Go.RowKit
theorem scells_get {l : List ByteArray} {j : Nat} {x : ByteArray} (h : l[j]? = some x) : (scells l)[j]? = some (.string x) := by unfold scells; rw [List.getElem?_map, h]; rfl
/-! ### Before, Can -/
def befB (c d : CallV) : Bool := decide (0 ≤ c.fin) && decide (c.fin < d.beg)
def canB (c : CallV) : Bool := decide (0 ≤ c.fin) || c.kind == 1
theorem before_any (c d : CallV) (w : World) : Calls Tryd.prog 10 #[c.agg, d.agg] w fun e w' => e = .returned (.bool (befB c d)) ∧ Below w.heap.size w w' := by
  have HM := Lib.hid (must_any c)
  have HA := Lib.hid (((Below.refl w.heap.size w).alloc (Nat.le_refl _) (.cells #[.int .i64 c.kind, .string c.name, .bool c.told, .slice c.na c.nn c.nc, .int .i64 c.beg, .int .i64 c.fin] 32)).alloc (by simp) (.cells #[.int .i64 d.kind, .string d.name, .bool d.told, .slice d.na d.nn d.nc, .int .i64 d.beg, .int .i64 d.fin] 32))
  unfold befB
  unfold CallV.agg at HM ⊢
  by_cases hm : 0 ≤ c.fin
  · have d1 : decide (0 ≤ c.fin) = true := decide_eq_true hm
    rw [d1] at HM ⊢
    clear hm d1
    go_enter Tryd.func10, Tryd.ntmps10
    go_wp2_with (fail)
    refine (HM.out _).mono ?_
    rintro e w1 ⟨rfl, hb⟩
    have HB := Lib.hid (HA.out.trans (hb.mono (by simp <;> omega)))
    have k5 : w1.cell? ⟨w.heap.size, 5, none⟩ = some (.int .i64 c.fin) := by
      rw [hb.cell (by simp <;> omega), World.cell?_alloc_old _ _ _ (by simp), World.cell?_alloc_at _ _ _ _ rfl]; rfl
    have k4 : w1.cell? ⟨w.heap.size + 1, 4, none⟩ = some (.int .i64 d.beg) := by
      rw [hb.cell (by simp), World.cell?_alloc_at _ _ _ _ (by simp)]; rfl
    clear hb
    go_wp2_with (fail)
    go_ret
    exact ⟨by simp, HB.out⟩
  · have d1 : decide (0 ≤ c.fin) = false := decide_eq_false hm
    rw [d1] at HM ⊢
    clear hm d1
    go_enter Tryd.func10, Tryd.ntmps10
    go_wp2_with (fail)
    refine (HM.out _).mono ?_
    rintro e w1 ⟨rfl, hb⟩
    have HB := Lib.hid (HA.out.trans (hb.mono (by simp <;> omega)))
    clear hb
    go_wp2_with (fail)
    go_ret
    exact ⟨by simp, HB.out⟩
theorem refBefore_any (c d : CallV) (w : World) : Calls Tryd.prog 11 #[c.agg, d.agg] w fun e w' => e = .returned (.bool (befB c d)) ∧ Below w.heap.size w w' := by
  have HA := Lib.hid (((Below.refl w.heap.size w).alloc (Nat.le_refl _) (.cells #[.int .i64 c.kind, .string c.name, .bool c.told, .slice c.na c.nn c.nc, .int .i64 c.beg, .int .i64 c.fin] 34)).alloc (by simp) (.cells #[.int .i64 d.kind, .string d.name, .bool d.told, .slice d.na d.nn d.nc, .int .i64 d.beg, .int .i64 d.fin] 34))
  unfold befB
  unfold CallV.agg
  by_cases hm : 0 ≤ c.fin
  · have d1 : decide (0 ≤ c.fin) = true := decide_eq_true hm
    rw [d1]
    clear hm
    go_enter Tryd.func11, Tryd.ntmps11
    go_wp2_with (fail)
    go_ret
    exact ⟨by simp, HA.out⟩
  · have d1 : decide (0 ≤ c.fin) = false := decide_eq_false hm
    rw [d1]
    clear hm
    go_enter Tryd.func11, Tryd.ntmps11
    go_wp2_with (fail)
    go_ret
    exact ⟨by simp, HA.out⟩
theorem refCan_any (c : CallV) (w : World) : Calls Tryd.prog 13 #[c.agg] w fun e w' => e = .returned (.bool (canB c)) ∧ Below w.heap.size w w' := by
  have HA := Lib.hid ((Below.refl w.heap.size w).alloc (Nat.le_refl _) (.cells #[.int .i64 c.kind, .string c.name, .bool c.told, .slice c.na c.nn c.nc, .int .i64 c.beg, .int .i64 c.fin] 34))
  unfold canB
  unfold CallV.agg
  by_cases hm : 0 ≤ c.fin
  · have d1 : decide (0 ≤ c.fin) = true := decide_eq_true hm
    rw [d1]
    clear hm
    go_enter Tryd.func13, Tryd.ntmps13
    go_wp2_with (fail)
    go_ret
    exact ⟨by simp, HA.out⟩
  · have d1 : decide (0 ≤ c.fin) = false := decide_eq_false hm
    rw [d1]
    clear hm
    go_enter Tryd.func13, Tryd.ntmps13
    go_wp2_with (fail)
    go_ret
    exact ⟨by simp, HA.out⟩
/-! ### is a text there, and where is a number -/
theorem str_eq (x s : ByteArray) : (x.toList == s.toList) = decide (x = s) := by
  rw [ByteArray.toList_eq, ByteArray.toList_eq, Bool.eq_iff_iff]
  simp only [beq_iff_eq, decide_eq_true_eq]
  constructor
  · intro h
    exact ByteArray.ext (Array.toList_inj.1 h)
  · intro h; rw [h]
def hasL (l : List ByteArray) (s : ByteArray) : Bool := l.any fun x => decide (x = s)
theorem hasL_take {l : List ByteArray} {s x : ByteArray} {j : Nat} (h : l[j]? = some x) : hasL (l.take (j + 1)) s = (hasL (l.take j) s || decide (x = s)) := by
  unfold hasL
  rw [List.take_add_one, h, List.any_append]
  simp
set_option maxHeartbeats 1000000 in
theorem has_any (l : List ByteArray) (s : ByteArray) (v : Value) (B : Nat) (w : World) (h : Sl w B 1 v l.length (scells l)) (hl : l.length ≤ 1000000) :
    Calls Tryd.prog 35 #[v, .string s] w fun e w' => e = .returned (.bool (hasL l s)) ∧ w' = w := by
  obtain ⟨a, cap, rfl, hcap⟩ := h.form
  have HS := Lib.hid h
  obtain ⟨n, hn⟩ : ∃ n, l.length = n := ⟨_, rfl⟩
  have HN := Lib.hid hn
  rw [hn] at HS hcap hl ⊢
  clear h hn
  go_enter Tryd.func35, Tryd.ntmps35
  go_wp2_with (fail)
  go_loopw [5] (fun i wr => ∃ j : Nat, i = .int .i64 j ∧ j ≤ n ∧ Hid (hasL (l.take j) s = false) ∧ wr = w) (fun i _ => n - (intOf i).toNat)
  case atStart => exact ⟨0, rfl, Nat.zero_le _, Lib.hid rfl, rfl⟩
  case round =>
    obtain ⟨j, rfl, hj, HT, rfl⟩ := hrel
    by_cases hlt : j < n
    rotate_left
    · have d1 : decide (j < n) = false := decide_eq_false hlt
      have d2 : decide ((j : Int) < (n : Int)) = false := decide_eq_false (by omega)
      have hq : hasL l s = false := by
        have := HT.out
        rwa [List.take_of_length_le (by have := HN.out; omega)] at this
      have HQ := Lib.hid hq
      clear hq
      go_wp2_with (fail)
      go_ret
      exact ⟨by rw [HQ.out]; rfl, rfl⟩
    have d1 : decide (j < n) = true := decide_eq_true hlt
    have d2 : decide ((j : Int) < (n : Int)) = true := decide_eq_true (by omega)
    have q1 : IntKind.i64.wrap ((j : Int) + 1) = (j : Int) + 1 := IntWalk.i64_in _ (by omega)
    have hbi : (j : Int) < (n : Int) := by omega
    have hjl : j < l.length := by have := HN.out; omega
    obtain ⟨x, hx⟩ : ∃ x, l[j]? = some x := ⟨_, List.getElem?_eq_getElem hjl⟩
    have HX := Lib.hid hx
    obtain ⟨b, off, rfl, hk0⟩ := sl_cells HS.out (by omega)
    have k1 := hk0 j _ (scells_get hx)
    clear hk0 hx hjl
    by_cases hxy : x = s
    · have d3 : (x.toList == s.toList) = true := by rw [str_eq]; exact decide_eq_true hxy
      have HQ : Hid (hasL l s = true) := Lib.hid (by
        unfold hasL
        rw [List.any_eq_true]
        exact ⟨x, List.mem_of_getElem? HX.out, decide_eq_true hxy⟩)
      clear hxy
      go_wp2_with (fail)
      go_ret
      exact ⟨by rw [HQ.out]; rfl, rfl⟩
    · have d3 : (x.toList == s.toList) = false := by rw [str_eq]; exact decide_eq_false hxy
      have d4 : ¬ x.toList = s.toList := by simpa using d3
      have HT2 : Hid (hasL (l.take (j + 1)) s = false) := Lib.hid (by rw [hasL_take HX.out, HT.out, decide_eq_false hxy]; rfl)
      clear hxy
      go_wp2_with (fail)
      go_roundw
      case rel => exact ⟨j + 1, rfl, by omega, HT2, trivial⟩
      case measure => simp [intOf] <;> omega
/-- Where a number stands for the first time; -1. -/
def placeF (f : Nat → Int) (n : Nat) (x : Int) : Nat → Int
  | 0 => -1
  | k + 1 => if f (n - (k + 1)) = x then ((n - (k + 1) : Nat) : Int) else placeF f n x k
def icellsI (m : Nat) (f : Nat → Int) : List Value := (List.range m).map fun k => .int .i64 (f k)
theorem icellsI_get {m : Nat} (g : Nat → Int) {k : Nat} (h : k < m) : (icellsI m g)[k]? = some (.int .i64 (g k)) := by
  unfold icellsI
  rw [List.getElem?_map, List.getElem?_range h]
  rfl
theorem icellsI_len (m : Nat) (g : Nat → Int) : (icellsI m g).length = m := by unfold icellsI; simp
set_option maxHeartbeats 1000000 in
theorem place_any (n : Nat) (f : Nat → Int) (x : Int) (v : Value) (B : Nat) (w : World) (h : Sl w B 1 v n (icellsI n f)) (hl : n ≤ 1000000) :
    Calls Tryd.prog 24 #[v, .int .i64 x] w fun e w' => e = .returned (.int .i64 (placeF f n x n)) ∧ w' = w := by
  obtain ⟨a, cap, rfl, hcap⟩ := h.form
  have HS := Lib.hid h
  clear h
  go_enter Tryd.func24, Tryd.ntmps24
  go_wp2_with (fail)
  go_loopw [5] (fun i wr => ∃ j : Nat, i = .int .i64 j ∧ j ≤ n ∧ Hid (placeF f n x (n - j) = placeF f n x n) ∧ wr = w) (fun i _ => n - (intOf i).toNat)
  case atStart => exact ⟨0, rfl, Nat.zero_le _, Lib.hid rfl, rfl⟩
  case round =>
    obtain ⟨j, rfl, hj, HT, rfl⟩ := hrel
    by_cases hlt : j < n
    rotate_left
    · have d1 : decide (j < n) = false := decide_eq_false hlt
      have d2 : decide ((j : Int) < (n : Int)) = false := decide_eq_false (by omega)
      have HQ : Hid (placeF f n x n = -1) := Lib.hid (by rw [← HT.out, show n - j = 0 by omega]; rfl)
      go_wp2_with (fail)
      go_ret
      exact ⟨by rw [HQ.out]; rfl, rfl⟩
    have d1 : decide (j < n) = true := decide_eq_true hlt
    have d2 : decide ((j : Int) < (n : Int)) = true := decide_eq_true (by omega)
    have q1 : IntKind.i64.wrap ((j : Int) + 1) = (j : Int) + 1 := IntWalk.i64_in _ (by omega)
    have hbi : (j : Int) < (n : Int) := by omega
    obtain ⟨b, off, rfl, hk0⟩ := sl_cells HS.out (by omega)
    have k1 := hk0 j _ (icellsI_get f hlt)
    have hst : placeF f n x (n - j) = if f j = x then (j : Int) else placeF f n x (n - (j + 1)) := by
      rw [show n - j = (n - (j + 1)) + 1 by omega, placeF, show n - (n - (j + 1) + 1) = j by omega]
    clear hk0
    by_cases hxy : f j = x
    · have d3 : (f j == x) = true := by simpa using hxy
      have HQ : Hid (placeF f n x n = j) := Lib.hid (by rw [← HT.out, hst, if_pos hxy])
      clear hxy hst
      generalize f j = y at *
      go_wp2_with (fail)
      go_ret
      exact ⟨by rw [HQ.out]; rfl, rfl⟩
    · have d3 : (f j == x) = false := by simpa using hxy
      have HT2 : Hid (placeF f n x (n - (j + 1)) = placeF f n x n) := Lib.hid (by rw [← HT.out, hst, if_neg hxy])
      clear hxy hst
      generalize f j = y at *
      go_wp2_with (fail)
      go_roundw
      case rel => exact ⟨j + 1, rfl, by omega, HT2, trivial⟩
      case measure => simp [intOf] <;> omega
set_option maxHeartbeats 1000000 in
theorem same_any (l r : List ByteArray) (u v : Value) (B : Nat) (w : World) (h1 : Sl w B 1 u l.length (scells l)) (h2 : Sl w B 1 v r.length (scells r)) (hB : B ≤ w.heap.size) (hl : l.length ≤ 1000000) (hr : r.length ≤ 1000000) :
    Calls Tryd.prog 36 #[u, v] w fun e w' => e = .returned (.bool (decide (l = r))) ∧ Below w.heap.size w w' := by
  obtain ⟨a, cap, rfl, hcap⟩ := h1.form
  obtain ⟨b, bcap, rfl, hbcap⟩ := h2.form
  have H1 := Lib.hid (fun (W : World) (hW : Below w.heap.size w W) => h1.below (hW.mono hB))
  have H2 := Lib.hid (fun (W : World) (hW : Below w.heap.size w W) => h2.below (hW.mono hB))
  clear h1 h2
  by_cases hne : l.length = r.length
  rotate_left
  · have hq : decide (l = r) = false := decide_eq_false (fun e => hne (by rw [e]))
    have d1 : ((l.length : Int) != (r.length : Int)) = true := by simp; omega
    have HQ := Lib.hid hq
    clear hq hne
    generalize l.length = n at *
    generalize r.length = m at *
    go_enter Tryd.func36, Tryd.ntmps36
    go_wp2_with (fail)
    go_ret
    exact ⟨by rw [HQ.out]; rfl, Below.refl _ _⟩
  have HN := Lib.hid hne
  obtain ⟨n, hn⟩ : ∃ n, l.length = n := ⟨_, rfl⟩
  have HNN := Lib.hid hn
  rw [← hne] at H2 hbcap hr ⊢
  rw [hn] at H1 H2 hbcap hcap hl ⊢
  clear hne hn hr
  go_enter Tryd.func36, Tryd.ntmps36
  go_wp2_with (fail)
  go_loopw [5] (fun i wr => ∃ j : Nat, i = .int .i64 j ∧ j ≤ n ∧ Hid (l.take j = r.take j) ∧ Hid (Below w.heap.size w wr)) (fun i _ => n - (intOf i).toNat)
  case atStart => exact ⟨0, rfl, Nat.zero_le _, Lib.hid rfl, Lib.hid (Below.refl _ _)⟩
  case round =>
    obtain ⟨j, rfl, hj, HT, HB1⟩ := hrel
    obtain ⟨wo, rfl⟩ : ∃ z : World, z = wr := ⟨_, rfl⟩
    by_cases hlt : j < n
    rotate_left
    · have d1 : decide (j < n) = false := decide_eq_false hlt
      have d2 : decide ((j : Int) < (n : Int)) = false := decide_eq_false (by omega)
      have hq : decide (l = r) = true := decide_eq_true (by
        have := HT.out
        rwa [List.take_of_length_le (by have := HNN.out; omega), List.take_of_length_le (by have := HNN.out; have := HN.out; omega)] at this)
      have HQ := Lib.hid hq
      clear hq
      go_wp2_with (fail)
      go_ret
      exact ⟨by rw [HQ.out]; rfl, HB1.out⟩
    have d1 : decide (j < n) = true := decide_eq_true hlt
    have d2 : decide ((j : Int) < (n : Int)) = true := decide_eq_true (by omega)
    have q1 : IntKind.i64.wrap ((j : Int) + 1) = (j : Int) + 1 := IntWalk.i64_in _ (by omega)
    have hbi : (j : Int) < (n : Int) := by omega
    have hjl : j < l.length := by have := HNN.out; omega
    have hjr : j < r.length := by have := HNN.out; have := HN.out; omega
    obtain ⟨x, hx⟩ : ∃ x, l[j]? = some x := ⟨_, List.getElem?_eq_getElem hjl⟩
    obtain ⟨y, hy⟩ : ∃ y, r[j]? = some y := ⟨_, List.getElem?_eq_getElem hjr⟩
    have HX := Lib.hid hx
    have HY := Lib.hid hy
    obtain ⟨b1, o1, rfl, hk1⟩ := sl_cells (H1.out wo HB1.out) (by omega)
    obtain ⟨b2, o2, rfl, hk2⟩ := sl_cells (H2.out wo HB1.out) (by omega)
    have ka : Hid (∀ W, Below wo.heap.size wo W → W.cell? ⟨b1, o1 + j, none⟩ = some (.string x)) := Lib.hid (fun W hW => sl_same (H1.out W (HB1.out.trans (hW.mono HB1.out.size))) (by omega) _ _ (scells_get HX.out))
    have kb : Hid (∀ W, Below wo.heap.size wo W → W.cell? ⟨b2, o2 + j, none⟩ = some (.string y)) := Lib.hid (fun W hW => sl_same (H2.out W (HB1.out.trans (hW.mono HB1.out.size))) (by omega) _ _ (scells_get HY.out))
    clear hk1 hk2 hx hy hjl hjr
    by_cases hxy : x = y
    · have HT2 : Hid (l.take (j + 1) = r.take (j + 1)) := Lib.hid (by rw [List.take_add_one, List.take_add_one, HT.out, HX.out, HY.out, hxy])
      have d3 : (x.toList == y.toList) = true := by rw [str_eq]; exact decide_eq_true hxy
      clear hxy
      go_upto_region 6 with (fail)
      refine Mono.region_below (by kernel_rfl) (by kernel_rfl) (by kernel_rfl) ?_
      refine Mono.rgl_val (v := ?va0) rfl Mono.rr (fun ρ a W hR hd hf => ?ha0) ?_
      case ha0 =>
        have e0 := Mono.init_get hf (t := 0) (by kernel_rfl)
        clear hd hf
        (go_simp; try with_reducible rfl)
      refine Mono.rgl_val (v := ?va1) rfl Mono.rr (fun ρ a W hR hd hf => ?ha1) ?_
      case ha1 =>
        have e5 := Mono.init_get hf (t := 5) (by kernel_rfl)
        clear hd hf
        (go_simp; try with_reducible rfl)
      refine Mono.rgl_val (v := ?va2) rfl Mono.rr (fun ρ a W hR hd hf => ?ha2) ?_
      case ha2 =>
        have e17 := Mono.dep_val hd hf (t := 17) (k := 0) (by kernel_rfl) rfl
        have e18 := Mono.dep_val hd hf (t := 18) (k := 1) (by kernel_rfl) rfl
        clear hd hf
        (go_simp; try with_reducible rfl)
      refine Mono.rgl_val (v := ?va3) rfl Mono.rr (fun ρ a W hR hd hf => ?ha3) ?_
      case ha3 =>
        have e19 := Mono.dep_val hd hf (t := 19) (k := 2) (by kernel_rfl) rfl
        have hk := ka.out W hR
        clear hd hf
        (go_simp; try with_reducible rfl)
      refine Mono.rgl_val (v := ?va4) rfl Mono.rr (fun ρ a W hR hd hf => ?ha4) ?_
      case ha4 =>
        have e1 := Mono.init_get hf (t := 1) (by kernel_rfl)
        clear hd hf
        (go_simp; try with_reducible rfl)
      refine Mono.rgl_val (v := ?va5) rfl Mono.rr (fun ρ a W hR hd hf => ?ha5) ?_
      case ha5 =>
        have e5 := Mono.init_get hf (t := 5) (by kernel_rfl)
        clear hd hf
        (go_simp; try with_reducible rfl)
      refine Mono.rgl_val (v := ?va6) rfl Mono.rr (fun ρ a W hR hd hf => ?ha6) ?_
      case ha6 =>
        have e21 := Mono.dep_val hd hf (t := 21) (k := 4) (by kernel_rfl) rfl
        have e22 := Mono.dep_val hd hf (t := 22) (k := 5) (by kernel_rfl) rfl
        clear hd hf
        (go_simp; try with_reducible rfl)
      refine Mono.rgl_val (v := ?va7) rfl Mono.rr (fun ρ a W hR hd hf => ?ha7) ?_
      case ha7 =>
        have e23 := Mono.dep_val hd hf (t := 23) (k := 6) (by kernel_rfl) rfl
        have hk := kb.out W hR
        clear hd hf
        (go_simp; try with_reducible rfl)
      refine Mono.rgl_val (v := ?va8) rfl Mono.rr (fun ρ a W hR hd hf => ?ha8) ?_
      case ha8 =>
        have e20 := Mono.dep_val hd hf (t := 20) (k := 3) (by kernel_rfl) rfl
        have e24 := Mono.dep_val hd hf (t := 24) (k := 7) (by kernel_rfl) rfl
        clear hd hf
        (go_simp; try with_reducible rfl)
      refine Mono.rgl_done rfl (fun ρ W hR ht => ?_)
      obtain ⟨da8, da7, da6, da5, da4, da3, da2, da1, da0, _⟩ := ht
      simp only [List.length_cons, List.length_nil, Nat.reduceAdd] at da0 da1 da2 da3 da4 da5 da6 da7 da8
      simp only [Mono.putAll, Nat.reduceAdd, da0, da1, da2, da3, da4, da5, da6, da7, da8, Act.put, List.setIfInBounds_toArray, List.set_cons_zero, List.set_cons_succ]
      clear da0 da1 da2 da3 da4 da5 da6 da7 da8

      have HB2 := Lib.hid (HB1.out.trans (hR.mono HB1.out.size))
      clear hR
      go_wp2_with (fail)
      go_roundw
      case rel => exact ⟨j + 1, rfl, by omega, HT2, HB2⟩
      case measure => simp [intOf] <;> omega
    · have hq : decide (l = r) = false := decide_eq_false (fun e => hxy (by have h1 := HX.out; rw [e, HY.out] at h1; injection h1 with h1; exact h1.symm))
      have d3 : (x.toList == y.toList) = false := by rw [str_eq]; exact decide_eq_false hxy
      have d4 : ¬ x.toList = y.toList := by simpa using d3
      have HQ := Lib.hid hq
      clear hxy hq
      go_upto_region 6 with (fail)
      refine Mono.region_below (by kernel_rfl) (by kernel_rfl) (by kernel_rfl) ?_
      refine Mono.rgl_val (v := ?vb0) rfl Mono.rr (fun ρ a W hR hd hf => ?hb0) ?_
      case hb0 =>
        have e0 := Mono.init_get hf (t := 0) (by kernel_rfl)
        clear hd hf
        (go_simp; try with_reducible rfl)
      refine Mono.rgl_val (v := ?vb1) rfl Mono.rr (fun ρ a W hR hd hf => ?hb1) ?_
      case hb1 =>
        have e5 := Mono.init_get hf (t := 5) (by kernel_rfl)
        clear hd hf
        (go_simp; try with_reducible rfl)
      refine Mono.rgl_val (v := ?vb2) rfl Mono.rr (fun ρ a W hR hd hf => ?hb2) ?_
      case hb2 =>
        have e17 := Mono.dep_val hd hf (t := 17) (k := 0) (by kernel_rfl) rfl
        have e18 := Mono.dep_val hd hf (t := 18) (k := 1) (by kernel_rfl) rfl
        clear hd hf
        (go_simp; try with_reducible rfl)
      refine Mono.rgl_val (v := ?vb3) rfl Mono.rr (fun ρ a W hR hd hf => ?hb3) ?_
      case hb3 =>
        have e19 := Mono.dep_val hd hf (t := 19) (k := 2) (by kernel_rfl) rfl
        have hk := ka.out W hR
        clear hd hf
        (go_simp; try with_reducible rfl)
      refine Mono.rgl_val (v := ?vb4) rfl Mono.rr (fun ρ a W hR hd hf => ?hb4) ?_
      case hb4 =>
        have e1 := Mono.init_get hf (t := 1) (by kernel_rfl)
        clear hd hf
        (go_simp; try with_reducible rfl)
      refine Mono.rgl_val (v := ?vb5) rfl Mono.rr (fun ρ a W hR hd hf => ?hb5) ?_
      case hb5 =>
        have e5 := Mono.init_get hf (t := 5) (by kernel_rfl)
        clear hd hf
        (go_simp; try with_reducible rfl)
      refine Mono.rgl_val (v := ?vb6) rfl Mono.rr (fun ρ a W hR hd hf => ?hb6) ?_
      case hb6 =>
        have e21 := Mono.dep_val hd hf (t := 21) (k := 4) (by kernel_rfl) rfl
        have e22 := Mono.dep_val hd hf (t := 22) (k := 5) (by kernel_rfl) rfl
        clear hd hf
        (go_simp; try with_reducible rfl)
      refine Mono.rgl_val (v := ?vb7) rfl Mono.rr (fun ρ a W hR hd hf => ?hb7) ?_
      case hb7 =>
        have e23 := Mono.dep_val hd hf (t := 23) (k := 6) (by kernel_rfl) rfl
        have hk := kb.out W hR
        clear hd hf
        (go_simp; try with_reducible rfl)
      refine Mono.rgl_val (v := ?vb8) rfl Mono.rr (fun ρ a W hR hd hf => ?hb8) ?_
      case hb8 =>
        have e20 := Mono.dep_val hd hf (t := 20) (k := 3) (by kernel_rfl) rfl
        have e24 := Mono.dep_val hd hf (t := 24) (k := 7) (by kernel_rfl) rfl
        clear hd hf
        (go_simp; try with_reducible rfl)
      refine Mono.rgl_done rfl (fun ρ W hR ht => ?_)
      obtain ⟨db8, db7, db6, db5, db4, db3, db2, db1, db0, _⟩ := ht
      simp only [List.length_cons, List.length_nil, Nat.reduceAdd] at db0 db1 db2 db3 db4 db5 db6 db7 db8
      simp only [Mono.putAll, Nat.reduceAdd, db0, db1, db2, db3, db4, db5, db6, db7, db8, Act.put, List.setIfInBounds_toArray, List.set_cons_zero, List.set_cons_succ]
      clear db0 db1 db2 db3 db4 db5 db6 db7 db8

      have HB2 := Lib.hid (HB1.out.trans (hR.mono HB1.out.size))
      clear hR
      go_wp2_with (fail)
      go_ret
      exact ⟨by rw [HQ.out]; rfl, HB2.out⟩
set_option maxHeartbeats 1000000 in
theorem equal_any (l r : List ByteArray) (u v : Value) (B : Nat) (w : World) (h1 : Sl w B 1 u l.length (scells l)) (h2 : Sl w B 1 v r.length (scells r)) (hB : B ≤ w.heap.size) (hl : l.length ≤ 1000000) (hr : r.length ≤ 1000000) :
    Calls Tryd.prog 46 #[u, v] w fun e w' => e = .returned (.bool (decide (l = r))) ∧ Below w.heap.size w w' := by
  obtain ⟨a, cap, rfl, hcap⟩ := h1.form
  obtain ⟨b, bcap, rfl, hbcap⟩ := h2.form
  have H1 := Lib.hid (fun (W : World) (hW : Below w.heap.size w W) => h1.below (hW.mono hB))
  have H2 := Lib.hid (fun (W : World) (hW : Below w.heap.size w W) => h2.below (hW.mono hB))
  clear h1 h2
  by_cases hne : l.length = r.length
  rotate_left
  · have hq : decide (l = r) = false := decide_eq_false (fun e => hne (by rw [e]))
    have d1 : ((l.length : Int) != (r.length : Int)) = true := by simp; omega
    have HQ := Lib.hid hq
    clear hq hne
    generalize l.length = n at *
    generalize r.length = m at *
    go_enter Tryd.func46, Tryd.ntmps46
    go_wp2_with (fail)
    go_ret
    exact ⟨by rw [HQ.out]; rfl, Below.refl _ _⟩
  have HN := Lib.hid hne
  obtain ⟨n, hn⟩ : ∃ n, l.length = n := ⟨_, rfl⟩
  have HNN := Lib.hid hn
  rw [← hne] at H2 hbcap hr ⊢
  rw [hn] at H1 H2 hbcap hcap hl ⊢
  clear hne hn hr
  go_enter Tryd.func46, Tryd.ntmps46
  go_wp2_with (fail)
  go_loopw [13] (fun i wr => ∃ j : Nat, i = .int .i64 j ∧ j ≤ n ∧ Hid (l.take j = r.take j) ∧ Hid (Below w.heap.size w wr)) (fun i _ => n - (intOf i).toNat)
  case atStart => exact ⟨0, rfl, Nat.zero_le _, Lib.hid rfl, Lib.hid (Below.refl _ _)⟩
  case round =>
    obtain ⟨j, rfl, hj, HT, HB1⟩ := hrel
    obtain ⟨wo, rfl⟩ : ∃ z : World, z = wr := ⟨_, rfl⟩
    by_cases hlt : j < n
    rotate_left
    · have d1 : decide (j < n) = false := decide_eq_false hlt
      have d2 : decide ((j : Int) < (n : Int)) = false := decide_eq_false (by omega)
      have hq : decide (l = r) = true := decide_eq_true (by
        have := HT.out
        rwa [List.take_of_length_le (by have := HNN.out; omega), List.take_of_length_le (by have := HNN.out; have := HN.out; omega)] at this)
      have HQ := Lib.hid hq
      clear hq
      go_wp2_with (fail)
      go_ret
      exact ⟨by rw [HQ.out]; rfl, HB1.out⟩
    have d1 : decide (j < n) = true := decide_eq_true hlt
    have d2 : decide ((j : Int) < (n : Int)) = true := decide_eq_true (by omega)
    have q1 : IntKind.i64.wrap ((j : Int) + 1) = (j : Int) + 1 := IntWalk.i64_in _ (by omega)
    have hbi : (j : Int) < (n : Int) := by omega
    have hjl : j < l.length := by have := HNN.out; omega
    have hjr : j < r.length := by have := HNN.out; have := HN.out; omega
    obtain ⟨x, hx⟩ : ∃ x, l[j]? = some x := ⟨_, List.getElem?_eq_getElem hjl⟩
    obtain ⟨y, hy⟩ : ∃ y, r[j]? = some y := ⟨_, List.getElem?_eq_getElem hjr⟩
    have HX := Lib.hid hx
    have HY := Lib.hid hy
    obtain ⟨b1, o1, rfl, hk1⟩ := sl_cells (H1.out wo HB1.out) (by omega)
    obtain ⟨b2, o2, rfl, hk2⟩ := sl_cells (H2.out wo HB1.out) (by omega)
    have ka : Hid (∀ W, Below wo.heap.size wo W → W.cell? ⟨b1, o1 + j, none⟩ = some (.string x)) := Lib.hid (fun W hW => sl_same (H1.out W (HB1.out.trans (hW.mono HB1.out.size))) (by omega) _ _ (scells_get HX.out))
    have kb : Hid (∀ W, Below wo.heap.size wo W → W.cell? ⟨b2, o2 + j, none⟩ = some (.string y)) := Lib.hid (fun W hW => sl_same (H2.out W (HB1.out.trans (hW.mono HB1.out.size))) (by omega) _ _ (scells_get HY.out))
    clear hk1 hk2 hx hy hjl hjr
    by_cases hxy : x = y
    · have HT2 : Hid (l.take (j + 1) = r.take (j + 1)) := Lib.hid (by rw [List.take_add_one, List.take_add_one, HT.out, HX.out, HY.out, hxy])
      have d3 : (x.toList == y.toList) = true := by rw [str_eq]; exact decide_eq_true hxy
      clear hxy
      go_upto_region 6 with (fail)
      refine Mono.region_below (by kernel_rfl) (by kernel_rfl) (by kernel_rfl) ?_
      refine Mono.rgl_val (v := ?va0) rfl Mono.rr (fun ρ a W hR hd hf => ?ha0) ?_
      case ha0 =>
        have e0 := Mono.init_get hf (t := 0) (by kernel_rfl)
        clear hd hf
        (go_simp; try with_reducible rfl)
      refine Mono.rgl_val (v := ?va1) rfl Mono.rr (fun ρ a W hR hd hf => ?ha1) ?_
      case ha1 =>
        have e5 := Mono.init_get hf (t := 5) (by kernel_rfl)
        clear hd hf
        (go_simp; try with_reducible rfl)
      refine Mono.rgl_val (v := ?va2) rfl Mono.rr (fun ρ a W hR hd hf => ?ha2) ?_
      case ha2 =>
        have e16 := Mono.dep_val hd hf (t := 16) (k := 0) (by kernel_rfl) rfl
        have e17 := Mono.dep_val hd hf (t := 17) (k := 1) (by kernel_rfl) rfl
        clear hd hf
        (go_simp; try with_reducible rfl)
      refine Mono.rgl_val (v := ?va3) rfl Mono.rr (fun ρ a W hR hd hf => ?ha3) ?_
      case ha3 =>
        have e18 := Mono.dep_val hd hf (t := 18) (k := 2) (by kernel_rfl) rfl
        have hk := ka.out W hR
        clear hd hf
        (go_simp; try with_reducible rfl)
      refine Mono.rgl_val (v := ?va4) rfl Mono.rr (fun ρ a W hR hd hf => ?ha4) ?_
      case ha4 =>
        have e1 := Mono.init_get hf (t := 1) (by kernel_rfl)
        clear hd hf
        (go_simp; try with_reducible rfl)
      refine Mono.rgl_val (v := ?va5) rfl Mono.rr (fun ρ a W hR hd hf => ?ha5) ?_
      case ha5 =>
        have e5 := Mono.init_get hf (t := 5) (by kernel_rfl)
        clear hd hf
        (go_simp; try with_reducible rfl)
      refine Mono.rgl_val (v := ?va6) rfl Mono.rr (fun ρ a W hR hd hf => ?ha6) ?_
      case ha6 =>
        have e20 := Mono.dep_val hd hf (t := 20) (k := 4) (by kernel_rfl) rfl
        have e21 := Mono.dep_val hd hf (t := 21) (k := 5) (by kernel_rfl) rfl
        clear hd hf
        (go_simp; try with_reducible rfl)
      refine Mono.rgl_val (v := ?va7) rfl Mono.rr (fun ρ a W hR hd hf => ?ha7) ?_
      case ha7 =>
        have e22 := Mono.dep_val hd hf (t := 22) (k := 6) (by kernel_rfl) rfl
        have hk := kb.out W hR
        clear hd hf
        (go_simp; try with_reducible rfl)
      refine Mono.rgl_val (v := ?va8) rfl Mono.rr (fun ρ a W hR hd hf => ?ha8) ?_
      case ha8 =>
        have e19 := Mono.dep_val hd hf (t := 19) (k := 3) (by kernel_rfl) rfl
        have e23 := Mono.dep_val hd hf (t := 23) (k := 7) (by kernel_rfl) rfl
        clear hd hf
        (go_simp; try with_reducible rfl)
      refine Mono.rgl_done rfl (fun ρ W hR ht => ?_)
      obtain ⟨da8, da7, da6, da5, da4, da3, da2, da1, da0, _⟩ := ht
      simp only [List.length_cons, List.length_nil, Nat.reduceAdd] at da0 da1 da2 da3 da4 da5 da6 da7 da8
      simp only [Mono.putAll, Nat.reduceAdd, da0, da1, da2, da3, da4, da5, da6, da7, da8, Act.put, List.setIfInBounds_toArray, List.set_cons_zero, List.set_cons_succ]
      clear da0 da1 da2 da3 da4 da5 da6 da7 da8

      have HB2 := Lib.hid (HB1.out.trans (hR.mono HB1.out.size))
      clear hR
      go_wp2_with (fail)
      go_roundw
      case rel => exact ⟨j + 1, rfl, by omega, HT2, HB2⟩
      case measure => simp [intOf] <;> omega
    · have hq : decide (l = r) = false := decide_eq_false (fun e => hxy (by have h1 := HX.out; rw [e, HY.out] at h1; injection h1 with h1; exact h1.symm))
      have d3 : (x.toList == y.toList) = false := by rw [str_eq]; exact decide_eq_false hxy
      have d4 : ¬ x.toList = y.toList := by simpa using d3
      have HQ := Lib.hid hq
      clear hxy hq
      go_upto_region 6 with (fail)
      refine Mono.region_below (by kernel_rfl) (by kernel_rfl) (by kernel_rfl) ?_
      refine Mono.rgl_val (v := ?vb0) rfl Mono.rr (fun ρ a W hR hd hf => ?hb0) ?_
      case hb0 =>
        have e0 := Mono.init_get hf (t := 0) (by kernel_rfl)
        clear hd hf
        (go_simp; try with_reducible rfl)
      refine Mono.rgl_val (v := ?vb1) rfl Mono.rr (fun ρ a W hR hd hf => ?hb1) ?_
      case hb1 =>
        have e5 := Mono.init_get hf (t := 5) (by kernel_rfl)
        clear hd hf
        (go_simp; try with_reducible rfl)
      refine Mono.rgl_val (v := ?vb2) rfl Mono.rr (fun ρ a W hR hd hf => ?hb2) ?_
      case hb2 =>
        have e16 := Mono.dep_val hd hf (t := 16) (k := 0) (by kernel_rfl) rfl
        have e17 := Mono.dep_val hd hf (t := 17) (k := 1) (by kernel_rfl) rfl
        clear hd hf
        (go_simp; try with_reducible rfl)
      refine Mono.rgl_val (v := ?vb3) rfl Mono.rr (fun ρ a W hR hd hf => ?hb3) ?_
      case hb3 =>
        have e18 := Mono.dep_val hd hf (t := 18) (k := 2) (by kernel_rfl) rfl
        have hk := ka.out W hR
        clear hd hf
        (go_simp; try with_reducible rfl)
      refine Mono.rgl_val (v := ?vb4) rfl Mono.rr (fun ρ a W hR hd hf => ?hb4) ?_
      case hb4 =>
        have e1 := Mono.init_get hf (t := 1) (by kernel_rfl)
        clear hd hf
        (go_simp; try with_reducible rfl)
      refine Mono.rgl_val (v := ?vb5) rfl Mono.rr (fun ρ a W hR hd hf => ?hb5) ?_
      case hb5 =>
        have e5 := Mono.init_get hf (t := 5) (by kernel_rfl)
        clear hd hf
        (go_simp; try with_reducible rfl)
      refine Mono.rgl_val (v := ?vb6) rfl Mono.rr (fun ρ a W hR hd hf => ?hb6) ?_
      case hb6 =>
        have e20 := Mono.dep_val hd hf (t := 20) (k := 4) (by kernel_rfl) rfl
        have e21 := Mono.dep_val hd hf (t := 21) (k := 5) (by kernel_rfl) rfl
        clear hd hf
        (go_simp; try with_reducible rfl)
      refine Mono.rgl_val (v := ?vb7) rfl Mono.rr (fun ρ a W hR hd hf => ?hb7) ?_
      case hb7 =>
        have e22 := Mono.dep_val hd hf (t := 22) (k := 6) (by kernel_rfl) rfl
        have hk := kb.out W hR
        clear hd hf
        (go_simp; try with_reducible rfl)
      refine Mono.rgl_val (v := ?vb8) rfl Mono.rr (fun ρ a W hR hd hf => ?hb8) ?_
      case hb8 =>
        have e19 := Mono.dep_val hd hf (t := 19) (k := 3) (by kernel_rfl) rfl
        have e23 := Mono.dep_val hd hf (t := 23) (k := 7) (by kernel_rfl) rfl
        clear hd hf
        (go_simp; try with_reducible rfl)
      refine Mono.rgl_done rfl (fun ρ W hR ht => ?_)
      obtain ⟨db8, db7, db6, db5, db4, db3, db2, db1, db0, _⟩ := ht
      simp only [List.length_cons, List.length_nil, Nat.reduceAdd] at db0 db1 db2 db3 db4 db5 db6 db7 db8
      simp only [Mono.putAll, Nat.reduceAdd, db0, db1, db2, db3, db4, db5, db6, db7, db8, Act.put, List.setIfInBounds_toArray, List.set_cons_zero, List.set_cons_succ]
      clear db0 db1 db2 db3 db4 db5 db6 db7 db8

      have HB2 := Lib.hid (HB1.out.trans (hR.mono HB1.out.size))
      clear hR
      go_wp2_with (fail)
      go_ret
      exact ⟨by rw [HQ.out]; rfl, HB2.out⟩
end Go.Proofs.YtmcbgjkogggneaaDoor
