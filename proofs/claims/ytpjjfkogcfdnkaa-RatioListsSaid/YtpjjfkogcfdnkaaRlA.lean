/- RatioLists: sums, means, the middle, those that are finite. -/
import Derived.Test.YtpjjfkogcfdnkaaRtA
import Derived.Test.YtpjjfkogcfdnkaaRatI
namespace Go.Proofs.Ytpjjfkogcfdnkaa
set_option maxRecDepth 100000
set_option linter.unusedVariables false
set_option linter.unusedSimpArgs false
open Go.RowKit Flo
theorem add_nan {x y : Nat} (h : nan x = true) : floatBits .add .f64 x y = none := by
  have h' : INF < rung x := by unfold nan at h; simpa using h
  obtain ⟨s, f, e⟩ := read_nan h'
  change (Ieee.Datum.sum (Ieee.double.read x) (Ieee.double.read y)).map Ieee.double.write = none
  rw [e]
  cases Ieee.double.read y <;> rfl
theorem quo_nan {x y : Nat} (h : nan x = true) : floatBits .quo .f64 x y = none := by
  have h' : INF < rung x := by unfold nan at h; simpa using h
  obtain ⟨s, f, e⟩ := read_nan h'
  show Ieee.double.div x y = none
  unfold Ieee.Format.div
  rw [e]
  cases Ieee.double.read y <;> rfl
theorem nan_add (x y : Nat) (w : World) (h : floatBits .add .f64 x y = none) : ∃ v, nan v = true ∧ v < 18446744073709551616 ∧ (binOp .add 23 (.float .f64 x) (.float .f64 y)).run Try.prog w = .ok (.float .f64 v) (w.drewN 1) := by
  have hv : ∀ t : Nat, nan (Question.cut (.nanBits .f64 x y) t) = true ∧ Question.cut (.nanBits .f64 x y) t < 18446744073709551616 := by
    intro t
    unfold Question.cut nan rung INF SGN
    simp only [decide_eq_true_eq]
    have h1 : t % 2 = 0 ∨ t % 2 = 1 := by omega
    have h2 : t / 2 % (2 ^ 52 - 1) < 4503599627370495 := Nat.mod_lt _ (by decide)
    generalize t / 2 % (2 ^ 52 - 1) = b at *
    rcases h1 with h1 | h1 <;> rw [h1] <;> constructor <;> omega
  refine ⟨_, (hv (w.tape w.drawn (.nanBits .f64 x y))).1, (hv _).2, ?_⟩
  simp only [floatBits] at h
  simp [binOp, Op.floatArith, h]
  rfl
theorem fb_lt {op : BinOp} {x y r : Nat} (h : floatBits op .f64 x y = some r) : r < 18446744073709551616 := by
  have := floatBits_wf h
  simpa [Lit.wf] using this
/-- The number, or any that is none. -/
def Is (o : Option Nat) (v : Nat) : Prop := v < 18446744073709551616 ∧ (o = some v ∨ (o = none ∧ nan v = true))
theorem Is.eq {o : Option Nat} {x y : Nat} (h1 : Is o x) (h2 : Is o y) : EQ x y := by
  rcases h1 with ⟨b1, e1 | ⟨e1, n1⟩⟩ <;> rcases h2 with ⟨b2, e2 | ⟨e2, n2⟩⟩
  · rw [e1] at e2
    injection e2 with e2
    subst e2
    exact EQ_self b1
  · rw [e1] at e2; cases e2
  · rw [e1] at e2; cases e2
  · exact EQ_nan b1 b2 n1 n2
def sumF (f : Nat → El) : Nat → Option Nat
  | 0 => some 0
  | k + 1 => match sumF f k with
    | none => none
    | some s => floatBits .add .f64 s (f k).1
theorem Is.zero (f : Nat → El) : Is (sumF f 0) 0 := ⟨by decide, .inl rfl⟩
theorem Is.step {f : Nat → El} {k v z : Nat} (h : Is (sumF f k) v) (hz : enc (f k) = .float .f64 z) (w : World) :
    ∃ v' w', Is (sumF f (k + 1)) v' ∧ Below w.heap.size w w' ∧ (binOp .add 23 (.float .f64 v) (.float .f64 z)).run Try.prog w = .ok (.float .f64 v') w' := by
  unfold enc at hz
  injection hz with _ hz
  subst hz
  have key : ∀ o, floatBits .add .f64 v (f k).1 = o → sumF f (k + 1) = o → ∃ v' w', Is (sumF f (k + 1)) v' ∧ Below w.heap.size w w' ∧ (binOp .add 23 (.float .f64 v) (.float .f64 (f k).1)).run Try.prog w = .ok (.float .f64 v') w' := by
    intro o ho hs
    rw [hs]
    cases o with
    | none =>
      obtain ⟨v', n1, b1, hr⟩ := nan_add _ _ w ho
      exact ⟨v', _, ⟨b1, .inr ⟨rfl, n1⟩⟩, below_drewN (Below.refl _ _) 1, hr⟩
    | some r => exact ⟨r, w, ⟨fb_lt ho, .inl rfl⟩, Below.refl _ _, run_float_arith (P := Try.prog) w .add 23 .f64 _ _ r ho⟩
  rcases h with ⟨b1, e1 | ⟨e1, n1⟩⟩
  · exact key _ rfl (by rw [sumF, e1])
  · exact key none (add_nan n1) (by rw [sumF, e1])
def meanF (f : Nat → El) (n : Nat) : Option Nat := match sumF f n with
  | none => none
  | some s => floatBits .quo .f64 s (floatOfInt .f64 n)
theorem Is.mean {f : Nat → El} {n v : Nat} (h : Is (sumF f n) v) (w : World) :
    ∃ v' w', Is (meanF f n) v' ∧ Below w.heap.size w w' ∧ (binOp .quo 23 (.float .f64 v) (.float .f64 (floatOfInt .f64 n))).run Try.prog w = .ok (.float .f64 v') w' := by
  have key : ∀ o, floatBits .quo .f64 v (floatOfInt .f64 n) = o → meanF f n = o → ∃ v' w', Is (meanF f n) v' ∧ Below w.heap.size w w' ∧ (binOp .quo 23 (.float .f64 v) (.float .f64 (floatOfInt .f64 n))).run Try.prog w = .ok (.float .f64 v') w' := by
    intro o ho hs
    rw [hs]
    cases o with
    | none =>
      obtain ⟨v', n1, b1, hr⟩ := nan_run .quo _ _ w ho (.inl rfl)
      exact ⟨v', _, ⟨b1, .inr ⟨rfl, n1⟩⟩, below_drewN (Below.refl _ _) 1, hr⟩
    | some r => exact ⟨r, w, ⟨fb_lt ho, .inl rfl⟩, Below.refl _ _, run_float_arith (P := Try.prog) w .quo 23 .f64 _ _ r ho⟩
  rcases h with ⟨b1, e1 | ⟨e1, n1⟩⟩
  · exact key _ rfl (by unfold meanF; rw [e1])
  · exact key none (quo_nan n1) (by unfold meanF; rw [e1])
/-! ### the sums -/
def Sum_p (f : Nat → El) (n : Nat) (w : World) (e : Ending) (w' : World) : Prop := ∃ v, e = .returned (.float .f64 v) ∧ Is (sumF f n) v ∧ Below w.heap.size w w'
set_option maxHeartbeats 1000000 in
theorem refSum_any (n : Nat) (f : Nat → El) (v : Value) (B : Nat) (w : World) (h : Sl w B 1 v n (fcells n f)) (hB : B ≤ w.heap.size) (hn : n ≤ 1000000) :
    Calls Try.prog 22 #[v] w (Sum_p f n w) := by
  obtain ⟨a, cap, rfl, hcap⟩ := h.form
  have HS := Lib.hid (fun (W : World) (hW : Below w.heap.size w W) => h.below (hW.mono hB))
  clear h
  go_enter Try.func22, Try.ntmps22
  go_wp2_with (fail)
  go_loopw [3, 4] (fun s i wr => ∃ (j v : Nat), s = .float .f64 v ∧ i = .int .i64 j ∧ j ≤ n ∧ Hid (Is (sumF f j) v) ∧ Hid (Below w.heap.size w wr)) (fun _ i _ => n - (intOf i).toNat)
  case atStart => exact ⟨0, 0, rfl, rfl, Nat.zero_le _, Lib.hid (Is.zero f), Lib.hid (Below.refl _ _)⟩
  case round =>
    obtain ⟨j, v, rfl, rfl, hj, HI, HB⟩ := hrel
    obtain ⟨wo, rfl⟩ : ∃ z : World, z = wr := ⟨_, rfl⟩
    by_cases hlt : j < n
    · have d1 : decide (j < n) = true := decide_eq_true hlt
      have d2 : decide ((j : Int) < (n : Int)) = true := decide_eq_true (by omega)
      have q1 : IntKind.i64.wrap ((j : Int) + 1) = (j : Int) + 1 := IntWalk.i64_in _ (by omega)
      have hbi : (j : Int) < (n : Int) := by omega
      obtain ⟨b, off, rfl, hk0⟩ := sl_cells (HS.out wo HB.out) (by omega)
      have k1 := hk0 j _ (fcells_get f hlt)
      obtain ⟨z, hz⟩ : ∃ z, enc (f j) = .float .f64 z := ⟨_, rfl⟩
      obtain ⟨v', w', hi, hb, hr⟩ := HI.out.step hz wo
      have HI' := Lib.hid hi
      have HB' := Lib.hid (HB.out.trans (hb.mono HB.out.size))
      rw [hz] at k1
      clear hk0 HI HB hi hb hz
      go_wp2_with (fail)
      go_roundw
      case rel => exact ⟨j + 1, v', rfl, rfl, by omega, HI', HB'⟩
      case measure => simp [intOf] <;> omega
    · have d1 : decide (j < n) = false := decide_eq_false hlt
      have d2 : decide ((j : Int) < (n : Int)) = false := decide_eq_false (by omega)
      obtain rfl : j = n := by omega
      go_wp2_with (fail)
      go_ret
      exact ⟨v, rfl, HI.out, HB.out⟩
set_option maxHeartbeats 1000000 in
theorem sum_any (n : Nat) (f : Nat → El) (v : Value) (B : Nat) (w : World) (h : Sl w B 1 v n (fcells n f)) (hB : B ≤ w.heap.size) (hn : n ≤ 1000000) :
    Calls Try.prog 24 #[v] w (Sum_p f n w) := by
  obtain ⟨a, cap, rfl, hcap⟩ := h.form
  have HS := Lib.hid (fun (W : World) (hW : Below w.heap.size w W) => h.below (hW.mono hB))
  clear h
  go_enter Try.func24, Try.ntmps24
  go_wp2_with (fail)
  go_loopw [3, 8] (fun s i wr => ∃ (j v : Nat), s = .float .f64 v ∧ i = .int .i64 j ∧ j ≤ n ∧ Hid (Is (sumF f j) v) ∧ Hid (Below w.heap.size w wr)) (fun _ i _ => n - (intOf i).toNat)
  case atStart => exact ⟨0, 0, rfl, rfl, Nat.zero_le _, Lib.hid (Is.zero f), Lib.hid (Below.refl _ _)⟩
  case round =>
    obtain ⟨j, v, rfl, rfl, hj, HI, HB⟩ := hrel
    obtain ⟨wo, rfl⟩ : ∃ z : World, z = wr := ⟨_, rfl⟩
    by_cases hlt : j < n
    · have d1 : decide (j < n) = true := decide_eq_true hlt
      have d2 : decide ((j : Int) < (n : Int)) = true := decide_eq_true (by omega)
      have q1 : IntKind.i64.wrap ((j : Int) + 1) = (j : Int) + 1 := IntWalk.i64_in _ (by omega)
      have hbi : (j : Int) < (n : Int) := by omega
      obtain ⟨b, off, rfl, hk0⟩ := sl_cells (HS.out wo HB.out) (by omega)
      have k1 := hk0 j _ (fcells_get f hlt)
      obtain ⟨z, hz⟩ : ∃ z, enc (f j) = .float .f64 z := ⟨_, rfl⟩
      obtain ⟨v', w', hi, hb, hr⟩ := HI.out.step hz wo
      have HI' := Lib.hid hi
      have HB' := Lib.hid (HB.out.trans (hb.mono HB.out.size))
      rw [hz] at k1
      clear hk0 HI HB hi hb hz
      go_wp2_with (fail)
      go_roundw
      case rel => exact ⟨j + 1, v', rfl, rfl, by omega, HI', HB'⟩
      case measure => simp [intOf] <;> omega
    · have d1 : decide (j < n) = false := decide_eq_false hlt
      have d2 : decide ((j : Int) < (n : Int)) = false := decide_eq_false (by omega)
      obtain rfl : j = n := by omega
      go_wp2_with (fail)
      go_ret
      exact ⟨v, rfl, HI.out, HB.out⟩
/-! ### no number -/
theorem nan_any (w : World) : Calls Try.prog 33 #[] w fun e w' => ∃ v, e = .returned (.float .f64 v) ∧ nan v = true ∧ v < 18446744073709551616 ∧ w' = w := by
  have hr : (callFunc 40 #[.int .u64 9221120237041090561]).run Try.prog w = .ok (.value (.float .f64 9221120237041090561)) w := by kernel_rfl
  go_enter Try.func33, Try.ntmps33
  go_wp2
  go_ret
  exact ⟨_, rfl, by decide, by decide, rfl⟩
theorem mean_zero (f : Nat → El) : meanF f 0 = none := by
  unfold meanF sumF
  decide
theorem len_ex (n : Nat) : ∃ z, floatOfInt .f64 (n : Int) = z := ⟨_, rfl⟩
set_option maxHeartbeats 1000000 in
theorem mean_any (n : Nat) (f : Nat → El) (v : Value) (B : Nat) (w : World) (h : Sl w B 1 v n (fcells n f)) (hB : B ≤ w.heap.size) (hn : n ≤ 1000000) :
    Calls Try.prog 25 #[v] w fun e w' => ∃ v, e = .returned (.float .f64 v) ∧ Is (meanF f n) v ∧ Below w.heap.size w w' := by
  have HSUM := Lib.hid (sum_any n f v B w h hB hn)
  obtain ⟨a, cap, rfl, hcap⟩ := h.form
  clear h
  by_cases h0 : n = 0
  · subst h0
    go_enter Try.func25, Try.ntmps25
    go_wp2_with (fail)
    refine (nan_any w).mono ?_
    rintro e w' ⟨v, rfl, n1, b1, rfl⟩
    have HI := Lib.hid (show Is (meanF f 0) v from ⟨b1, .inr ⟨mean_zero f, n1⟩⟩)
    clear n1 b1 HSUM
    go_wp2_with (fail)
    go_ret
    exact ⟨v, rfl, HI.out, Below.refl _ _⟩
  · have d1 : decide (n = 0) = false := decide_eq_false h0
    have d2 : decide ((n : Int) = 0) = false := decide_eq_false (by omega)
    have d3 : ((n : Int) == 0) = false := by simpa using h0
    go_enter Try.func25, Try.ntmps25
    go_wp2_with (fail)
    refine HSUM.out.mono ?_
    rintro e w1 ⟨s, rfl, hi, hb⟩
    obtain ⟨v', w2, hi2, hb2, hr⟩ := hi.mean w1
    have HI := Lib.hid hi2
    have HB := Lib.hid (hb.trans (hb2.mono hb.size))
    clear hi hi2 hb hb2 HSUM
    go_wp2_with (fail)
    go_ret
    exact ⟨v', rfl, HI.out, HB.out⟩
/-! ### the middle -/
set_option maxHeartbeats 1000000 in
theorem median_zero (a : Option Addr) (cap : Nat) (w : World) :
    Calls Try.prog 23 #[.slice a 0 cap] w fun e w' => ∃ v, e = .returned (.float .f64 v) ∧ nan v = true ∧ v < 18446744073709551616 ∧ w' = w := by
  go_enter Try.func23, Try.ntmps23
  go_wp2_with (fail)
  refine (nan_any w).mono ?_
  rintro e w' ⟨v, rfl, n1, b1, rfl⟩
  have HI := Lib.hid n1
  have HI2 := Lib.hid b1
  clear n1 b1
  go_wp2_with (fail)
  go_ret
  exact ⟨v, rfl, HI.out, HI2.out, rfl⟩
set_option maxHeartbeats 1000000 in
theorem median_any (n : Nat) (f : Nat → El) (v : Value) (B : Nat) (w : World) (h : Sl w B 1 v n (fcells n f)) (hB : B ≤ w.heap.size) (hn : n ≤ 1000) (h0 : 0 < n) :
    Calls Try.prog 23 #[v] w fun e w' => ∃ g, e = .returned (enc (g ((n - 1) / 2))) ∧ Srt leF g 0 n ∧ Sw 0 n f g ∧ Below w.heap.size w w' := by
  have HSO := Lib.hid (sort_any n f v B w h hB hn)
  obtain ⟨a, cap, rfl, hcap⟩ := h.form
  clear h
  have d1 : decide (n = 0) = false := decide_eq_false (by omega)
  have d2 : decide ((n : Int) = 0) = false := decide_eq_false (by omega)
  obtain ⟨p, rfl⟩ : ∃ p, n = p + 1 := ⟨n - 1, by omega⟩
  have d3 : ((p : Int) + 1 == 0) = false := by simp; omega
  have q1 : IntKind.i64.wrap ((p : Int) + 1 - 1) = (p : Int) := by rw [IntWalk.i64_in _ (by omega)]; omega
  have q2 : IntKind.i64.wrap ((p : Int).tdiv 2) = ((p / 2 : Nat) : Int) := by rw [show (p : Int).tdiv 2 = ((p / 2 : Nat) : Int) from rfl, IntWalk.i64_in _ (by omega)]
  have hlt : p / 2 < p + 1 := by omega
  have hlt' : ((p / 2 : Nat) : Int) < (p : Int) + 1 := by omega
  go_enter Try.func23, Try.ntmps23
  go_wp2_with (fail)
  refine HSO.out.mono ?_
  rintro e w1 ⟨v', g, rfl, hs, ht, hw, hb⟩
  obtain ⟨a1, cap1, rfl, hcap1⟩ := hs.form
  obtain ⟨b, off, rfl, hk0⟩ := sl_cells hs (by omega)
  have k1 := hk0 (p / 2) _ (fcells_get g hlt)
  have HT := Lib.hid ht
  have HW := Lib.hid hw
  have HB := Lib.hid hb
  clear hs ht hw hb hk0 HSO
  go_wp2_with (fail)
  go_ret
  exact ⟨g, rfl, HT.out, HW.out, HB.out⟩
/-! ### those that are finite -/
def finB (x : El) : Bool := !(cls x.1 == 0) && !(cls x.1 == 1) && !(cls x.1 == 6)
def fins (f : Nat → El) (n : Nat) : List El := ((List.range n).map f).filter finB
theorem fins_succ (f : Nat → El) (n : Nat) : fins f (n + 1) = fins f n ++ (if finB (f n) then [f n] else []) := by
  unfold fins
  rw [List.range_succ, List.map_append, List.filter_append]
  congr 1
  simp only [List.map_cons, List.map_nil, List.filter_cons, List.filter_nil]
theorem fins_yes {f : Nat → El} {n : Nat} (h : finB (f n) = true) : fins f (n + 1) = fins f n ++ [f n] := by rw [fins_succ, if_pos h]
theorem fins_no {f : Nat → El} {n : Nat} (h : finB (f n) = false) : fins f (n + 1) = fins f n := by rw [fins_succ, if_neg (by rw [h]; decide), List.append_nil]
theorem fins_len (f : Nat → El) (n : Nat) : (fins f n).length ≤ n := by
  unfold fins
  refine Nat.le_trans (List.length_filter_le _ _) ?_
  simp
theorem fins_prefix (f : Nat → El) (j : Nat) : ∀ n, j ≤ n → ∃ r, fins f n = fins f j ++ r := by
  intro n h
  induction n with
  | zero => exact ⟨[], by rw [show j = 0 by omega]; simp⟩
  | succ n ih =>
    by_cases hj : j = n + 1
    · exact ⟨[], by rw [hj]; simp⟩
    · obtain ⟨r, hr⟩ := ih (by omega)
      exact ⟨r ++ (if finB (f n) then [f n] else []), by rw [fins_succ, hr, List.append_assoc]⟩
theorem fins_at {f : Nat → El} {n j : Nat} (hj : j < n) (h : finB (f j) = true) : (fins f n)[(fins f j).length]? = some (f j) ∧ (fins f j).length < (fins f n).length := by
  obtain ⟨r, hr⟩ := fins_prefix f (j + 1) n hj
  rw [fins_yes h] at hr
  rw [hr]
  constructor
  · simp
  · simp
theorem encs_one (l : List El) : ∀ u ∈ l.map enc, u.oneCell' = true := by
  intro u hu
  rw [List.mem_map] at hu
  obtain ⟨k, _, rfl⟩ := hu
  rfl
set_option maxHeartbeats 400000 in
theorem finite_any (n : Nat) (f : Nat → El) (v : Value) (B : Nat) (w : World) (h : Sl w B 1 v n (fcells n f)) (hB : B ≤ w.heap.size) (hn : n ≤ 1000000) :
    Calls Try.prog 21 #[v] w fun e w' => ∃ v', e = .returned v' ∧ Row w.heap.size 23 1 w' v' (fins f n).length ((fins f n).map enc) ∧ Below w.heap.size w w' := by
  obtain ⟨a, cap, rfl, hcap⟩ := h.form
  have HS := Lib.hid (fun (W : World) (hW : Below w.heap.size w W) => h.below (hW.mono hB))
  clear h
  go_enter Try.func21, Try.ntmps21
  go_wp2_with (fail)
  go_loopw [3, 9] (fun v i wr => ∃ (j : Nat), i = .int .i64 j ∧ j ≤ n ∧ Hid (Row w.heap.size 23 1 wr v (fins f j).length ((fins f j).map enc)) ∧ Hid (Below w.heap.size w wr)) (fun _ i _ => n - (intOf i).toNat)
  case atStart => exact ⟨0, rfl, Nat.zero_le _, Lib.hid Row.nil, Lib.hid (Below.refl _ _)⟩
  case round =>
    obtain ⟨j, rfl, hj, HR, HB⟩ := hrel
    obtain ⟨wo, rfl⟩ : ∃ z : World, z = wr := ⟨_, rfl⟩
    obtain ⟨ba, bc, rfl, hbc⟩ := HR.out.form
    by_cases hlt : j < n
    rotate_left
    · have d1 : decide (j < n) = false := decide_eq_false hlt
      have d2 : decide ((j : Int) < (n : Int)) = false := decide_eq_false (by omega)
      obtain rfl : j = n := by omega
      go_wp2_with (fail)
      go_ret
      exact ⟨_, rfl, HR.out, HB.out⟩
    have d1 : decide (j < n) = true := decide_eq_true hlt
    have d2 : decide ((j : Int) < (n : Int)) = true := decide_eq_true (by omega)
    have q1 : IntKind.i64.wrap ((j : Int) + 1) = (j : Int) + 1 := IntWalk.i64_in _ (by omega)
    have hbi : (j : Int) < (n : Int) := by omega
    obtain ⟨b, off, rfl, hk0⟩ := sl_cells (HS.out wo HB.out) (by omega)
    have k1 := hk0 j _ (fcells_get f hlt)
    have HCL := Lib.hid (fun W => class_any (f j).1 (f j).2 W)
    have hfb : finB (f j) = (!(cls (f j).1 == 0) && !(cls (f j).1 == 1) && !(cls (f j).1 == 6)) := rfl
    generalize cls (f j).1 = k at *
    by_cases hk : k = 0 ∨ k = 1 ∨ k = 6
    · have HR2 : Hid (Row w.heap.size 23 1 wo (.slice ba (fins f j).length bc) (fins f (j + 1)).length ((fins f (j + 1)).map enc)) := Lib.hid (by
        rw [fins_no (show finB (f j) = false by rw [hfb]; rcases hk with rfl | rfl | rfl <;> rfl)]
        exact HR.out)
      clear hfb hk0 HR
      generalize (fins f j).length = m at *
      rcases hk with rfl | rfl | rfl
      all_goals
        go_wp2_with (go_at_call 13; refine (HCL.out _).mono ?_; rintro e w' ⟨rfl, rfl⟩)
        go_roundw
        case rel => exact ⟨j + 1, rfl, by omega, HR2, HB⟩
        case measure => simp [intOf] <;> omega
    · have e0 : (k == 0) = false := by simp; omega
      have e1 : (k == 1) = false := by simp; omega
      have e6 : (k == 6) = false := by simp; omega
      have g0 : (k != 0) = true := by simp; omega
      have g1 : (k != 1) = true := by simp; omega
      have g6 : (k != 6) = true := by simp; omega
      have hy : finB (f j) = true := by rw [hfb, e0, e1, e6]; rfl
      have HY := Lib.hid (fins_yes hy)
      have hm := fins_len f j
      obtain ⟨z, hz0⟩ : ∃ z, (f j).1 = z := ⟨_, rfl⟩
      have hz : enc (f j) = .float .f64 z := by unfold enc; rw [hz0]
      rw [hz0] at HCL
      have hA2 := (Below.refl wo.heap.size wo).alloc (Nat.le_refl _) (.cells #[.float .f64 z] 23)
      have HR2 := Lib.hid (HR.out.below hA2)
      have hz2 : w.heap.size ≤ wo.heap.size := HB.out.size
      have HB2 := Lib.hid (HB.out.trans (hA2.mono hz2))
      have HZ := Lib.hid hz
      rw [hz] at k1
      clear hk0 HB hA2 hfb hk HR hz hy hz0
      obtain ⟨m, hm0⟩ : ∃ m, (fins f j).length = m := ⟨_, rfl⟩
      rw [hm0] at HR2 hm
      have HM := Lib.hid hm0
      rw [hm0]
      clear hm0
      go_wp2_with (first
        | (at_builtin; refine append_row Try.underlying32 info_f64 rfl (by decide) rfl _ _ rfl rfl HR2.out rfl (Sl.new _ 1 1 [.float .f64 z] 23 rfl) (by intro u hu; simp at hu; subst hu; rfl) ?_ ?_ ?_ ?_; omega; omega; (simp; omega))
        | (go_at_call 13; refine (HCL.out _).mono ?_; rintro e w' ⟨rfl, rfl⟩))
      intro v7 w7 hr7 hb7
      have HR7 : Hid (Row w.heap.size 23 1 w7 v7 (fins f (j + 1)).length ((fins f (j + 1)).map enc)) := Lib.hid (by
        rw [HY.out, List.map_append, List.length_append, HM.out]
        simp only [List.map_cons, List.map_nil, List.length_cons, List.length_nil, HZ.out]
        exact hr7)
      have HB7 := Lib.hid (HB2.out.trans hb7)
      clear hr7 hb7
      go_wp2_with (fail)
      go_roundw
      case rel => exact ⟨j + 1, rfl, by omega, HR7, HB7⟩
      case measure => simp [intOf] <;> omega
end Go.Proofs.Ytpjjfkogcfdnkaa
