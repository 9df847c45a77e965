/- few; the order in which calls ended. -/
import Derived.Test.YtmcbgjkogggneaaDoorLiF
import Derived.Test.YtmcbgjkogggneaaDoorSrC
namespace Go.Proofs.YtmcbgjkogggneaaDoor
set_option maxRecDepth 100000
set_option linter.unusedVariables false
set_option linter.unusedSimpArgs false
open Go.RowKit
theorem sl_cells {w : World} {B size n cap : Nat} {a : Option Addr} {cs : List Value} (h : Sl w B size (.slice a n cap) n cs) (hn : 0 < n) : ∃ b off, a = some ⟨b, off, none⟩ ∧ ∀ j u, cs[j]? = some u → w.cell? ⟨b, off + j, none⟩ = some u := by
  obtain ⟨b, off, cap', he, _, _, hk⟩ := h.pos hn
  injection he with he1 he2 he3
  exact ⟨b, off, he1, hk⟩
theorem sl_same {w : World} {B size n cap b off : Nat} {cs : List Value} (h : Sl w B size (.slice (some ⟨b, off, none⟩) n cap) n cs) (hn : 0 < n) : ∀ j u, cs[j]? = some u → w.cell? ⟨b, off + j, none⟩ = some u := by
  obtain ⟨b', off', he, hk⟩ := sl_cells h hn
  injection he with he
  injection he with h1 h2
  subst h1 h2
  exact hk
set_option maxHeartbeats 1000000 in
theorem few_any (n : Nat) (cv : Nat → CallV) (v : Value) (B : Nat) (w : World) (h : Sl w B 6 v n (ccells n cv)) (hB : B ≤ w.heap.size) (hn : n ≤ maxLen) :
    Calls Tryd.prog 8 #[v] w fun e w' => ∃ b, e = .returned (.bool b) ∧ (b = true → n ≤ 20 ∧ ∀ i, i < n → (cv i).nn ≤ 20) ∧ Below w.heap.size w w' := by
  unfold maxLen at hn
  obtain ⟨a, cap, rfl, hcap⟩ := h.form
  have HS := Lib.hid h
  clear h
  by_cases hlong : 20 < n
  · have d2 : decide ((20 : Int) < (n : Int)) = true := decide_eq_true (by omega)
    go_enter Tryd.func8, Tryd.ntmps8
    go_wp2_with (fail)
    go_ret
    exact ⟨false, rfl, nofun, Below.refl _ _⟩
  have d2 : decide ((20 : Int) < (n : Int)) = false := decide_eq_false (by omega)
  go_enter Tryd.func8, Tryd.ntmps8
  go_wp2_with (fail)
  go_loopw [3] (fun i wr => ∃ j : Nat, i = .int .i64 j ∧ j ≤ n ∧ Hid (∀ k, k < j → (cv k).nn ≤ 20) ∧ wr = w) (fun i _ => n - (intOf i).toNat)
  case atStart => exact ⟨0, rfl, Nat.zero_le _, Lib.hid (fun k hk => by omega), rfl⟩
  case round =>
    obtain ⟨j, rfl, hj, HF, rfl⟩ := hrel
    by_cases hlt : j < n
    rotate_left
    · have d1 : decide (j < n) = false := decide_eq_false hlt
      have d2 : decide ((j : Int) < (n : Int)) = false := decide_eq_false (by omega)
      obtain rfl : j = n := by omega
      go_wp2_with (fail)
      go_ret
      exact ⟨true, rfl, fun _ => ⟨by omega, HF.out⟩, Below.refl _ _⟩
    have d1 : decide (j < n) = true := decide_eq_true hlt
    have d2 : decide ((j : Int) < (n : Int)) = true := decide_eq_true (by omega)
    have q1 : IntKind.i64.wrap ((j : Int) + 1) = (j : Int) + 1 := IntWalk.i64_in _ (by omega)
    have hbi : (j : Int) < (n : Int) := by omega
    obtain ⟨b, off, rfl, hk0⟩ := sl_cells HS.out (by omega)
    have k1 := hk0 (j * 6 + 3) _ (ccells_get cv hlt 3 (by omega))
    rw [← Nat.add_assoc] at k1
    clear hk0
    by_cases hnn : 20 < (cv j).nn
    · have d3 : decide ((20 : Int) < ((cv j).nn : Int)) = true := decide_eq_true (by omega)
      clear hnn
      generalize (cv j).nn = m at *
      go_wp2_with (fail)
      go_ret
      exact ⟨false, rfl, nofun, Below.refl _ _⟩
    · have d3 : decide ((20 : Int) < ((cv j).nn : Int)) = false := decide_eq_false (by omega)
      have HF2 : Hid (∀ k, k < j + 1 → (cv k).nn ≤ 20) := Lib.hid (fun k hk => by
        by_cases e : k = j
        · subst e; omega
        · exact HF.out k (by omega))
      clear hnn
      generalize (cv j).nn = m at *
      go_wp2_with (fail)
      go_roundw
      case rel => exact ⟨j + 1, rfl, by omega, HF2, trivial⟩
      case measure => simp [intOf] <;> omega
/-! ### the function that compares -/
def sg (a b : Int) : Int := if a < b then -1 else if b < a then 1 else 0
theorem intNaN_any (a : Int) (w : World) : Calls Tryd.prog 44 #[.int .i64 a] w fun e w' => e = .returned (.bool false) ∧ w' = w := by
  go_enter Tryd.func44, Tryd.ntmps44
  go_wp2
  go_ret
  exact ⟨by simp, rfl⟩
theorem cmp_any (a b : Int) (w : World) : Calls Tryd.prog 32 #[.int .i64 a, .int .i64 b] w fun e w' => e = .returned (.int .i64 (sg a b)) ∧ w' = w := by
  have HS : Hid (sg a b = if a < b then -1 else if b < a then 1 else 0) := rfl
  generalize sg a b = x at *
  go_enter Tryd.func32, Tryd.ntmps32
  go_wp2_with (first | (go_at_call 44; refine (intNaN_any _ _).mono ?_; rintro e w' ⟨rfl, rfl⟩))
  all_goals
    go_ret
    refine ⟨?_, rfl⟩
    rw [HS.out]
    first
      | (rw [if_pos (by assumption)]; rfl)
      | (rw [if_neg (by omega), if_pos (by assumption)]; rfl)
      | (rw [if_neg (by omega), if_neg (by omega)]; rfl)
set_option maxHeartbeats 1000000 in
theorem less_any (n cap : Nat) (a : Option Addr) (cv : Nat → CallV) (pb x y : Nat) (B : Nat) (w : World) (hp : w.cell? ⟨pb, 0, none⟩ = some (.slice a n cap)) (hpb : pb < w.heap.size) (h : Sl w B 6 (.slice a n cap) n (ccells n cv)) (hB : B ≤ w.heap.size) (hx : x < n) (hy : y < n) :
    Calls Tryd.prog 31 #[.int .i64 x, .int .i64 y, .pointer (some ⟨pb, 0, none⟩)] w fun e w' => e = .returned (.int .i64 (sg (cv x).fin (cv y).fin)) ∧ Below w.heap.size w w' := by
  obtain ⟨b, off, rfl, hk0⟩ := sl_cells h (by omega)
  have kp : Hid (∀ W, Below w.heap.size w W → W.cell? ⟨pb, 0, none⟩ = some (.slice (some ⟨b, off, none⟩) n cap)) := Lib.hid (fun W hW => (hW.cell (p := ⟨pb, 0, none⟩) hpb).trans hp)
  have kx : Hid (∀ W, Below w.heap.size w W → W.cell? ⟨b, off + x * 6 + 5, none⟩ = some (.int .i64 (cv x).fin)) := Lib.hid (fun W hW => by
    have := sl_same (h.below (hW.mono hB)) (by omega) _ _ (ccells_get cv hx 5 (by omega))
    rw [← Nat.add_assoc] at this
    exact this)
  have ky : Hid (∀ W, Below w.heap.size w W → W.cell? ⟨b, off + y * 6 + 5, none⟩ = some (.int .i64 (cv y).fin)) := Lib.hid (fun W hW => by
    have := sl_same (h.below (hW.mono hB)) (by omega) _ _ (ccells_get cv hy 5 (by omega))
    rw [← Nat.add_assoc] at this
    exact this)
  have HC := Lib.hid (cmp_any (cv x).fin (cv y).fin)
  have hx' : (x : Int) < (n : Int) := by omega
  have hy' : (y : Int) < (n : Int) := by omega
  generalize sg (cv x).fin (cv y).fin = r at *
  generalize (cv x).fin = fx at *
  generalize (cv y).fin = fy at *
  clear hk0 h hp
  go_enter Tryd.func31, Tryd.ntmps31
  go_upto_region 1 with (fail)
  refine Mono.region_below (by kernel_rfl) (by kernel_rfl) (by kernel_rfl) ?_
  refine Mono.rgl_val (v := ?vc0) rfl Mono.rr (fun ρ a W hR hd hf => ?hc0) ?_
  case hc0 =>
    have e2 := Mono.init_get hf (t := 2) (by kernel_rfl)
    have hk := kp.out W hR
    clear hd hf
    (go_simp; try with_reducible rfl)
  refine Mono.rgl_val (v := ?vc1) rfl Mono.rr (fun ρ a W hR hd hf => ?hc1) ?_
  case hc1 =>
    have e0 := Mono.init_get hf (t := 0) (by kernel_rfl)
    clear hd hf
    (go_simp; try with_reducible rfl)
  refine Mono.rgl_val (v := ?vc2) rfl Mono.rr (fun ρ a W hR hd hf => ?hc2) ?_
  case hc2 =>
    have e6 := Mono.dep_val hd hf (t := 6) (k := 0) (by kernel_rfl) rfl
    have e7 := Mono.dep_val hd hf (t := 7) (k := 1) (by kernel_rfl) rfl
    clear hd hf
    (go_simp; try with_reducible rfl)
  refine Mono.rgl_val (v := ?vc3) rfl Mono.rr (fun ρ a W hR hd hf => ?hc3) ?_
  case hc3 =>
    have e8 := Mono.dep_val hd hf (t := 8) (k := 2) (by kernel_rfl) rfl
    clear hd hf
    (go_simp; try with_reducible rfl)
  refine Mono.rgl_val (v := ?vc4) rfl Mono.rr (fun ρ a W hR hd hf => ?hc4) ?_
  case hc4 =>
    have e9 := Mono.dep_val hd hf (t := 9) (k := 3) (by kernel_rfl) rfl
    have hk := kx.out W hR
    clear hd hf
    (go_simp; try with_reducible rfl)
  refine Mono.rgl_val (v := ?vc5) rfl Mono.rr (fun ρ a W hR hd hf => ?hc5) ?_
  case hc5 =>
    have e2 := Mono.init_get hf (t := 2) (by kernel_rfl)
    have hk := kp.out W hR
    clear hd hf
    (go_simp; try with_reducible rfl)
  refine Mono.rgl_val (v := ?vc6) rfl Mono.rr (fun ρ a W hR hd hf => ?hc6) ?_
  case hc6 =>
    have e1 := Mono.init_get hf (t := 1) (by kernel_rfl)
    clear hd hf
    (go_simp; try with_reducible rfl)
  refine Mono.rgl_val (v := ?vc7) rfl Mono.rr (fun ρ a W hR hd hf => ?hc7) ?_
  case hc7 =>
    have e11 := Mono.dep_val hd hf (t := 11) (k := 5) (by kernel_rfl) rfl
    have e12 := Mono.dep_val hd hf (t := 12) (k := 6) (by kernel_rfl) rfl
    clear hd hf
    (go_simp; try with_reducible rfl)
  refine Mono.rgl_val (v := ?vc8) rfl Mono.rr (fun ρ a W hR hd hf => ?hc8) ?_
  case hc8 =>
    have e13 := Mono.dep_val hd hf (t := 13) (k := 7) (by kernel_rfl) rfl
    clear hd hf
    (go_simp; try with_reducible rfl)
  refine Mono.rgl_val (v := ?vc9) rfl Mono.rr (fun ρ a W hR hd hf => ?hc9) ?_
  case hc9 =>
    have e14 := Mono.dep_val hd hf (t := 14) (k := 8) (by kernel_rfl) rfl
    have hk := ky.out W hR
    clear hd hf
    (go_simp; try with_reducible rfl)
  refine Mono.rgl_call (fun x _ => x = .int .i64 r) rfl Mono.rr (fun _ _ _ h _ => h) (fun ρ a W hR hd hf => ?hc10) ?_
  case hc10 =>
    have e10 := Mono.dep_val hd hf (t := 10) (k := 4) (by kernel_rfl) rfl
    have e15 := Mono.dep_val hd hf (t := 15) (k := 9) (by kernel_rfl) rfl
    clear hd hf
    refine ⟨_, _, by go_simp; first | rfl | exact ⟨rfl, rfl⟩, ?_⟩
    exact (HC.out W).mono (by rintro e w' ⟨rfl, rfl⟩; exact ⟨_, rfl, Below.refl _ _, rfl⟩)
  refine Mono.rgl_val (v := ?vc11) rfl Mono.rr (fun ρ a W hR hd hf => ?hc11) ?_
  case hc11 =>
    have e16 := Mono.dep_val hd hf (t := 16) (k := 10) (by kernel_rfl) rfl
    clear hd hf
    (go_simp; try with_reducible rfl)
  refine Mono.rgl_done rfl (fun ρ W hR ht => ?_)
  obtain ⟨dc11, dc10, dc9, dc8, dc7, dc6, dc5, dc4, dc3, dc2, dc1, dc0, _⟩ := ht
  simp only [List.length_cons, List.length_nil, Nat.reduceAdd] at dc0 dc1 dc2 dc3 dc4 dc5 dc6 dc7 dc8 dc9 dc10 dc11
  simp only [Mono.putAll, Nat.reduceAdd, dc0, dc1, dc2, dc3, dc4, dc5, dc6, dc7, dc8, dc9, dc10, dc11, Act.put, List.setIfInBounds_toArray, List.set_cons_zero, List.set_cons_succ]
  clear dc0 dc1 dc2 dc3 dc4 dc5 dc6 dc7 dc8 dc9 dc10 dc11

  have HB := Lib.hid hR
  clear hR
  go_wp2_with (fail)
  go_ret
  exact ⟨by rfl, HB.out⟩
end Go.Proofs.YtmcbgjkogggneaaDoor
