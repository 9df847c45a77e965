/- slices.Backward; linear.isTimely. -/
import Derived.Test.YtmcbgjkogggneaaDoorLkH
import Derived.RangeFuncNested
import Derived.RangeFuncBound
import Derived.RangeFuncCalls
import Derived.RangeFuncLeaves
import Derived.RangeFuncBox
import Derived.Shelf.Abstract
import Derived.Shelf.RegionOpen
import Derived.OwnWalkIn
import Derived.TacticsInMore
import Derived.LoopNIn
import Derived.LoopIn
namespace Go.Proofs.YtmcbgjkogggneaaDoor
set_option maxRecDepth 100000
set_option linter.unusedVariables false
set_option linter.unusedSimpArgs false
open Go.RowKit Go.Shelf
attribute [local go_sem] Oper.semAt_some
/-- What the iterator hands on: a place and what stands there. -/
abbrev At (n : Nat) := { p : Nat × Nat // p.2 < n }
/-- What a round keeps. -/
def Kp (n1 Bs : Nat) (W W' : World) : Prop := Below n1 W W' ∧ W'.cell? ⟨Bs, 0, none⟩ = W.cell? ⟨Bs, 0, none⟩
/-- The list, from its end. -/
def IsBw (n m : Nat) (o : Nat → Nat) (L : List (At n)) : Prop := L.length = m ∧ ∀ k, k < m → ∃ x, L[k]? = some x ∧ x.1 = (m - 1 - k, o (m - 1 - k))
set_option maxRecDepth 100000 in
set_option maxHeartbeats 2000000 in
theorem back1_in (F : Fence) (N : Nat) (h45 : F.fn 45) (hro : F.round = none) (hN : 1 ≤ N) (l Bs n1 n m : Nat) (a : Option Addr) (cap : Nat) (o : Nat → Nat) (L : List (At n)) (hL : IsBw n m o L) (hm : m ≤ 1000) (J Jx : List (At n) → World → Prop)
    (hY : ∀ pre x W, J pre W → pre.length < m → YieldAt F (N - 1) Tryd.prog l #[.int .i64 (x.1.1 : Int), .int .i64 (x.1.2 : Int)] W fun e W' =>
      (e = .returned (.bool true) ∧ J (pre ++ [x]) W' ∧ Kp n1 Bs W W') ∨ (e = .returned (.bool false) ∧ Jx (pre ++ [x]) W'))
    (W : World) (hBs : W.cell? ⟨Bs, 0, none⟩ = some (.slice a m cap)) (hs : Sl W n1 1 (.slice a m cap) m (icells m o)) (h0 : J [] W) :
    CallsIn F N Tryd.prog 45 #[.func (.yield l) #[] #[], .pointer (some ⟨Bs, 0, none⟩)] W fun e W' => (∃ v, e = .returned v) ∧
      ((∃ ys, ys = L ∧ J ys W') ∨ (∃ pre, (∃ k, k ≤ m ∧ pre = L.take k) ∧ Jx pre W')) := by
  refine callsIn_of_wp Tryd.func45 rfl h45 ?_ hro
  simp only [Tryd.ntmps45, List.size_toArray, List.length_cons, List.length_nil, Nat.reduceAdd, Nat.reduceSub, Array.replicate_succ, Array.replicate_zero, List.push_toArray, List.append_toArray, List.nil_append, List.cons_append]
  have q0 : IntKind.i64.wrap ((m : Int) - 1) = (m : Int) - 1 := IntWalk.i64_in _ (by omega)
  gi_wp2
  gi_loopw [3] (fun i wr => ∃ (k : Nat) (y : Int), i = .int .i64 y ∧ y = (m : Int) - 1 - k ∧ k ≤ m ∧ J (L.take k) wr ∧ Kp n1 Bs W wr) (fun i _ => (intOf i + 1).toNat)
  case atStart => exact ⟨0, (m : Int) - 1, rfl, by omega, Nat.zero_le _, by simpa using h0, Below.refl _ _, rfl⟩
  case round =>
    obtain ⟨k, y, rfl, hy, hk, hJs, hnx⟩ := hrel
    have hBs2 : wr.cell? ⟨Bs, 0, none⟩ = some (.slice a m cap) := hnx.2.trans hBs
    by_cases hlt : k < m
    · obtain ⟨p, hp⟩ : ∃ p : Nat, m - 1 - k = p := ⟨_, rfl⟩
      obtain rfl : y = (p : Int) := by omega
      obtain ⟨x, hx, hx1⟩ := hL.2 k hlt
      rw [hp] at hx1
      have hpm : p < m := by omega
      have hpi : (p : Int) < (m : Int) := by omega
      have d1 : decide ((0 : Int) ≤ (p : Int)) = true := decide_eq_true (by omega)
      have q1 : IntKind.i64.wrap ((p : Int) - 1) = (p : Int) - 1 := IntWalk.i64_in _ (by omega)
      obtain ⟨b, off, rfl, hk0⟩ := sl_cells (hs.below hnx.1) (by omega)
      have hc : wr.cell? ⟨b, off + p, none⟩ = some (.int .i64 (o p : Nat)) := hk0 p _ (icells_get o hpm)
      have htk : L.take (k + 1) = L.take k ++ [x] := by rw [List.take_add_one, hx]; rfl
      obtain ⟨fn, tmps, assign, body, hyy, hR⟩ := hY _ x wr hJs (by rw [List.length_take, hL.1]; omega)
      rw [hx1] at hyy
      dsimp only at hyy
      have HR := Lib.hid hR
      have HNX := Lib.hid hnx
      have HTK := Lib.hid htk
      clear hk0 hx hx1 htk hR hnx hy
      gi_wp2
      refine HR.out.mono ?_
      rintro e W3 (⟨rfl, hJ3, hk3⟩ | ⟨rfl, hJx3⟩)
      · have HJ3 := Lib.hid hJ3
        have HK3 : Hid (Kp n1 Bs W W3) := Lib.hid ⟨HNX.out.1.trans hk3.1, hk3.2.trans HNX.out.2⟩
        clear hJ3 hk3
        gi_wp2
        go_roundw
        case rel => exact ⟨k + 1, _, rfl, by omega, by omega, by rw [HTK.out]; exact HJ3.out, HK3.out⟩
        case measure => simp [intOf] <;> omega
      · have HJ3 := Lib.hid hJx3
        clear hJx3
        gi_wp2
        refine bodyPost_ret (results_none rfl _ _ _) rfl ?_
        exact ⟨⟨_, rfl⟩, .inr ⟨_, ⟨k + 1, by omega, HTK.out.symm⟩, HJ3.out⟩⟩
    · obtain rfl : k = m := by omega
      have d1 : decide ((0 : Int) ≤ y) = false := decide_eq_false (by omega)
      have HJS := Lib.hid hJs
      clear hJs hy
      gi_wp2
      go_end0
      exact ⟨⟨_, rfl⟩, .inl ⟨_, (List.take_of_length_le (by rw [hL.1]; exact Nat.le_refl _)), HJS.out⟩⟩
set_option maxHeartbeats 1000000 in
theorem backward_in (F : Fence) (N : Nat) (h33 : F.fn 33) (hro : F.round = none) (a : Option Addr) (m cap : Nat) (w : World) :
    CallsIn F N Tryd.prog 33 #[.slice a m cap] w fun e w' => e = .returned (.func (.func 45) #[] #[.pointer (some ⟨w.heap.size, 0, none⟩)]) ∧ w' = w.alloc (.cells #[.slice a m cap] 23) := by
  refine callsIn_of_wp Tryd.func33 rfl h33 ?_ hro
  simp only [Tryd.ntmps33, List.size_toArray, List.length_cons, List.length_nil, Nat.reduceAdd, Nat.reduceSub, Array.replicate_succ, Array.replicate_zero, List.push_toArray, List.append_toArray, List.nil_append, List.cons_append]
  gi_wp2
  go_ret
  exact ⟨rfl, rfl⟩
theorem back_stops (F : Fence) (N : Nat) (h45 : F.fn 45) (hro : F.round = none) (hN : 1 ≤ N) (Bs n1 n m : Nat) (a : Option Addr) (cap : Nat) (o : Nat → Nat) (L : List (At n)) (hL : IsBw n m o L) (hm : m ≤ 1000) (w : World) (hBs : Bs < w.heap.size) (hn1 : n1 ≤ w.heap.size)
    (hc : w.cell? ⟨Bs, 0, none⟩ = some (.slice a m cap)) (hs : Sl w n1 1 (.slice a m cap) m (icells m o)) :
    SeqStopsK F N Tryd.prog 45 #[.pointer (some ⟨Bs, 0, none⟩)] (fun x : At n => #[Value.int .i64 (x.1.1 : Int), Value.int .i64 (x.1.2 : Int)]) (Kp n1 Bs) (fun ys => ys = L) (fun pre => ∃ k, k ≤ m ∧ pre = L.take k) m w := fun l J Jx W hW _ _ hY h0 =>
  back1_in F N h45 hro hN l Bs n1 n m a cap o L hL hm J Jx hY W ((hW.cell (p := ⟨Bs, 0, none⟩) hBs).trans hc) (hs.below (hW.mono hn1)) h0
end Go.Proofs.YtmcbgjkogggneaaDoor
