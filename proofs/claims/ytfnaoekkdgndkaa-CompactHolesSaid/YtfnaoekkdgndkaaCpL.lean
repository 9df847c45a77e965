/- Holes; the document's spans, joined, and their bytes. -/
import Derived.Test.YtfnaoekkdgndkaaCpK
namespace Go.Proofs.Ytfnaoekkdgndkaa
set_option maxRecDepth 100000
set_option linter.unusedVariables false
set_option linter.unusedSimpArgs false
open Go.RowKit
/-- Holes, their bytes, the end, behind the first pieces. -/
def HoN (g : Nat → Pc) : Nat → Nat × Nat × Nat
  | 0 => (0, 0, 0)
  | k + 1 => (if (HoN g k).2.2 < (g k).a then (HoN g k).1 + 1 else (HoN g k).1, if (HoN g k).2.2 < (g k).a then (HoN g k).2.1 + ((g k).a - (HoN g k).2.2) else (HoN g k).2.1, (g k).a + (g k).l)
theorem ho_bd {ls : Nat → List Sp} {n : Nat} (hwf : WF ls n) (hb : ∀ o, o < n → BdS (ls o)) : ∀ k, k ≤ sumL ls n → (HoN (atP (pcs ls n)) k).1 ≤ k ∧ (HoN (atP (pcs ls n)) k).2.1 ≤ (HoN (atP (pcs ls n)) k).2.2 ∧ (HoN (atP (pcs ls n)) k).2.2 ≤ 1099511627776 ∧ (k < sumL ls n → (HoN (atP (pcs ls n)) k).2.2 ≤ (atP (pcs ls n) k).a)
  | 0, _ => ⟨Nat.le_refl _, Nat.le_refl _, Nat.zero_le _, fun _ => Nat.zero_le _⟩
  | k + 1, hk => by
    obtain ⟨h1, h2, h3, h4⟩ := ho_bd hwf hb k (by omega)
    have h5 := h4 (by omega)
    have h6 := piece_bd hb (show k < sumL ls n by omega)
    refine ⟨?_, ?_, h6, fun hlt => ends_at hwf.ends (show k < k + 1 by omega) (by rw [pcs_len]; exact hlt)⟩
    · have e : (HoN (atP (pcs ls n)) (k + 1)).1 = if (HoN (atP (pcs ls n)) k).2.2 < (atP (pcs ls n) k).a then (HoN (atP (pcs ls n)) k).1 + 1 else (HoN (atP (pcs ls n)) k).1 := rfl
      rw [e]
      split <;> omega
    · have e : (HoN (atP (pcs ls n)) (k + 1)).2.1 = if (HoN (atP (pcs ls n)) k).2.2 < (atP (pcs ls n) k).a then (HoN (atP (pcs ls n)) k).2.1 + ((atP (pcs ls n) k).a - (HoN (atP (pcs ls n)) k).2.2) else (HoN (atP (pcs ls n)) k).2.1 := rfl
      have e2 : (HoN (atP (pcs ls n)) (k + 1)).2.2 = (atP (pcs ls n) k).a + (atP (pcs ls n) k).l := rfl
      rw [e, e2]
      split <;> omega
def Holes_p (n : Nat) (ls : Nat → List Sp) (w : World) (e : Ending) (w' : World) : Prop := e = .returned (.tuple #[.int .i64 ((HoN (atP (pcs ls n)) (sumL ls n)).1 : Nat), .int .i64 ((HoN (atP (pcs ls n)) (sumL ls n)).2.1 : Nat)]) ∧ Below w.heap.size w w'
set_option maxHeartbeats 8000000 in
theorem holes_any (n : Nat) (ls : Nat → List Sp) (v : Value) (w : World) (h : ChsA w v n ls) (hwf : WF ls n) (hn : n ≤ 1000) (hsum : sumL ls n ≤ 1000) (hbd : ∀ o, o < n → BdS (ls o)) :
    Calls Try.prog 17 #[v] w (Holes_p n ls w) := by
  have HPLC := Lib.hid (places_any n ls v w h hwf hn hsum)
  have HHB := Lib.hid (fun k hk => ho_bd hwf hbd k hk)
  have HPB := Lib.hid (fun k (hk : k < sumL ls n) => piece_bd hbd hk)
  clear h hwf hbd
  go_enter Try.func17, Try.ntmps17
  go_wp2_with (fail)
  refine HPLC.out.mono ?_
  rintro e w1 ⟨pv, rfl, hps, hb1, _⟩
  have HP := Lib.hid hps
  have HB1 := Lib.hid hb1
  obtain ⟨pa, pc, rfl, _⟩ := hps.form
  obtain ⟨N, hN⟩ : ∃ z, sumL ls n = z := ⟨_, rfl⟩
  have HN := Lib.hid hN
  rw [hN] at HP hsum HHB HPB ⊢
  have HPL : Hid (N = (pcs ls n).length) := Lib.hid (by rw [pcs_len, hN])
  clear hps hb1 HPLC hN
  go_wp2_with (fail)
  go_loopw [4, 5, 6, 12] (fun x y t i wr => ∃ k : Nat, i = .int .i64 k ∧ k ≤ N ∧ x = .int .i64 ((HoN (atP (pcs ls n)) k).1 : Nat) ∧ y = .int .i64 ((HoN (atP (pcs ls n)) k).2.1 : Nat) ∧ t = .int .i64 ((HoN (atP (pcs ls n)) k).2.2 : Nat) ∧ Hid (Below w1.heap.size w1 wr)) (fun _ _ _ i _ => N - (intOf i).toNat)
  case atStart => exact ⟨0, rfl, Nat.zero_le _, rfl, rfl, rfl, Lib.hid (Below.refl _ _)⟩
  case round =>
    obtain ⟨k, rfl, hk, rfl, rfl, rfl, HB⟩ := hrel
    obtain ⟨wo, rfl⟩ : ∃ z : World, z = wr := ⟨_, rfl⟩
    by_cases hkn : k < N
    rotate_left
    · have d3 : decide (k < N) = false := decide_eq_false hkn
      have d4 : decide ((k : Int) < (N : Int)) = false := decide_eq_false (by omega)
      obtain rfl : k = N := by omega
      go_wp2_with (fail)
      go_ret2
      exact ⟨by rw [HN.out]; rfl, HB1.out.trans (HB.out.mono HB1.out.size)⟩
    have d3 : decide (k < N) = true := decide_eq_true hkn
    have d4 : decide ((k : Int) < (N : Int)) = true := decide_eq_true (by omega)
    have q2 : IntKind.i64.wrap ((k : Int) + 1) = (k : Int) + 1 := IntWalk.i64_in _ (by omega)
    have hbk : (k : Int) < (N : Int) := by omega
    have hsl := HP.out.below HB.out
    obtain ⟨pb, po, rfl, _⟩ := sl_cells hsl (by omega)
    obtain ⟨c0, c1, c2, c3⟩ := pc_cells hsl HPL.out (atP_get (l := pcs ls n) (j := k) (by have := HPL.out; omega))
    obtain ⟨h1, h2, h3, h4⟩ := HHB.out k hk
    have h5 := h4 hkn
    have h6 := HPB.out k hkn
    have hs1 : (HoN (atP (pcs ls n)) (k + 1)).1 = if (HoN (atP (pcs ls n)) k).2.2 < (atP (pcs ls n) k).a then (HoN (atP (pcs ls n)) k).1 + 1 else (HoN (atP (pcs ls n)) k).1 := rfl
    have hs2 : (HoN (atP (pcs ls n)) (k + 1)).2.1 = if (HoN (atP (pcs ls n)) k).2.2 < (atP (pcs ls n) k).a then (HoN (atP (pcs ls n)) k).2.1 + ((atP (pcs ls n) k).a - (HoN (atP (pcs ls n)) k).2.2) else (HoN (atP (pcs ls n)) k).2.1 := rfl
    have hs3 : (HoN (atP (pcs ls n)) (k + 1)).2.2 = (atP (pcs ls n) k).a + (atP (pcs ls n) k).l := rfl
    generalize (HoN (atP (pcs ls n)) k).1 = X at *
    generalize (HoN (atP (pcs ls n)) k).2.1 = Y at *
    generalize (HoN (atP (pcs ls n)) k).2.2 = E at *
    generalize hA : (atP (pcs ls n) k).a = A at *
    generalize hL : (atP (pcs ls n) k).l = L at *
    generalize hO : (atP (pcs ls n) k).o = O at *
    generalize hI : (atP (pcs ls n) k).i = I at *
    have H1 := Lib.hid hs1
    have H2 := Lib.hid hs2
    have H3 := Lib.hid hs3
    clear hA hL hO hI hsl hs1 hs2 hs3 h4
    obtain ⟨wx, hwx⟩ : ∃ z : World, z = wo.alloc (.cells #[.int .i64 (A : Nat), .int .i64 (L : Nat), .int .i64 (O : Nat), .int .i64 (I : Nat)] 66) := ⟨_, rfl⟩
    have hbx : Below wo.heap.size wo wx := by rw [hwx]; exact (Below.refl _ _).alloc (Nat.le_refl _) _
    have hox : Own wx wo.heap.size [.int .i64 (A : Nat), .int .i64 (L : Nat), .int .i64 (O : Nat), .int .i64 (I : Nat)] := by rw [hwx]; exact Own.new_at wo _ _ _ rfl
    have HBX := Lib.hid (HB.out.trans (hbx.mono HB.out.size))
    have z0 := hox.1 0 _ rfl
    have z1 := hox.1 1 _ rfl
    have z2 := hox.1 2 _ rfl
    have z3 := hox.1 3 _ rfl
    have HSE := Lib.hid (spEnd_any A L wx h6)
    have q5 : max (E : Int) ((A + L : Nat) : Int) = ((A + L : Nat) : Int) := by omega
    clear hbx hox
    go_upto_region 6 with (fail)
    rw [← hwx]
    clear hwx c0 c1 c2 c3
    by_cases hlt : E < A
    · have e1 : decide (E < A) = true := decide_eq_true hlt
      have e2 : decide ((E : Int) < (A : Int)) = true := decide_eq_true (by omega)
      have q3 : IntKind.i64.wrap ((X : Int) + 1) = ((X + 1 : Nat) : Int) := by rw [IntWalk.i64_in _ (by omega)]; omega
      have q4 : IntKind.i64.wrap ((A : Int) - (E : Int)) = ((A - E : Nat) : Int) := by rw [IntWalk.i64_in _ (by omega)]; omega
      have q6 : IntKind.i64.wrap ((Y : Int) + ((A - E : Nat) : Int)) = ((Y + (A - E) : Nat) : Int) := by rw [IntWalk.i64_in _ (by omega)]; omega
      have R1 : Hid ((HoN (atP (pcs ls n)) (k + 1)).1 = X + 1) := Lib.hid (by rw [H1.out, if_pos hlt])
      have R2 : Hid ((HoN (atP (pcs ls n)) (k + 1)).2.1 = Y + (A - E)) := Lib.hid (by rw [H2.out, if_pos hlt])
      clear hlt
      go_wp2_with (fail)
      refine HSE.out.mono ?_
      rintro e w2 ⟨rfl, hb2⟩
      have HB2 := Lib.hid (HBX.out.trans (hb2.mono HBX.out.size))
      clear hb2 HSE z0 z1 z2 z3
      go_wp2_with (fail)
      go_roundw
      case rel => exact ⟨k + 1, rfl, hkn, (by rw [R1.out] <;> first | rfl | exact congrArg (Value.int .i64) (by omega)), (by rw [R2.out] <;> first | rfl | exact congrArg (Value.int .i64) (by omega)), (by rw [H3.out]; exact congrArg (Value.int .i64) (by split <;> omega)), HB2⟩
      case measure => simp [intOf] <;> omega
    · have e1 : decide (E < A) = false := decide_eq_false hlt
      have e2 : decide ((E : Int) < (A : Int)) = false := decide_eq_false (by omega)
      have R1 : Hid ((HoN (atP (pcs ls n)) (k + 1)).1 = X) := Lib.hid (by rw [H1.out, if_neg hlt])
      have R2 : Hid ((HoN (atP (pcs ls n)) (k + 1)).2.1 = Y) := Lib.hid (by rw [H2.out, if_neg hlt])
      clear hlt
      go_wp2_with (fail)
      refine HSE.out.mono ?_
      rintro e w2 ⟨rfl, hb2⟩
      have HB2 := Lib.hid (HBX.out.trans (hb2.mono HBX.out.size))
      clear hb2 HSE z0 z1 z2 z3
      go_wp2_with (fail)
      go_roundw
      case rel => exact ⟨k + 1, rfl, hkn, (by rw [R1.out] <;> first | rfl | exact congrArg (Value.int .i64) (by omega)), (by rw [R2.out] <;> first | rfl | exact congrArg (Value.int .i64) (by omega)), (by rw [H3.out]; exact congrArg (Value.int .i64) (by split <;> omega)), HB2⟩
      case measure => simp [intOf] <;> omega
end Go.Proofs.Ytfnaoekkdgndkaa
