/- local's readTime and readWide. -/
import Derived.Test.YtcpojpgdjjmfbaaDoorLocA
import Derived.Test.YtcpojpgdjjmfbaaDoorLocP
import Derived.Test.YtcpojpgdjjmfbaaDoorRdB
import Derived.Laws.BitsAllLaws
namespace Go.Proofs.YtcpojpgdjjmfbaaDoor
set_option linter.unusedVariables false
set_option linter.unusedSimpArgs false
set_option maxRecDepth 100000
open Go.RowKit
theorem must_yes (y mo da ho mi se : Int) (w : World) : Calls Tryd.prog 59 #[.agg #[.int .i64 y, .int .i64 mo, .int .i64 da, .int .i64 ho, .int .i64 mi, .int .i64 se], .int .i64 0] w (CQ (.agg #[.int .i64 y, .int .i64 mo, .int .i64 da, .int .i64 ho, .int .i64 mi, .int .i64 se]) w) := by
  have HB := Lib.hid (fun o o2 => ((Below.refl w.heap.size w).alloc (Nat.le_refl _) o).alloc (by simp) o2)
  go_enter Tryd.func59, Tryd.ntmps59
  go_wp2_with (fail)
  exact bodyPost_ret (v := .agg #[.int .i64 y, .int .i64 mo, .int .i64 da, .int .i64 ho, .int .i64 mi, .int .i64 se]) (by simp [results, Tryd.results59, go_sem]) rfl ⟨rfl, HB.out _ _⟩
theorem must_no (y mo da ho mi se : Int) (w : World) : Calls Tryd.prog 59 #[.agg #[.int .i64 y, .int .i64 mo, .int .i64 da, .int .i64 ho, .int .i64 mi, .int .i64 se], .int .i64 34] w fun e w' => e = .panicked (fault 34) ∧ Below w.heap.size w w' := by
  have HB := Lib.hid (fun o o2 => ((Below.refl w.heap.size w).alloc (Nat.le_refl _) o).alloc (by simp) o2)
  go_enter Tryd.func59, Tryd.ntmps59
  go_wp2_with (fail)
  refine (throw_any _ _).mono ?_
  rintro e w' ⟨rfl, rfl⟩
  go_wp2_with (fail)
  exact ⟨rfl, rfl, HB.out _ _⟩
/-- May a date and a clock be? -/
def tmB (D C : Nat) : Bool := Dos.rightB (1980 + (D : Int) / 512) ((D : Int) / 32 % 16) ((D : Int) % 32) ((C : Int) / 2048) ((C : Int) / 32 % 64) ((C : Int) % 32 * 2)
/-- What readTime does at a place. -/
def RTQ (rb : Nat) (l : List UInt8) (p : Nat) (C D : Nat) (w : World) (e : Ending) (w' : World) : Prop :=
  (p + 4 ≤ l.length ∧ tmB D C = true ∧ e = .returned (.agg #[.int .i64 (1980 + (D : Int) / 512), .int .i64 ((D : Int) / 32 % 16), .int .i64 ((D : Int) % 32), .int .i64 ((C : Int) / 2048), .int .i64 ((C : Int) / 32 % 64), .int .i64 ((C : Int) % 32 * 2)]) ∧ RD w' rb l (p + 4) ∧ Bx [rb] w.heap.size w w') ∨
  (¬ (p + 4 ≤ l.length ∧ tmB D C = true) ∧ ∃ c q, c ≠ 0 ∧ e = .panicked (fault c) ∧ RD w' rb l q ∧ Bx [rb] w.heap.size w w')
set_option maxHeartbeats 2000000 in
theorem readTime_any (rb : Nat) (l : List UInt8) (p C D : Nat) (w : World) (h : RD w rb l p) (hC : rd l p 2 = C) (hD : rd l (p + 2) 2 = D) : Calls Tryd.prog 42 #[.pointer (some ⟨rb, 0, none⟩)] w (RTQ rb l p C D w) := by
  have bC : C < 65536 := by rw [← hC]; exact rd_lt l p 2
  have bD : D < 65536 := by rw [← hD]; exact rd_lt l (p + 2) 2
  have hrb : rb < w.heap.size := by obtain ⟨_, _, _, _, _, _, _, h6⟩ := h; exact h6
  have q_C : IntKind.u16.wrap (C : Int) = C := by rw [IntKind.wrap_u16]; omega
  have q_D : IntKind.u16.wrap (D : Int) = D := by rw [IntKind.wrap_u16]; omega
  have H1 : Hid (∀ W : World, RD W rb l p → p + 2 ≤ l.length → Calls Tryd.prog 41 #[.pointer (some ⟨rb, 0, none⟩), .int .i64 2] W fun e w' => e = .returned (.int .u64 (C : Nat)) ∧ RD w' rb l (p + 2) ∧ Bx [rb] W.heap.size W w') := Lib.hid (fun W hW hn => by rw [← hC]; exact int_yes hW 2 (by decide) (by decide) hn)
  have H2 : Hid (∀ W : World, RD W rb l (p + 2) → p + 4 ≤ l.length → Calls Tryd.prog 41 #[.pointer (some ⟨rb, 0, none⟩), .int .i64 2] W fun e w' => e = .returned (.int .u64 (D : Nat)) ∧ RD w' rb l (p + 4) ∧ Bx [rb] W.heap.size W w') := Lib.hid (fun W hW hn => by rw [← hD]; exact int_yes hW 2 (by decide) (by decide) (by omega))
  have HDY : Hid (tmB D C = true → ∀ W, Calls Tryd.prog 60 #[.int .u16 (D : Nat), .int .u16 (C : Nat)] W fun e w' => e = .returned (.tuple #[.agg #[.int .i64 (1980 + (D : Int) / 512), .int .i64 ((D : Int) / 32 % 16), .int .i64 ((D : Int) % 32), .int .i64 ((C : Int) / 2048), .int .i64 ((C : Int) / 32 % 64), .int .i64 ((C : Int) % 32 * 2)], .int .i64 0]) ∧ Below W.heap.size W w') := Lib.hid (fun h W => Dos.decode_yes D C W (by omega) (by omega) (by omega) (by omega) h)
  have HDN : Hid (tmB D C = false → ∀ W, Calls Tryd.prog 60 #[.int .u16 (D : Nat), .int .u16 (C : Nat)] W fun e w' => e = .returned (.tuple #[.agg #[.int .i64 0, .int .i64 0, .int .i64 0, .int .i64 0, .int .i64 0, .int .i64 0], .int .i64 34]) ∧ Below W.heap.size W w') := Lib.hid (fun h W => Dos.decode_no D C W (by omega) (by omega) (by omega) (by omega) h)
  have HB := Lib.hid ((Below.refl w.heap.size w).alloc (Nat.le_refl _) (.cells #[.int .i64 0, .int .i64 0, .int .i64 0, .int .i64 0, .int .i64 0, .int .i64 0] 23))
  have HR := Lib.hid (h.below HB.out)
  have HB : Hid (Bx [rb] w.heap.size w (w.alloc (.cells #[.int .i64 0, .int .i64 0, .int .i64 0, .int .i64 0, .int .i64 0, .int .i64 0] 23))) := Lib.hid (Bx.of_below HB.out)
  have HO := Lib.hid (Own.new_at w [.int .i64 0, .int .i64 0, .int .i64 0, .int .i64 0, .int .i64 0, .int .i64 0] 23 w.heap.size rfl)
  clear h hC hD
  go_enter Tryd.func42, Tryd.ntmps42
  by_cases n1 : p + 2 ≤ l.length
  rotate_left
  · go_wp2_with (fail)
    refine (int_short HR.out 2 (by decide) (by decide) (by omega)).mono ?_
    rintro e w1 ⟨rfl, hd, hb⟩
    have HF := Lib.hid (show RTQ rb l p C D w (.panicked (fault 4)) w1 from .inr ⟨by omega, 4, _, by decide, rfl, hd, HB.out.trans (hb.mono (by simp))⟩)
    clear hd hb
    go_wp2_with (fail)
    exact ⟨rfl, HF.out⟩
  go_wp2_with (fail)
  refine (H1.out _ HR.out n1).mono ?_
  rintro e w1 ⟨rfl, hd, hb⟩
  have hz1 := hb.size
  simp only [World.size_alloc] at hz1
  have HR := Lib.hid hd
  have HB := Lib.hid (HB.out.trans (hb.mono (by simp)))
  have HO := Lib.hid (HO.out.bx hb (by simp) (by simp; omega))
  clear hd hb
  by_cases n2 : p + 4 ≤ l.length
  rotate_left
  · go_wp2_with (fail)
    refine (int_short HR.out 2 (by decide) (by decide) (by omega)).mono ?_
    rintro e w2 ⟨rfl, hd, hb⟩
    have HF := Lib.hid (show RTQ rb l p C D w (.panicked (fault 4)) w2 from .inr ⟨by omega, 4, _, by decide, rfl, hd, HB.out.trans (hb.mono (by omega))⟩)
    clear hd hb
    go_wp2_with (fail)
    exact ⟨rfl, HF.out⟩
  go_wp2_with (fail)
  refine (H2.out _ HR.out n2).mono ?_
  rintro e w2 ⟨rfl, hd, hb⟩
  have hz2 := hb.size
  have HR := Lib.hid hd
  have HB := Lib.hid (HB.out.trans (hb.mono (by omega)))
  have HO := Lib.hid (HO.out.bx hb (by omega) (by simp; omega))
  clear hd hb
  cases ht : tmB D C with
  | false =>
    have HN := Lib.hid (HDN.out ht)
    have HT := Lib.hid ht
    clear ht
    go_wp2_with (fail)
    refine (HN.out _).mono ?_
    rintro e w3 ⟨rfl, hb⟩
    have hz3 := hb.size
    have HR := Lib.hid (HR.out.below hb)
    have HB := Lib.hid (HB.out.trans (Bx.of_below (hb.mono (by omega))))
    clear hb
    go_wp2_with (fail)
    refine (must_no _ _ _ _ _ _ _).mono ?_
    rintro e w4 ⟨rfl, hb⟩
    have HF := Lib.hid (show RTQ rb l p C D w (.panicked (fault 34)) w4 from .inr ⟨(fun h => by rw [HT.out] at h; exact absurd h.2 (by decide)), 34, _, by decide, rfl, HR.out.below hb, HB.out.trans (Bx.of_below (hb.mono (by omega)))⟩)
    clear hb
    go_wp2_with (fail)
    exact ⟨rfl, HF.out⟩
  | true =>
    have HN := Lib.hid (HDY.out ht)
    have HT := Lib.hid ht
    clear ht
    go_wp2_with (fail)
    refine (HN.out _).mono ?_
    rintro e w3 ⟨rfl, hb⟩
    have hz3 := hb.size
    have HR := Lib.hid (HR.out.below hb)
    have HB := Lib.hid (HB.out.trans (Bx.of_below (hb.mono (by omega))))
    have HO := Lib.hid (HO.out.below hb (by omega))
    clear hb
    have GY := Lib.hid (fun a b c d e f W => must_yes a b c d e f W)
    generalize e1 : 1980 + (D : Int) / 512 = t1 at *
    generalize e2 : (D : Int) / 32 % 16 = t2 at *
    generalize e3 : (D : Int) % 32 = t3 at *
    generalize e4 : (C : Int) / 2048 = t4 at *
    generalize e5 : (C : Int) / 32 % 64 = t5 at *
    generalize e6 : (C : Int) % 32 * 2 = t6 at *
    have E := Lib.hid (And.intro e1 (And.intro e2 (And.intro e3 (And.intro e4 (And.intro e5 e6)))))
    clear e1 e2 e3 e4 e5 e6
    go_wp2_with (fail)
    refine (GY.out _ _ _ _ _ _ _).mono ?_
    rintro e w4 ⟨rfl, hb⟩
    have HR := Lib.hid (HR.out.below hb)
    have HB := Lib.hid (HB.out.trans (Bx.of_below (hb.mono (by omega))))
    have HO := Lib.hid (HO.out.below hb (by omega))
    clear hb
    have z0 := HO.out.1 0 _ rfl
    have z1 := HO.out.1 1 _ rfl
    have z2 := HO.out.1 2 _ rfl
    have z3 := HO.out.1 3 _ rfl
    have z4 := HO.out.1 4 _ rfl
    have z5 := HO.out.1 5 _ rfl
    have hg := HO.out.2
    go_wp2_with (fail)
    refine bodyPost_ret (v := .agg #[.int .i64 t1, .int .i64 t2, .int .i64 t3, .int .i64 t4, .int .i64 t5, .int .i64 t6]) (by simp [results, Tryd.results42, go_sem, z0, z1, z2, z3, z4, z5]) rfl (.inl ⟨n2, HT.out, ?_, ?_, ?_⟩)
    · rw [E.out.1, E.out.2.1, E.out.2.2.1, E.out.2.2.2.1, E.out.2.2.2.2.1, E.out.2.2.2.2.2]
    · exact ((((((HR.out).set_other (b := w.heap.size) hrb 0 _).set_other (b := w.heap.size) hrb 1 _).set_other (b := w.heap.size) hrb 2 _).set_other (b := w.heap.size) hrb 3 _).set_other (b := w.heap.size) hrb 4 _).set_other (b := w.heap.size) hrb 5 _
    · exact ((((((HB.out).setCell (.inr (by simp)) _).setCell (.inr (by simp)) _).setCell (.inr (by simp)) _).setCell (.inr (by simp)) _).setCell (.inr (by simp)) _).setCell (.inr (by simp)) _
theorem and_p3 (f : Nat) : f &&& 2 ^ 3 = if f.testBit 3 = true then 2 ^ 3 else 0 := by
  apply Nat.eq_of_testBit_eq
  intro i
  rw [Nat.testBit_and, Nat.testBit_two_pow]
  by_cases e : 3 = i
  · subst e
    cases h : f.testBit 3
    · simp
    · simp; decide
  · simp [e]
    split
    · rw [show (8 : Nat) = 2 ^ 3 from rfl, Nat.testBit_two_pow]
      simp [e]
    · simp
theorem and8 (f : Nat) (h : f < 65536) : bits .and .i64 (f : Int) 8 = ((f / 8 % 2 * 8 : Nat) : Int) := by
  have h1 : (BitVec.ofInt 64 (f : Int)).toNat = f := by
    rw [BitVec.ofInt_natCast, BitVec.toNat_ofNat]; exact Nat.mod_eq_of_lt (by omega)
  have h2 : (BitVec.ofInt 64 (8 : Int)).toNat = 2 ^ 3 := by decide
  show IntKind.i64.wrap ((BitVec.ofInt 64 (f : Int) &&& BitVec.ofInt 64 (8 : Int)).toNat : Int) = _
  rw [BitVec.toNat_and, h1, h2, and_p3, Nat.testBit_eq_decide_div_mod_eq, IntKind.wrap_i64]
  by_cases c : f / 2 ^ 3 % 2 = 1
  · have c' : f / 8 % 2 = 1 := c
    simp [c']
  · have c' : f / 8 % 2 = 0 := by have : f / 2 ^ 3 % 2 = f / 8 % 2 := rfl; omega
    simp [c']
/-- When the sizes behind the name may be read. -/
def WP (l : List UInt8) (p pk sz : Nat) : Prop := pk = 4294967295 ∧ sz = 4294967295 ∧ p + 20 ≤ l.length ∧ rd l p 2 = 1 ∧ rd l (p + 2) 2 = 16
def wd8 (l : List UInt8) (p : Nat) : Int := IntKind.i64.wrap (rd l p 8 : Nat)
def RWQ (rb hb : Nat) (l : List UInt8) (p : Nat) (pk sz : Nat) (cs : List Value) (w : World) (e : Ending) (w' : World) : Prop :=
  (WP l p pk sz ∧ e = .returned (.tuple #[]) ∧ RD w' rb l (p + 20) ∧ Own w' hb cs ∧ Bx [rb, hb] w.heap.size w w') ∨
  (¬ WP l p pk sz ∧ ∃ c q, c ≠ 0 ∧ e = .panicked (fault c) ∧ RD w' rb l q ∧ Bx [rb, hb] w.heap.size w w')
theorem Bx.two {rb hb B : Nat} {a b : World} (h : Bx [rb] B a b) : Bx [rb, hb] B a b := h.weak (fun k _ hk => by simp at hk; simp [hk])
set_option maxHeartbeats 2000000 in
theorem readWide_any (rb hb : Nat) (l : List UInt8) (p : Nat) (nm : ByteArray) (y mo da ho mi se me cr : Int) (gw gl : Bool) (pk sz : Nat) (w : World) (h : RD w rb l p) (hO : Own w hb [.string nm, .int .i64 y, .int .i64 mo, .int .i64 da, .int .i64 ho, .int .i64 mi, .int .i64 se, .int .i64 me, .int .u32 cr, .int .i64 (pk : Nat), .int .i64 (sz : Nat), .bool gw, .bool gl]) (hrh : rb < hb) (hhb : hb < w.heap.size) (hpk : pk < 4294967296) (hsz : sz < 4294967296) :
    Calls Tryd.prog 45 #[.pointer (some ⟨hb, 0, none⟩), .pointer (some ⟨rb, 0, none⟩)] w (RWQ rb hb l p pk sz [.string nm, .int .i64 y, .int .i64 mo, .int .i64 da, .int .i64 ho, .int .i64 mi, .int .i64 se, .int .i64 me, .int .u32 cr, .int .i64 (wd8 l (p + 12)), .int .i64 (wd8 l (p + 4)), .bool gw, .bool gl] w) := by
  have HR := Lib.hid h
  have HO := Lib.hid hO
  have HB := Lib.hid (Bx.refl [rb, hb] w.heap.size w)
  clear h hO
  by_cases c1 : pk = 4294967295 ∧ sz = 4294967295
  rotate_left
  · have k9 := HO.out.1 9 _ rfl
    have k10 := HO.out.1 10 _ rfl
    have HF := Lib.hid (show RWQ rb hb l p pk sz [.string nm, .int .i64 y, .int .i64 mo, .int .i64 da, .int .i64 ho, .int .i64 mi, .int .i64 se, .int .i64 me, .int .u32 cr, .int .i64 (wd8 l (p + 12)), .int .i64 (wd8 l (p + 4)), .bool gw, .bool gl] w (.panicked (fault 13)) w from .inr ⟨fun h => c1 ⟨h.1, h.2.1⟩, 13, _, by decide, rfl, HR.out, HB.out⟩)
    have c2 : (((pk : Int) == 4294967295) = false) ∨ (((pk : Int) == 4294967295) = true ∧ ((sz : Int) == 4294967295) = false) := by
      by_cases a : pk = 4294967295
      · right; subst a; simp; omega
      · left; simp; omega
    clear c1
    rcases c2 with c2 | ⟨c2, c3⟩
    all_goals
      go_enter Tryd.func45, Tryd.ntmps45
      go_wp2_with (fail)
      refine (check_no _ _).mono ?_
      rintro e w' ⟨rfl, rfl⟩
      go_wp2_with (fail)
      exact ⟨rfl, HF.out⟩
  obtain ⟨rfl, rfl⟩ := c1
  have k9 := HO.out.1 9 _ rfl
  have k10 := HO.out.1 10 _ rfl
  go_enter Tryd.func45, Tryd.ntmps45
  go_wp2_with (fail)
  refine (check_yes _ _).mono ?_
  rintro e w' ⟨rfl, rfl⟩
  clear k9 k10
  by_cases n1 : p + 2 ≤ l.length
  rotate_left
  · go_wp2_with (fail)
    refine (want_short HR.out 2 1 36 (by decide) (by decide) (by omega)).mono ?_
    rintro e wf ⟨rfl, hd, hx⟩
    have HF := Lib.hid (show RWQ rb hb l p 4294967295 4294967295 [.string nm, .int .i64 y, .int .i64 mo, .int .i64 da, .int .i64 ho, .int .i64 mi, .int .i64 se, .int .i64 me, .int .u32 cr, .int .i64 (wd8 l (p + 12)), .int .i64 (wd8 l (p + 4)), .bool gw, .bool gl] w (.panicked (fault 4)) wf from .inr ⟨fun h => by have := h.2.2.1; omega, 4, _, by decide, rfl, hd, HB.out.trans (hx.two.mono (by omega))⟩)
    clear hd hx
    go_wp2_with (fail)
    exact ⟨rfl, HF.out⟩
  by_cases m1 : rd l p 2 = 1
  rotate_left
  · go_wp2_with (fail)
    refine (want_no HR.out 2 1 36 (by decide) (by decide) n1 (by omega)).mono ?_
    rintro e wf ⟨rfl, hd, hx⟩
    have HF := Lib.hid (show RWQ rb hb l p 4294967295 4294967295 [.string nm, .int .i64 y, .int .i64 mo, .int .i64 da, .int .i64 ho, .int .i64 mi, .int .i64 se, .int .i64 me, .int .u32 cr, .int .i64 (wd8 l (p + 12)), .int .i64 (wd8 l (p + 4)), .bool gw, .bool gl] w (.panicked (fault 36)) wf from .inr ⟨fun h => m1 h.2.2.2.1, 36, _, by decide, rfl, hd, HB.out.trans (hx.two.mono (by omega))⟩)
    clear hd hx
    go_wp2_with (fail)
    exact ⟨rfl, HF.out⟩
  go_wp2_with (fail)
  refine (want_yes HR.out 2 1 36 (by decide) (by decide) n1 (by omega)).mono ?_
  rintro e w1 ⟨rfl, hd, hx⟩
  have hzw1 := hx.size
  have HR := Lib.hid hd
  have HB := Lib.hid (HB.out.trans (hx.two.mono (by omega)))
  have HO := Lib.hid (HO.out.bx hx (by omega) (by simp; omega))
  clear hd hx
  by_cases n2 : p + 4 ≤ l.length
  rotate_left
  · go_wp2_with (fail)
    refine (want_short HR.out 2 16 36 (by decide) (by decide) (by omega)).mono ?_
    rintro e wf ⟨rfl, hd, hx⟩
    have HF := Lib.hid (show RWQ rb hb l p 4294967295 4294967295 [.string nm, .int .i64 y, .int .i64 mo, .int .i64 da, .int .i64 ho, .int .i64 mi, .int .i64 se, .int .i64 me, .int .u32 cr, .int .i64 (wd8 l (p + 12)), .int .i64 (wd8 l (p + 4)), .bool gw, .bool gl] w (.panicked (fault 4)) wf from .inr ⟨fun h => by have := h.2.2.1; omega, 4, _, by decide, rfl, hd, HB.out.trans (hx.two.mono (by omega))⟩)
    clear hd hx
    go_wp2_with (fail)
    exact ⟨rfl, HF.out⟩
  by_cases m2 : rd l (p + 2) 2 = 16
  rotate_left
  · go_wp2_with (fail)
    refine (want_no HR.out 2 16 36 (by decide) (by decide) (by omega) (by omega)).mono ?_
    rintro e wf ⟨rfl, hd, hx⟩
    have HF := Lib.hid (show RWQ rb hb l p 4294967295 4294967295 [.string nm, .int .i64 y, .int .i64 mo, .int .i64 da, .int .i64 ho, .int .i64 mi, .int .i64 se, .int .i64 me, .int .u32 cr, .int .i64 (wd8 l (p + 12)), .int .i64 (wd8 l (p + 4)), .bool gw, .bool gl] w (.panicked (fault 36)) wf from .inr ⟨fun h => m2 h.2.2.2.2, 36, _, by decide, rfl, hd, HB.out.trans (hx.two.mono (by omega))⟩)
    clear hd hx
    go_wp2_with (fail)
    exact ⟨rfl, HF.out⟩
  go_wp2_with (fail)
  refine (want_yes HR.out 2 16 36 (by decide) (by decide) (by omega) (by omega)).mono ?_
  rintro e w2 ⟨rfl, hd, hx⟩
  have hzw2 := hx.size
  have HR := Lib.hid hd
  have HB := Lib.hid (HB.out.trans (hx.two.mono (by omega)))
  have HO := Lib.hid (HO.out.bx hx (by omega) (by simp; omega))
  clear hd hx
  by_cases n3 : p + 12 ≤ l.length
  rotate_left
  · go_wp2_with (fail)
    refine (int_short HR.out 8 (by decide) (by decide) (by omega)).mono ?_
    rintro e wf ⟨rfl, hd, hx⟩
    have HF := Lib.hid (show RWQ rb hb l p 4294967295 4294967295 [.string nm, .int .i64 y, .int .i64 mo, .int .i64 da, .int .i64 ho, .int .i64 mi, .int .i64 se, .int .i64 me, .int .u32 cr, .int .i64 (wd8 l (p + 12)), .int .i64 (wd8 l (p + 4)), .bool gw, .bool gl] w (.panicked (fault 4)) wf from .inr ⟨fun h => by have := h.2.2.1; omega, 4, _, by decide, rfl, hd, HB.out.trans (hx.two.mono (by omega))⟩)
    clear hd hx
    go_wp2_with (fail)
    exact ⟨rfl, HF.out⟩
  have H3 : Hid (∀ W : World, RD W rb l (p + 2 + 2) → p + 12 ≤ l.length → Calls Tryd.prog 41 #[.pointer (some ⟨rb, 0, none⟩), .int .i64 8] W fun e w' => e = .returned (.int .u64 (rd l (p + 4) 8 : Nat)) ∧ RD w' rb l (p + 12) ∧ Bx [rb] W.heap.size W w') := Lib.hid (fun W hW hn => int_yes hW 8 (by decide) (by decide) (by omega))
  have H4 : Hid (∀ W : World, RD W rb l (p + 12) → p + 20 ≤ l.length → Calls Tryd.prog 41 #[.pointer (some ⟨rb, 0, none⟩), .int .i64 8] W fun e w' => e = .returned (.int .u64 (rd l (p + 12) 8 : Nat)) ∧ RD w' rb l (p + 20) ∧ Bx [rb] W.heap.size W w') := Lib.hid (fun W hW hn => int_yes hW 8 (by decide) (by decide) (by omega))
  have WA : IntKind.i64.wrap (rd l (p + 4) 8 : Nat) = wd8 l (p + 4) := rfl
  have WB := Lib.hid (show IntKind.i64.wrap (rd l (p + 12) 8 : Nat) = wd8 l (p + 12) from rfl)
  generalize hA : rd l (p + 4) 8 = xA at H3 WA
  clear hA
  go_wp2_with (fail)
  refine (H3.out _ HR.out n3).mono ?_
  rintro e w3 ⟨rfl, hd, hx⟩
  have hzw3 := hx.size
  have HR := Lib.hid hd
  have HB := Lib.hid (HB.out.trans (hx.two.mono (by omega)))
  have HO := Lib.hid (HO.out.bx hx (by omega) (by simp; omega))
  clear hd hx
  have k10 := HO.out.1 10 _ rfl
  have hf := HO.out.2
  go_upto_region 4 with (fail)
  clear k10 hf
  have HO := Lib.hid (HO.out.set 10 (.int .i64 (wd8 l (p + 4))) (by simp))
  have HR := Lib.hid (HR.out.set_other (b := hb) (by omega) 10 (.int .i64 (wd8 l (p + 4))))
  have HB := Lib.hid (HB.out.setCell (p := ⟨hb, 10, none⟩) (.inl (by simp)) (.int .i64 (wd8 l (p + 4))))
  have hzz : w.heap.size ≤ (w3.setCell ⟨hb, 10, none⟩ (.int .i64 (wd8 l (p + 4)))).heap.size := by simp; omega
  generalize w3.setCell ⟨hb, 10, none⟩ (.int .i64 (wd8 l (p + 4))) = w4 at *
  simp only [List.set_cons_zero, List.set_cons_succ] at HO
  clear WA
  by_cases n4 : p + 20 ≤ l.length
  rotate_left
  · go_wp2_with (fail)
    refine (int_short HR.out 8 (by decide) (by decide) (by omega)).mono ?_
    rintro e wf ⟨rfl, hd, hx⟩
    have HF := Lib.hid (show RWQ rb hb l p 4294967295 4294967295 [.string nm, .int .i64 y, .int .i64 mo, .int .i64 da, .int .i64 ho, .int .i64 mi, .int .i64 se, .int .i64 me, .int .u32 cr, .int .i64 (wd8 l (p + 12)), .int .i64 (wd8 l (p + 4)), .bool gw, .bool gl] w (.panicked (fault 4)) wf from .inr ⟨fun h => by have := h.2.2.1; omega, 4, _, by decide, rfl, hd, HB.out.trans (hx.two.mono (by omega))⟩)
    clear hd hx
    go_wp2_with (fail)
    exact ⟨rfl, HF.out⟩
  have WB := WB.out
  generalize hB : rd l (p + 12) 8 = xB at H4 WB
  clear hB
  go_wp2_with (fail)
  refine (H4.out _ HR.out n4).mono ?_
  rintro e w5 ⟨rfl, hd, hx⟩
  have hzw5 := hx.size
  have HR := Lib.hid hd
  have HB := Lib.hid (HB.out.trans (hx.two.mono (by omega)))
  have HO := Lib.hid (HO.out.bx hx (by omega) (by simp; omega))
  clear hd hx
  have k9 := HO.out.1 9 _ rfl
  have hf := HO.out.2
  go_wp2_with (fail)
  go_end0
  refine .inl ⟨⟨rfl, rfl, n4, m1, m2⟩, rfl, ?_, ?_, ?_⟩
  · exact HR.out.set_other (b := hb) (by omega) 9 _
  · exact HO.out.set 9 _ (by simp)
  · exact HB.out.setCell (p := ⟨hb, 9, none⟩) (.inl (by simp)) _
end Go.Proofs.YtcpojpgdjjmfbaaDoor
