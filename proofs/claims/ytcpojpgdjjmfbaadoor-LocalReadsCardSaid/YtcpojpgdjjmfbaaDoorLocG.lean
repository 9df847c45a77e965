/- local.Read. -/
import Derived.Test.YtcpojpgdjjmfbaaDoorLocN
import Derived.Test.YtcpojpgdjjmfbaaDoorStr
namespace Go.Proofs.YtcpojpgdjjmfbaaDoor
set_option linter.unusedVariables false
set_option linter.unusedSimpArgs false
set_option maxRecDepth 100000
open Go.RowKit
theorem Amb.low {w w' : World} (h : Amb w) (hb : Below 3 w w') : Amb w' := by
  obtain ⟨h0, ⟨h1, h2⟩, m, h3⟩ := h
  refine ⟨Nat.le_trans h0 hb.size, ⟨fun c hc => ?_, fun i hi => ⟨?_, ?_⟩⟩, m, ?_⟩
  · exact (hb.cell (p := ⟨0, c, none⟩) (show 0 < 3 by omega)).trans (h1 c hc)
  · exact (hb.cell (p := ⟨1, 2 * i, none⟩) (show 1 < 3 by omega)).trans (h2 i hi).1
  · exact (hb.cell (p := ⟨1, 2 * i + 1, none⟩) (show 1 < 3 by omega)).trans (h2 i hi).2
  · exact (hb.cell (p := ⟨2, 0, none⟩) (show 2 < 3 by omega)).trans h3
theorem Amb.bx {w w' : World} {rb : Nat} (h : Amb w) (hb : Bx [rb] w.heap.size w w') (h3 : 3 ≤ rb) : Amb w' := h.low (hb.below h.1 (by simp; omega))
theorem check_bool (b : Bool) (c : Int) (w : World) : Calls Tryd.prog 44 #[.bool b, .int .i64 c] w fun e w' => (b = true ∧ e = .returned (.tuple #[]) ∧ w = w') ∨ (b = false ∧ e = .panicked (fault c) ∧ w = w') := by
  cases b
  · exact (check_no c w).mono fun e w' ⟨h1, h2⟩ => .inr ⟨rfl, h1, h2⟩
  · exact (check_yes c w).mono fun e w' ⟨h1, h2⟩ => .inl ⟨rfl, h1, h2⟩
def RPQ (rb : Nat) (l : List UInt8) (w : World) (e : Ending) (w' : World) : Prop :=
  (ACC l ∧ e = .returned (hdrOf l) ∧ RD w' rb l (endOf l) ∧ Bx [rb] w.heap.size w w') ∨
  (¬ ACC l ∧ ∃ c q, c ≠ 0 ∧ e = .panicked (fault c) ∧ RD w' rb l q ∧ Bx [rb] w.heap.size w w')
def RTT (rb : Nat) (l : List UInt8) (C D : Nat) (t1 t2 t3 t4 t5 t6 : Int) (w : World) (e : Ending) (w' : World) : Prop :=
  (10 + 4 ≤ l.length ∧ tmB D C = true ∧ e = .returned (.agg #[.int .i64 t1, .int .i64 t2, .int .i64 t3, .int .i64 t4, .int .i64 t5, .int .i64 t6]) ∧ RD w' rb l (10 + 4) ∧ Bx [rb] w.heap.size w w') ∨
  (¬ (10 + 4 ≤ l.length ∧ tmB D C = true) ∧ ∃ c q, c ≠ 0 ∧ e = .panicked (fault c) ∧ RD w' rb l q ∧ Bx [rb] w.heap.size w w')
set_option maxHeartbeats 16000000 in
theorem read_core (rb : Nat) (l : List UInt8) (w : World) (h : RD w rb l 0) (hA : Amb w) (h3 : 3 ≤ rb) (nm : ByteArray) (ver fl me C D cr p4 s4 n ex : Nat) (t1 t2 t3 t4 t5 t6 : Int) (gw gl : Bool) (E4 : Hid (rd l 4 2 = ver)) (E6 : Hid (rd l 6 2 = fl)) (E8 : Hid (rd l 8 2 = me)) (E10 : Hid (rd l 10 2 = C)) (E12 : Hid (rd l 12 2 = D)) (E14 : Hid (rd l 14 4 = cr)) (E18 : Hid (rd l 18 4 = p4)) (E22 : Hid (rd l 22 4 = s4)) (E26 : Hid (rd l 26 2 = n)) (E28 : Hid (rd l 28 2 = ex)) (ENM : Hid (str ((l.drop 30).take n) = nm)) (ET : Hid (1980 + (D : Int) / 512 = t1 ∧ (D : Int) / 32 % 16 = t2 ∧ (D : Int) % 32 = t3 ∧ (C : Int) / 2048 = t4 ∧ (C : Int) / 32 % 64 = t5 ∧ (C : Int) % 32 * 2 = t6)) (BD : Hid (ver < 65536 ∧ fl < 65536 ∧ me < 65536 ∧ cr < 4294967296 ∧ p4 < 4294967296 ∧ s4 < 4294967296 ∧ n < 65536 ∧ ex < 65536)) (GW : Hid (gwOf l = gw)) (GL : Hid (glOf l = gl)) (HVW : Hid (((ver : Int) == 45) = gw)) (HAND : Hid ((bits .and .i64 (fl : Int) 8 != 0) = gl)) : Calls Tryd.prog 21 #[.pointer (some ⟨rb, 0, none⟩)] w (RPQ rb l w) := by
  have hrb : rb < w.heap.size := by obtain ⟨_, _, _, _, _, _, _, h6⟩ := h; exact h6
  have HA := Lib.hid hA
  have Q_ver : Hid (IntKind.i64.wrap (ver : Int) = ver) := Lib.hid (by have bd := BD.out; exact IntWalk.i64_in _ (by omega))
  have Q_fl : Hid (IntKind.i64.wrap (fl : Int) = fl) := Lib.hid (by have bd := BD.out; exact IntWalk.i64_in _ (by omega))
  have Q_me : Hid (IntKind.i64.wrap (me : Int) = me) := Lib.hid (by have bd := BD.out; exact IntWalk.i64_in _ (by omega))
  have Q_p4 : Hid (IntKind.i64.wrap (p4 : Int) = p4) := Lib.hid (by have bd := BD.out; exact IntWalk.i64_in _ (by omega))
  have Q_s4 : Hid (IntKind.i64.wrap (s4 : Int) = s4) := Lib.hid (by have bd := BD.out; exact IntWalk.i64_in _ (by omega))
  have Q_n : Hid (IntKind.i64.wrap (n : Int) = n) := Lib.hid (by have bd := BD.out; exact IntWalk.i64_in _ (by omega))
  have Q_ex : Hid (IntKind.i64.wrap (ex : Int) = ex) := Lib.hid (by have bd := BD.out; exact IntWalk.i64_in _ (by omega))
  have Q_cr : Hid (IntKind.u32.wrap (cr : Int) = cr) := Lib.hid (by have bd := BD.out; rw [IntKind.wrap_u32]; omega)
  have I1 : Hid (∀ W : World, RD W rb l (4) → 6 ≤ l.length → Calls Tryd.prog 41 #[.pointer (some ⟨rb, 0, none⟩), .int .i64 2] W fun e w' => e = .returned (.int .u64 (ver : Nat)) ∧ RD w' rb l (6) ∧ Bx [rb] W.heap.size W w') := Lib.hid (fun W hW hn => by rw [← E4.out]; exact int_yes hW 2 (by decide) (by decide) (by omega))
  have I2 : Hid (∀ W : World, RD W rb l (6) → 8 ≤ l.length → Calls Tryd.prog 41 #[.pointer (some ⟨rb, 0, none⟩), .int .i64 2] W fun e w' => e = .returned (.int .u64 (fl : Nat)) ∧ RD w' rb l (8) ∧ Bx [rb] W.heap.size W w') := Lib.hid (fun W hW hn => by rw [← E6.out]; exact int_yes hW 2 (by decide) (by decide) (by omega))
  have I3 : Hid (∀ W : World, RD W rb l (8) → 10 ≤ l.length → Calls Tryd.prog 41 #[.pointer (some ⟨rb, 0, none⟩), .int .i64 2] W fun e w' => e = .returned (.int .u64 (me : Nat)) ∧ RD w' rb l (10) ∧ Bx [rb] W.heap.size W w') := Lib.hid (fun W hW hn => by rw [← E8.out]; exact int_yes hW 2 (by decide) (by decide) (by omega))
  have I4 : Hid (∀ W : World, RD W rb l (14) → 18 ≤ l.length → Calls Tryd.prog 41 #[.pointer (some ⟨rb, 0, none⟩), .int .i64 4] W fun e w' => e = .returned (.int .u64 (cr : Nat)) ∧ RD w' rb l (18) ∧ Bx [rb] W.heap.size W w') := Lib.hid (fun W hW hn => by rw [← E14.out]; exact int_yes hW 4 (by decide) (by decide) (by omega))
  have I5 : Hid (∀ W : World, RD W rb l (18) → 22 ≤ l.length → Calls Tryd.prog 41 #[.pointer (some ⟨rb, 0, none⟩), .int .i64 4] W fun e w' => e = .returned (.int .u64 (p4 : Nat)) ∧ RD w' rb l (22) ∧ Bx [rb] W.heap.size W w') := Lib.hid (fun W hW hn => by rw [← E18.out]; exact int_yes hW 4 (by decide) (by decide) (by omega))
  have I6 : Hid (∀ W : World, RD W rb l (22) → 26 ≤ l.length → Calls Tryd.prog 41 #[.pointer (some ⟨rb, 0, none⟩), .int .i64 4] W fun e w' => e = .returned (.int .u64 (s4 : Nat)) ∧ RD w' rb l (26) ∧ Bx [rb] W.heap.size W w') := Lib.hid (fun W hW hn => by rw [← E22.out]; exact int_yes hW 4 (by decide) (by decide) (by omega))
  have I7 : Hid (∀ W : World, RD W rb l (26) → 28 ≤ l.length → Calls Tryd.prog 41 #[.pointer (some ⟨rb, 0, none⟩), .int .i64 2] W fun e w' => e = .returned (.int .u64 (n : Nat)) ∧ RD w' rb l (28) ∧ Bx [rb] W.heap.size W w') := Lib.hid (fun W hW hn => by rw [← E26.out]; exact int_yes hW 2 (by decide) (by decide) (by omega))
  have I8 : Hid (∀ W : World, RD W rb l (28) → 30 ≤ l.length → Calls Tryd.prog 41 #[.pointer (some ⟨rb, 0, none⟩), .int .i64 2] W fun e w' => e = .returned (.int .u64 (ex : Nat)) ∧ RD w' rb l (30) ∧ Bx [rb] W.heap.size W w') := Lib.hid (fun W hW hn => by rw [← E28.out]; exact int_yes hW 2 (by decide) (by decide) (by omega))
  have IT : Hid (∀ W : World, RD W rb l 10 → Calls Tryd.prog 42 #[.pointer (some ⟨rb, 0, none⟩)] W (RTT rb l C D t1 t2 t3 t4 t5 t6 W)) := Lib.hid (fun W hW => by
    refine (readTime_any rb l 10 C D W hW E10.out E12.out).mono fun e w' hq => ?_
    obtain ⟨a1, a2, a3, a4, a5, a6⟩ := ET.out
    unfold RTQ at hq
    rw [a1, a2, a3, a4, a5, a6] at hq
    exact hq)
  have HB := Lib.hid (((Below.refl w.heap.size w).alloc (Nat.le_refl _) (.cells #[.string ByteArray.empty, .int .i64 0, .int .i64 0, .int .i64 0, .int .i64 0, .int .i64 0, .int .i64 0, .int .i64 0, .int .u32 0, .int .i64 0, .int .i64 0, .bool false, .bool false] 26)).alloc (by simp) (.cells #[.string ByteArray.empty, .int .i64 0, .int .i64 0, .int .i64 0, .int .i64 0, .int .i64 0, .int .i64 0, .int .i64 0, .int .u32 0, .int .i64 0, .int .i64 0, .bool false, .bool false] 26))
  have HR := Lib.hid (h.below HB.out)
  have HB : Hid (Bx [rb] w.heap.size w ((w.alloc (.cells #[.string ByteArray.empty, .int .i64 0, .int .i64 0, .int .i64 0, .int .i64 0, .int .i64 0, .int .i64 0, .int .i64 0, .int .u32 0, .int .i64 0, .int .i64 0, .bool false, .bool false] 26)).alloc (.cells #[.string ByteArray.empty, .int .i64 0, .int .i64 0, .int .i64 0, .int .i64 0, .int .i64 0, .int .i64 0, .int .i64 0, .int .u32 0, .int .i64 0, .int .i64 0, .bool false, .bool false] 26))) := Lib.hid (Bx.of_below HB.out)
  have HO0 := Lib.hid ((Own.new_at w [.string ByteArray.empty, .int .i64 0, .int .i64 0, .int .i64 0, .int .i64 0, .int .i64 0, .int .i64 0, .int .i64 0, .int .u32 0, .int .i64 0, .int .i64 0, .bool false, .bool false] 26 w.heap.size rfl).below ((Below.refl _ _).alloc (Nat.le_refl _) (.cells #[.string ByteArray.empty, .int .i64 0, .int .i64 0, .int .i64 0, .int .i64 0, .int .i64 0, .int .i64 0, .int .i64 0, .int .u32 0, .int .i64 0, .int .i64 0, .bool false, .bool false] 26)) (by simp))
  have HO1 := Lib.hid (Own.new_at (w.alloc (.cells #[.string ByteArray.empty, .int .i64 0, .int .i64 0, .int .i64 0, .int .i64 0, .int .i64 0, .int .i64 0, .int .i64 0, .int .u32 0, .int .i64 0, .int .i64 0, .bool false, .bool false] 26)) [.string ByteArray.empty, .int .i64 0, .int .i64 0, .int .i64 0, .int .i64 0, .int .i64 0, .int .i64 0, .int .i64 0, .int .u32 0, .int .i64 0, .int .i64 0, .bool false, .bool false] 26 (w.heap.size + 1) (by simp))
  clear h hA
  go_enter Tryd.func21, Tryd.ntmps21
  go_wp2_with (fail)
  by_cases n0 : 4 ≤ l.length
  rotate_left
  · refine (want_short HR.out 4 67324752 30 (by decide) (by decide) (by omega)).mono ?_
    rintro e wf ⟨rfl, hd, hb⟩
    have HF := Lib.hid (show RPQ rb l w (.panicked (fault 4)) wf from .inr ⟨fun a => by have := a.len; omega, 4, _, by decide, rfl, hd, HB.out.trans (hb.mono (by simp; omega))⟩)
    clear hd hb
    go_wp2_with (fail)
    exact ⟨rfl, HF.out⟩
  by_cases m0 : rd l 0 4 = 67324752
  rotate_left
  · refine (want_no HR.out 4 67324752 30 (by decide) (by decide) (by omega) (by omega)).mono ?_
    rintro e wf ⟨rfl, hd, hb⟩
    have HF := Lib.hid (show RPQ rb l w (.panicked (fault 30)) wf from .inr ⟨fun a => m0 a.mg, 30, _, by decide, rfl, hd, HB.out.trans (hb.mono (by simp; omega))⟩)
    clear hd hb
    go_wp2_with (fail)
    exact ⟨rfl, HF.out⟩
  refine (want_yes HR.out 4 67324752 30 (by decide) (by decide) (by omega) (by omega)).mono ?_
  rintro e w1 ⟨rfl, hd, hb⟩
  have hs := hb.size
  simp only [World.size_alloc] at hs
  have HR := Lib.hid hd
  have HB := Lib.hid (HB.out.trans (hb.mono (by simp; omega)))
  have HO0 := Lib.hid (HO0.out.bx hb (by simp; omega) (by simp; omega))
  have HO1 := Lib.hid (HO1.out.bx hb (by simp) (by simp; omega))
  have hlt1 : w.heap.size + 1 < w1.heap.size := by omega
  clear hd hb hs 
  have hlt := hlt1
  clear hlt1
  have M0 := Lib.hid m0
  clear m0 n0
  go_wp2_with (fail)
  by_cases n6 : 6 ≤ l.length
  rotate_left
  · refine (int_short HR.out 2 (by decide) (by decide) (by omega)).mono ?_
    rintro e wf ⟨rfl, hd, hb⟩
    have HF := Lib.hid (show RPQ rb l w (.panicked (fault 4)) wf from .inr ⟨fun a => by have := a.len; omega, 4, _, by decide, rfl, hd, HB.out.trans (hb.mono (by omega))⟩)
    clear hd hb
    go_wp2_with (fail)
    exact ⟨rfl, HF.out⟩
  refine (I1.out _ HR.out n6).mono ?_
  rintro e w2 ⟨rfl, hd, hb⟩
  have hs := hb.size
  have HR := Lib.hid hd
  have HB := Lib.hid (HB.out.trans (hb.mono (by omega)))
  have HO0 := Lib.hid (HO0.out.bx hb (by omega) (by simp; omega))
  have HO1 := Lib.hid (HO1.out.bx hb (by omega) (by simp; omega))
  have hlt1 : w.heap.size + 1 < w2.heap.size := by omega
  clear hd hb hs hlt
  have hlt := hlt1
  clear hlt1
  clear n6
  have q_ver := Q_ver.out
  go_wp2_with (fail)
  clear q_ver
  by_cases n8 : 8 ≤ l.length
  rotate_left
  · refine (int_short HR.out 2 (by decide) (by decide) (by omega)).mono ?_
    rintro e wf ⟨rfl, hd, hb⟩
    have HF := Lib.hid (show RPQ rb l w (.panicked (fault 4)) wf from .inr ⟨fun a => by have := a.len; omega, 4, _, by decide, rfl, hd, HB.out.trans (hb.mono (by omega))⟩)
    clear hd hb
    go_wp2_with (fail)
    exact ⟨rfl, HF.out⟩
  refine (I2.out _ HR.out n8).mono ?_
  rintro e w3 ⟨rfl, hd, hb⟩
  have hs := hb.size
  have HR := Lib.hid hd
  have HB := Lib.hid (HB.out.trans (hb.mono (by omega)))
  have HO0 := Lib.hid (HO0.out.bx hb (by omega) (by simp; omega))
  have HO1 := Lib.hid (HO1.out.bx hb (by omega) (by simp; omega))
  have hlt1 : w.heap.size + 1 < w3.heap.size := by omega
  clear hd hb hs hlt
  have hlt := hlt1
  clear hlt1
  clear n8
  have q_fl := Q_fl.out
  go_wp2_with (fail)
  clear q_fl
  by_cases n10 : 10 ≤ l.length
  rotate_left
  · refine (int_short HR.out 2 (by decide) (by decide) (by omega)).mono ?_
    rintro e wf ⟨rfl, hd, hb⟩
    have HF := Lib.hid (show RPQ rb l w (.panicked (fault 4)) wf from .inr ⟨fun a => by have := a.len; omega, 4, _, by decide, rfl, hd, HB.out.trans (hb.mono (by omega))⟩)
    clear hd hb
    go_wp2_with (fail)
    exact ⟨rfl, HF.out⟩
  refine (I3.out _ HR.out n10).mono ?_
  rintro e w4 ⟨rfl, hd, hb⟩
  have hs := hb.size
  have HR := Lib.hid hd
  have HB := Lib.hid (HB.out.trans (hb.mono (by omega)))
  have HO0 := Lib.hid (HO0.out.bx hb (by omega) (by simp; omega))
  have HO1 := Lib.hid (HO1.out.bx hb (by omega) (by simp; omega))
  have hlt1 : w.heap.size + 1 < w4.heap.size := by omega
  clear hd hb hs hlt
  have hlt := hlt1
  clear hlt1
  clear n10
  have q_me := Q_me.out
  have k7 := HO1.out.1 7 _ rfl
  have hf := HO1.out.2
  go_upto_region 5 with (fail)
  clear k7 hf
  have HO1 := Lib.hid (HO1.out.set 7 (.int .i64 (me : Nat)) (by simp))
  have HO0 := Lib.hid (HO0.out.other (c := w.heap.size + 1) (by omega) 7 (.int .i64 (me : Nat)))
  have HR := Lib.hid (HR.out.set_other (b := w.heap.size + 1) (by omega) 7 (.int .i64 (me : Nat)))
  have HB := Lib.hid (HB.out.setCell (p := ⟨w.heap.size + 1, 7, none⟩) (.inr (by simp)) (.int .i64 (me : Nat)))
  have hlt1 : w.heap.size + 1 < (w4.setCell ⟨w.heap.size + 1, 7, none⟩ (.int .i64 (me : Nat))).heap.size := by simpa using hlt
  clear hlt
  have hlt := hlt1
  clear hlt1
  generalize w4.setCell ⟨w.heap.size + 1, 7, none⟩ (.int .i64 (me : Nat)) = w5 at *
  simp only [List.set_cons_zero, List.set_cons_succ] at HO1
  clear q_me
  go_wp2_with (fail)
  refine (IT.out _ HR.out).mono ?_
  rintro e w6 hq
  unfold RTT at hq
  rcases hq with ⟨n14, ht, rfl, hd, hb⟩ | ⟨hno, c, q, hc, rfl, hd, hb⟩
  rotate_left
  · have HF := Lib.hid (show RPQ rb l w (.panicked (fault c)) w6 from .inr ⟨(fun a => hno ⟨by have := a.len; omega, by rw [← E10.out, ← E12.out]; exact a.tm⟩), c, q, hc, rfl, hd, HB.out.trans (hb.mono (by omega))⟩)
    clear hd hb hno
    go_wp2_with (fail)
    exact ⟨rfl, HF.out⟩
  have HT := Lib.hid ht
  have hs := hb.size
  clear ht n14
  have HR := Lib.hid hd
  have HB := Lib.hid (HB.out.trans (hb.mono (by omega)))
  have HO0 := Lib.hid (HO0.out.bx hb (by omega) (by simp; omega))
  have HO1 := Lib.hid (HO1.out.bx hb (by omega) (by simp; omega))
  have hlt1 : w.heap.size + 1 < w6.heap.size := by omega
  clear hd hb hs hlt
  have hlt := hlt1
  clear hlt1
  have k1 := HO1.out.1 1 _ rfl
  have k2 := HO1.out.1 2 _ rfl
  have k3 := HO1.out.1 3 _ rfl
  have k4 := HO1.out.1 4 _ rfl
  have k5 := HO1.out.1 5 _ rfl
  have k6 := HO1.out.1 6 _ rfl
  have hf := HO1.out.2
  go_upto_region 6 with (fail)
  clear k1 k2 k3 k4 k5 k6 hf
  have HO1 := Lib.hid (HO1.out.set 1 (.int .i64 t1) (by simp))
  have HO0 := Lib.hid (HO0.out.other (c := w.heap.size + 1) (by omega) 1 (.int .i64 t1))
  have HR := Lib.hid (HR.out.set_other (b := w.heap.size + 1) (by omega) 1 (.int .i64 t1))
  have HB := Lib.hid (HB.out.setCell (p := ⟨w.heap.size + 1, 1, none⟩) (.inr (by simp)) (.int .i64 t1))
  have HO1 := Lib.hid (HO1.out.set 2 (.int .i64 t2) (by simp))
  have HO0 := Lib.hid (HO0.out.other (c := w.heap.size + 1) (by omega) 2 (.int .i64 t2))
  have HR := Lib.hid (HR.out.set_other (b := w.heap.size + 1) (by omega) 2 (.int .i64 t2))
  have HB := Lib.hid (HB.out.setCell (p := ⟨w.heap.size + 1, 2, none⟩) (.inr (by simp)) (.int .i64 t2))
  have HO1 := Lib.hid (HO1.out.set 3 (.int .i64 t3) (by simp))
  have HO0 := Lib.hid (HO0.out.other (c := w.heap.size + 1) (by omega) 3 (.int .i64 t3))
  have HR := Lib.hid (HR.out.set_other (b := w.heap.size + 1) (by omega) 3 (.int .i64 t3))
  have HB := Lib.hid (HB.out.setCell (p := ⟨w.heap.size + 1, 3, none⟩) (.inr (by simp)) (.int .i64 t3))
  have HO1 := Lib.hid (HO1.out.set 4 (.int .i64 t4) (by simp))
  have HO0 := Lib.hid (HO0.out.other (c := w.heap.size + 1) (by omega) 4 (.int .i64 t4))
  have HR := Lib.hid (HR.out.set_other (b := w.heap.size + 1) (by omega) 4 (.int .i64 t4))
  have HB := Lib.hid (HB.out.setCell (p := ⟨w.heap.size + 1, 4, none⟩) (.inr (by simp)) (.int .i64 t4))
  have HO1 := Lib.hid (HO1.out.set 5 (.int .i64 t5) (by simp))
  have HO0 := Lib.hid (HO0.out.other (c := w.heap.size + 1) (by omega) 5 (.int .i64 t5))
  have HR := Lib.hid (HR.out.set_other (b := w.heap.size + 1) (by omega) 5 (.int .i64 t5))
  have HB := Lib.hid (HB.out.setCell (p := ⟨w.heap.size + 1, 5, none⟩) (.inr (by simp)) (.int .i64 t5))
  have HO1 := Lib.hid (HO1.out.set 6 (.int .i64 t6) (by simp))
  have HO0 := Lib.hid (HO0.out.other (c := w.heap.size + 1) (by omega) 6 (.int .i64 t6))
  have HR := Lib.hid (HR.out.set_other (b := w.heap.size + 1) (by omega) 6 (.int .i64 t6))
  have HB := Lib.hid (HB.out.setCell (p := ⟨w.heap.size + 1, 6, none⟩) (.inr (by simp)) (.int .i64 t6))
  have hlt1 : w.heap.size + 1 < ((((((w6.setCell ⟨w.heap.size + 1, 1, none⟩ (.int .i64 t1)).setCell ⟨w.heap.size + 1, 2, none⟩ (.int .i64 t2)).setCell ⟨w.heap.size + 1, 3, none⟩ (.int .i64 t3)).setCell ⟨w.heap.size + 1, 4, none⟩ (.int .i64 t4)).setCell ⟨w.heap.size + 1, 5, none⟩ (.int .i64 t5)).setCell ⟨w.heap.size + 1, 6, none⟩ (.int .i64 t6)).heap.size := by simpa using hlt
  clear hlt
  have hlt := hlt1
  clear hlt1
  generalize (((((w6.setCell ⟨w.heap.size + 1, 1, none⟩ (.int .i64 t1)).setCell ⟨w.heap.size + 1, 2, none⟩ (.int .i64 t2)).setCell ⟨w.heap.size + 1, 3, none⟩ (.int .i64 t3)).setCell ⟨w.heap.size + 1, 4, none⟩ (.int .i64 t4)).setCell ⟨w.heap.size + 1, 5, none⟩ (.int .i64 t5)).setCell ⟨w.heap.size + 1, 6, none⟩ (.int .i64 t6) = w7 at *
  simp only [List.set_cons_zero, List.set_cons_succ] at HO1
  go_wp2_with (fail)
  by_cases n18 : 18 ≤ l.length
  rotate_left
  · refine (int_short HR.out 4 (by decide) (by decide) (by omega)).mono ?_
    rintro e wf ⟨rfl, hd, hb⟩
    have HF := Lib.hid (show RPQ rb l w (.panicked (fault 4)) wf from .inr ⟨fun a => by have := a.len; omega, 4, _, by decide, rfl, hd, HB.out.trans (hb.mono (by omega))⟩)
    clear hd hb
    go_wp2_with (fail)
    exact ⟨rfl, HF.out⟩
  refine (I4.out _ HR.out n18).mono ?_
  rintro e w8 ⟨rfl, hd, hb⟩
  have hs := hb.size
  have HR := Lib.hid hd
  have HB := Lib.hid (HB.out.trans (hb.mono (by omega)))
  have HO0 := Lib.hid (HO0.out.bx hb (by omega) (by simp; omega))
  have HO1 := Lib.hid (HO1.out.bx hb (by omega) (by simp; omega))
  have hlt1 : w.heap.size + 1 < w8.heap.size := by omega
  clear hd hb hs hlt
  have hlt := hlt1
  clear hlt1
  clear n18
  have q_cr := Q_cr.out
  have k8 := HO1.out.1 8 _ rfl
  have hf := HO1.out.2
  go_upto_region 7 with (fail)
  clear k8 hf
  have HO1 := Lib.hid (HO1.out.set 8 (.int .u32 (cr : Nat)) (by simp))
  have HO0 := Lib.hid (HO0.out.other (c := w.heap.size + 1) (by omega) 8 (.int .u32 (cr : Nat)))
  have HR := Lib.hid (HR.out.set_other (b := w.heap.size + 1) (by omega) 8 (.int .u32 (cr : Nat)))
  have HB := Lib.hid (HB.out.setCell (p := ⟨w.heap.size + 1, 8, none⟩) (.inr (by simp)) (.int .u32 (cr : Nat)))
  have hlt1 : w.heap.size + 1 < (w8.setCell ⟨w.heap.size + 1, 8, none⟩ (.int .u32 (cr : Nat))).heap.size := by simpa using hlt
  clear hlt
  have hlt := hlt1
  clear hlt1
  generalize w8.setCell ⟨w.heap.size + 1, 8, none⟩ (.int .u32 (cr : Nat)) = w9 at *
  simp only [List.set_cons_zero, List.set_cons_succ] at HO1
  clear q_cr
  go_wp2_with (fail)
  by_cases n22 : 22 ≤ l.length
  rotate_left
  · refine (int_short HR.out 4 (by decide) (by decide) (by omega)).mono ?_
    rintro e wf ⟨rfl, hd, hb⟩
    have HF := Lib.hid (show RPQ rb l w (.panicked (fault 4)) wf from .inr ⟨fun a => by have := a.len; omega, 4, _, by decide, rfl, hd, HB.out.trans (hb.mono (by omega))⟩)
    clear hd hb
    go_wp2_with (fail)
    exact ⟨rfl, HF.out⟩
  refine (I5.out _ HR.out n22).mono ?_
  rintro e w10 ⟨rfl, hd, hb⟩
  have hs := hb.size
  have HR := Lib.hid hd
  have HB := Lib.hid (HB.out.trans (hb.mono (by omega)))
  have HO0 := Lib.hid (HO0.out.bx hb (by omega) (by simp; omega))
  have HO1 := Lib.hid (HO1.out.bx hb (by omega) (by simp; omega))
  have hlt1 : w.heap.size + 1 < w10.heap.size := by omega
  clear hd hb hs hlt
  have hlt := hlt1
  clear hlt1
  clear n22
  have q_p4 := Q_p4.out
  go_wp2_with (fail)
  clear q_p4
  by_cases n26 : 26 ≤ l.length
  rotate_left
  · refine (int_short HR.out 4 (by decide) (by decide) (by omega)).mono ?_
    rintro e wf ⟨rfl, hd, hb⟩
    have HF := Lib.hid (show RPQ rb l w (.panicked (fault 4)) wf from .inr ⟨fun a => by have := a.len; omega, 4, _, by decide, rfl, hd, HB.out.trans (hb.mono (by omega))⟩)
    clear hd hb
    go_wp2_with (fail)
    exact ⟨rfl, HF.out⟩
  refine (I6.out _ HR.out n26).mono ?_
  rintro e w11 ⟨rfl, hd, hb⟩
  have hs := hb.size
  have HR := Lib.hid hd
  have HB := Lib.hid (HB.out.trans (hb.mono (by omega)))
  have HO0 := Lib.hid (HO0.out.bx hb (by omega) (by simp; omega))
  have HO1 := Lib.hid (HO1.out.bx hb (by omega) (by simp; omega))
  have hlt1 : w.heap.size + 1 < w11.heap.size := by omega
  clear hd hb hs hlt
  have hlt := hlt1
  clear hlt1
  clear n26
  have q_s4 := Q_s4.out
  have k9 := HO1.out.1 9 _ rfl
  have k10 := HO1.out.1 10 _ rfl
  have hf := HO1.out.2
  go_upto_region 8 with (fail)
  clear k9 k10 hf
  have HO1 := Lib.hid (HO1.out.set 9 (.int .i64 (p4 : Nat)) (by simp))
  have HO0 := Lib.hid (HO0.out.other (c := w.heap.size + 1) (by omega) 9 (.int .i64 (p4 : Nat)))
  have HR := Lib.hid (HR.out.set_other (b := w.heap.size + 1) (by omega) 9 (.int .i64 (p4 : Nat)))
  have HB := Lib.hid (HB.out.setCell (p := ⟨w.heap.size + 1, 9, none⟩) (.inr (by simp)) (.int .i64 (p4 : Nat)))
  have HO1 := Lib.hid (HO1.out.set 10 (.int .i64 (s4 : Nat)) (by simp))
  have HO0 := Lib.hid (HO0.out.other (c := w.heap.size + 1) (by omega) 10 (.int .i64 (s4 : Nat)))
  have HR := Lib.hid (HR.out.set_other (b := w.heap.size + 1) (by omega) 10 (.int .i64 (s4 : Nat)))
  have HB := Lib.hid (HB.out.setCell (p := ⟨w.heap.size + 1, 10, none⟩) (.inr (by simp)) (.int .i64 (s4 : Nat)))
  have hlt1 : w.heap.size + 1 < ((w11.setCell ⟨w.heap.size + 1, 9, none⟩ (.int .i64 (p4 : Nat))).setCell ⟨w.heap.size + 1, 10, none⟩ (.int .i64 (s4 : Nat))).heap.size := by simpa using hlt
  clear hlt
  have hlt := hlt1
  clear hlt1
  generalize (w11.setCell ⟨w.heap.size + 1, 9, none⟩ (.int .i64 (p4 : Nat))).setCell ⟨w.heap.size + 1, 10, none⟩ (.int .i64 (s4 : Nat)) = w12 at *
  simp only [List.set_cons_zero, List.set_cons_succ] at HO1
  clear q_s4
  go_wp2_with (fail)
  by_cases n28 : 28 ≤ l.length
  rotate_left
  · refine (int_short HR.out 2 (by decide) (by decide) (by omega)).mono ?_
    rintro e wf ⟨rfl, hd, hb⟩
    have HF := Lib.hid (show RPQ rb l w (.panicked (fault 4)) wf from .inr ⟨fun a => by have := a.len; omega, 4, _, by decide, rfl, hd, HB.out.trans (hb.mono (by omega))⟩)
    clear hd hb
    go_wp2_with (fail)
    exact ⟨rfl, HF.out⟩
  refine (I7.out _ HR.out n28).mono ?_
  rintro e w13 ⟨rfl, hd, hb⟩
  have hs := hb.size
  have HR := Lib.hid hd
  have HB := Lib.hid (HB.out.trans (hb.mono (by omega)))
  have HO0 := Lib.hid (HO0.out.bx hb (by omega) (by simp; omega))
  have HO1 := Lib.hid (HO1.out.bx hb (by omega) (by simp; omega))
  have hlt1 : w.heap.size + 1 < w13.heap.size := by omega
  clear hd hb hs hlt
  have hlt := hlt1
  clear hlt1
  clear n28
  have q_n := Q_n.out
  go_wp2_with (fail)
  clear q_n
  by_cases n30 : 30 ≤ l.length
  rotate_left
  · refine (int_short HR.out 2 (by decide) (by decide) (by omega)).mono ?_
    rintro e wf ⟨rfl, hd, hb⟩
    have HF := Lib.hid (show RPQ rb l w (.panicked (fault 4)) wf from .inr ⟨fun a => by have := a.len; omega, 4, _, by decide, rfl, hd, HB.out.trans (hb.mono (by omega))⟩)
    clear hd hb
    go_wp2_with (fail)
    exact ⟨rfl, HF.out⟩
  refine (I8.out _ HR.out n30).mono ?_
  rintro e w14 ⟨rfl, hd, hb⟩
  have hs := hb.size
  have HR := Lib.hid hd
  have HB := Lib.hid (HB.out.trans (hb.mono (by omega)))
  have HO0 := Lib.hid (HO0.out.bx hb (by omega) (by simp; omega))
  have HO1 := Lib.hid (HO1.out.bx hb (by omega) (by simp; omega))
  have hlt1 : w.heap.size + 1 < w14.heap.size := by omega
  clear hd hb hs hlt
  have hlt := hlt1
  clear hlt1
  clear n30
  have q_ex := Q_ex.out
  go_wp2_with (fail)
  clear q_ex
  by_cases nn : 30 + n ≤ l.length
  rotate_left
  · refine (bytes_short HR.out (n : Int) (by omega) (by omega)).mono ?_
    rintro e wf ⟨rfl, hd, hb⟩
    have HF := Lib.hid (show RPQ rb l w (.panicked (fault 4)) wf from .inr ⟨fun a => by have := a.len; rw [E26.out] at this; omega, 4, _, by decide, rfl, hd, HB.out.trans (hb.mono (by omega))⟩)
    clear hd hb
    go_wp2_with (fail)
    exact ⟨rfl, HF.out⟩
  refine (bytes_yes HR.out n nn).mono ?_
  rintro e w15 ⟨ab, kb, cb, rfl, hob, hd, hb⟩
  have hs := hb.size
  have hcv := convert_byt Tryd.underlying31 Tryd.underlying5 Tryd.underlying9 (OB.byt hob)
  rw [ENM.out] at hcv
  clear hob
  have HR := Lib.hid hd
  have HB := Lib.hid (HB.out.trans (hb.mono (by omega)))
  have HO0 := Lib.hid (HO0.out.bx hb (by omega) (by simp; omega))
  have HO1 := Lib.hid (HO1.out.bx hb (by omega) (by simp; omega))
  have hlt1 : w.heap.size + 1 < w15.heap.size := by omega
  clear hd hb hs hlt
  have hlt := hlt1
  clear hlt1
  have NN := Lib.hid nn
  clear nn
  have k0 := HO1.out.1 0 _ rfl
  have hf := HO1.out.2
  go_upto_region 10 with (fail)
  clear k0 hf
  have HO1 := Lib.hid (HO1.out.set 0 (.string nm) (by simp))
  have HO0 := Lib.hid (HO0.out.other (c := w.heap.size + 1) (by omega) 0 (.string nm))
  have HR := Lib.hid (HR.out.set_other (b := w.heap.size + 1) (by omega) 0 (.string nm))
  have HB := Lib.hid (HB.out.setCell (p := ⟨w.heap.size + 1, 0, none⟩) (.inr (by simp)) (.string nm))
  have hlt1 : w.heap.size + 1 < (w15.setCell ⟨w.heap.size + 1, 0, none⟩ (.string nm)).heap.size := by simpa using hlt
  clear hlt
  have hlt := hlt1
  clear hlt1
  generalize w15.setCell ⟨w.heap.size + 1, 0, none⟩ (.string nm) = w16 at *
  simp only [List.set_cons_zero] at HO1
  clear hcv
  have NM : Hid (nmOf l = nm) := Lib.hid (by unfold nmOf; rw [E26.out]; exact ENM.out)
  have RT : Hid (Dos.rightB t1 t2 t3 t4 t5 t6 = true) := Lib.hid (by have := HT.out; unfold tmB at this; rw [ET.out.1, ET.out.2.1, ET.out.2.2.1, ET.out.2.2.2.1, ET.out.2.2.2.2.1, ET.out.2.2.2.2.2] at this; exact this)
  have HNM : Hid (nm.size ≤ 65536) := Lib.hid (by rw [← ENM.out]; show ((l.drop 30).take n).length ≤ 65536; have bd := BD.out; rw [List.length_take]; omega)
  obtain ⟨f, FE'⟩ : ∃ z, z = flagI nm gl := ⟨_, rfl⟩
  have FE := Lib.hid FE'.symm
  clear FE'
  have hv := HVW.out
  have k11 := HO1.out.1 11 _ rfl
  have hf := HO1.out.2
  go_upto_region 11 with (fail)
  clear k11 hf
  have HO1 := Lib.hid (HO1.out.set 11 (.bool gw) (by simp))
  have HO0 := Lib.hid (HO0.out.other (c := w.heap.size + 1) (by omega) 11 (.bool gw))
  have HR := Lib.hid (HR.out.set_other (b := w.heap.size + 1) (by omega) 11 (.bool gw))
  have HB := Lib.hid (HB.out.setCell (p := ⟨w.heap.size + 1, 11, none⟩) (.inr (by simp)) (.bool gw))
  have hlt1 : w.heap.size + 1 < (w16.setCell ⟨w.heap.size + 1, 11, none⟩ (.bool gw)).heap.size := by simpa using hlt
  clear hlt
  have hlt := hlt1
  clear hlt1
  generalize w16.setCell ⟨w.heap.size + 1, 11, none⟩ (.bool gw) = w17 at *
  simp only [List.set_cons_zero, List.set_cons_succ] at HO1
  clear hv
  have hand := HAND.out
  have k12 := HO1.out.1 12 _ rfl
  have hf := HO1.out.2
  go_upto_region 12 with (fail)
  clear k12 hf
  have HO1 := Lib.hid (HO1.out.set 12 (.bool gl) (by simp))
  have HO0 := Lib.hid (HO0.out.other (c := w.heap.size + 1) (by omega) 12 (.bool gl))
  have HR := Lib.hid (HR.out.set_other (b := w.heap.size + 1) (by omega) 12 (.bool gl))
  have HB := Lib.hid (HB.out.setCell (p := ⟨w.heap.size + 1, 12, none⟩) (.inr (by simp)) (.bool gl))
  have hlt1 : w.heap.size + 1 < (w17.setCell ⟨w.heap.size + 1, 12, none⟩ (.bool gl)).heap.size := by simpa using hlt
  clear hlt
  have hlt := hlt1
  clear hlt1
  generalize w17.setCell ⟨w.heap.size + 1, 12, none⟩ (.bool gl) = w18 at *
  simp only [List.set_cons_zero, List.set_cons_succ] at HO1
  clear hand
  have FL : Hid (∀ W, Calls Tryd.prog 13 #[.agg #[.string nm, .int .i64 t1, .int .i64 t2, .int .i64 t3, .int .i64 t4, .int .i64 t5, .int .i64 t6, .int .i64 (me : Nat), .int .u32 (cr : Nat), .int .i64 (p4 : Nat), .int .i64 (s4 : Nat), .bool gw, .bool gl]] W (CQ (.int .i64 f) W)) := Lib.hid (fun W => by rw [← FE.out]; exact flags_any nm t1 t2 t3 t4 t5 t6 (me : Nat) (cr : Nat) (p4 : Nat) (s4 : Nat) gw gl W (by have := HNM.out; omega))
  have k0 := HO1.out.1 0 _ rfl
  have k1 := HO1.out.1 1 _ rfl
  have k2 := HO1.out.1 2 _ rfl
  have k3 := HO1.out.1 3 _ rfl
  have k4 := HO1.out.1 4 _ rfl
  have k5 := HO1.out.1 5 _ rfl
  have k6 := HO1.out.1 6 _ rfl
  have k7 := HO1.out.1 7 _ rfl
  have k8 := HO1.out.1 8 _ rfl
  have k9 := HO1.out.1 9 _ rfl
  have k10 := HO1.out.1 10 _ rfl
  have k11 := HO1.out.1 11 _ rfl
  have k12 := HO1.out.1 12 _ rfl
  go_wp2_with (fail)
  refine (version_any nm t1 t2 t3 t4 t5 t6 (me : Nat) (cr : Nat) (p4 : Nat) (s4 : Nat) gw gl _).mono ?_
  rintro e w19 ⟨rfl, hb⟩
  have hs := hb.size
  have HR := Lib.hid (HR.out.below hb)
  have HB := Lib.hid (HB.out.trans (Bx.of_below (hb.mono (by omega))))
  have HO0 := Lib.hid (HO0.out.below hb (by omega))
  have HO1 := Lib.hid (HO1.out.below hb (by omega))
  have hlt1 : w.heap.size + 1 < w19.heap.size := by omega
  clear hb hs hlt
  have hlt := hlt1
  clear hlt1
  clear k0 k1 k2 k3 k4 k5 k6 k7 k8 k9 k10 k11 k12
  obtain ⟨vv, VE1⟩ : ∃ z, z = verI gw := ⟨_, rfl⟩
  rw [← VE1]
  have VE := Lib.hid VE1
  clear VE1
  go_wp2_with (fail)
  refine (check_bool _ _ _).mono ?_
  rintro e w' (⟨hbb, rfl, rfl⟩ | ⟨hbb, rfl, rfl⟩)
  rotate_left
  · have HF := Lib.hid (show RPQ rb l w (.panicked (fault 31)) w19 from .inr ⟨fun a => by have h := a.ver; rw [GW.out, E4.out, ← VE.out] at h; rw [h] at hbb; simp at hbb, 31, _, by decide, rfl, HR.out, HB.out⟩)
    clear hbb
    go_wp2_with (fail)
    exact ⟨rfl, HF.out⟩
  have HVV := Lib.hid (show (ver : Int) = vv by simpa using hbb)
  clear hbb
  have k0 := HO1.out.1 0 _ rfl
  have k1 := HO1.out.1 1 _ rfl
  have k2 := HO1.out.1 2 _ rfl
  have k3 := HO1.out.1 3 _ rfl
  have k4 := HO1.out.1 4 _ rfl
  have k5 := HO1.out.1 5 _ rfl
  have k6 := HO1.out.1 6 _ rfl
  have k7 := HO1.out.1 7 _ rfl
  have k8 := HO1.out.1 8 _ rfl
  have k9 := HO1.out.1 9 _ rfl
  have k10 := HO1.out.1 10 _ rfl
  have k11 := HO1.out.1 11 _ rfl
  have k12 := HO1.out.1 12 _ rfl
  go_wp2_with (fail)
  refine (FL.out _).mono ?_
  rintro e w20 ⟨rfl, hb⟩
  have hs := hb.size
  have HR := Lib.hid (HR.out.below hb)
  have HB := Lib.hid (HB.out.trans (Bx.of_below (hb.mono (by omega))))
  have HO0 := Lib.hid (HO0.out.below hb (by omega))
  have HO1 := Lib.hid (HO1.out.below hb (by omega))
  have hlt1 : w.heap.size + 1 < w20.heap.size := by omega
  clear hb hs hlt
  have hlt := hlt1
  clear hlt1
  clear k0 k1 k2 k3 k4 k5 k6 k7 k8 k9 k10 k11 k12
  go_wp2_with (fail)
  refine (check_bool _ _ _).mono ?_
  rintro e w' (⟨hbb, rfl, rfl⟩ | ⟨hbb, rfl, rfl⟩)
  rotate_left
  · have HF := Lib.hid (show RPQ rb l w (.panicked (fault 32)) w20 from .inr ⟨fun a => by have h := a.fl; rw [E6.out, GL.out, NM.out, FE.out] at h; rw [h] at hbb; simp at hbb, 32, _, by decide, rfl, HR.out, HB.out⟩)
    clear hbb
    go_wp2_with (fail)
    exact ⟨rfl, HF.out⟩
  have HFL := Lib.hid (show (fl : Int) = f by simpa using hbb)
  clear hbb
  cases gw
  · have k11 := HO1.out.1 11 _ rfl
    go_wp2_with (fail)
    refine (check_bool _ _ _).mono ?_
    rintro e w' (⟨hbb, rfl, rfl⟩ | ⟨hbb, rfl, rfl⟩)
    rotate_left
    · have HF := Lib.hid (show RPQ rb l w (.panicked (fault 36)) w20 from .inr ⟨fun a => by have h := a.ex; rw [E28.out, GW.out] at h; rw [h] at hbb; simp at hbb, 36, _, by decide, rfl, HR.out, HB.out⟩)
      clear hbb
      go_wp2_with (fail)
      exact ⟨rfl, HF.out⟩
    have hex : (ex : Int) = 0 := by simpa using hbb
    have HEX := Lib.hid (show ex = 0 by omega)
    clear hbb k11 hex
    have PS : Hid (pkL l = (p4 : Nat) ∧ szL l = (s4 : Nat)) := Lib.hid (by unfold pkL szL; rw [GW.out, E18.out, E22.out]; exact ⟨rfl, rfl⟩)
    obtain ⟨pk, hpk⟩ : ∃ z : Int, z = (p4 : Nat) := ⟨_, rfl⟩
    obtain ⟨sz, hsz⟩ : ∃ z : Int, z = (s4 : Nat) := ⟨_, rfl⟩
    rw [← hpk, ← hsz] at PS
    rw [← hpk, ← hsz] at HO1
    clear hpk hsz
    cases gl
    · have k0 := HO1.out.1 0 _ rfl
      have k1 := HO1.out.1 1 _ rfl
      have k2 := HO1.out.1 2 _ rfl
      have k3 := HO1.out.1 3 _ rfl
      have k4 := HO1.out.1 4 _ rfl
      have k5 := HO1.out.1 5 _ rfl
      have k6 := HO1.out.1 6 _ rfl
      have k7 := HO1.out.1 7 _ rfl
      have k8 := HO1.out.1 8 _ rfl
      have k9 := HO1.out.1 9 _ rfl
      have k10 := HO1.out.1 10 _ rfl
      have k11 := HO1.out.1 11 _ rfl
      have k12 := HO1.out.1 12 _ rfl
      have HCK := Lib.hid (fun W hA => lcheck_any nm t1 t2 t3 t4 t5 t6 (me : Nat) (cr : Nat) pk sz false false W hA)
      rw [RT.out] at HCK
      have CE : Hid (ACC l → lcode (chk nm) true (me : Nat) pk sz = 0) := Lib.hid (fun a => by have := a.ck; rw [NM.out, E8.out, PS.out.1, PS.out.2] at this; exact this)
      generalize hcc : lcode (chk nm) true (me : Nat) pk sz = cc at HCK CE
      have HCC := Lib.hid hcc
      clear hcc
      go_wp2_with (fail)
      refine (HCK.out _ (HA.out.bx HB.out h3)).mono ?_
      rintro e w21 ⟨rfl, hb⟩
      have hs := hb.size
      have HR := Lib.hid (HR.out.below hb)
      have HB := Lib.hid (HB.out.trans (Bx.of_below (hb.mono (by omega))))
      have HO0 := Lib.hid (HO0.out.below hb (by omega))
      have HO1 := Lib.hid (HO1.out.below hb (by omega))
      have hlt1 : w.heap.size + 1 < w21.heap.size := by omega
      clear hb hs hlt
      have hlt := hlt1
      clear hlt1
      clear k0 k1 k2 k3 k4 k5 k6 k7 k8 k9 k10 k11 k12
      go_wp2_with (fail)
      refine (check_bool _ _ _).mono ?_
      rintro e w' (⟨hbb, rfl, rfl⟩ | ⟨hbb, rfl, rfl⟩)
      rotate_left
      · have HF := Lib.hid (show RPQ rb l w (.panicked (fault cc)) w21 from .inr ⟨fun a => by have h := CE.out a; rw [h] at hbb; simp at hbb, cc, _, (by simpa using hbb), rfl, HR.out, HB.out⟩)
        clear hbb
        go_wp2_with (fail)
        exact ⟨rfl, HF.out⟩
      have HC0 := Lib.hid (show cc = 0 by simpa using hbb)
      clear hbb
      have k0 := HO1.out.1 0 _ rfl
      have k1 := HO1.out.1 1 _ rfl
      have k2 := HO1.out.1 2 _ rfl
      have k3 := HO1.out.1 3 _ rfl
      have k4 := HO1.out.1 4 _ rfl
      have k5 := HO1.out.1 5 _ rfl
      have k6 := HO1.out.1 6 _ rfl
      have k7 := HO1.out.1 7 _ rfl
      have k8 := HO1.out.1 8 _ rfl
      have k9 := HO1.out.1 9 _ rfl
      have k10 := HO1.out.1 10 _ rfl
      have k11 := HO1.out.1 11 _ rfl
      have k12 := HO1.out.1 12 _ rfl
      have HACC : Hid (ACC l) := Lib.hid ⟨by rw [E26.out]; exact NN.out, M0.out, by rw [E10.out, E12.out]; exact HT.out, by rw [GW.out, E4.out, HVV.out]; exact VE.out, by rw [E6.out, GL.out, NM.out, HFL.out]; exact FE.out.symm, by rw [E28.out, GW.out, HEX.out]; rfl, (fun h => by rw [GW.out] at h; cases h), (fun h => by rw [GL.out] at h; cases h), by rw [NM.out, E8.out, PS.out.1, PS.out.2, HCC.out]; exact HC0.out⟩
      have HEQ : Hid (.agg #[.string nm, .int .i64 t1, .int .i64 t2, .int .i64 t3, .int .i64 t4, .int .i64 t5, .int .i64 t6, .int .i64 (me : Nat), .int .u32 (cr : Nat), .int .i64 pk, .int .i64 sz, .bool false, .bool false] = hdrOf l) := Lib.hid (by unfold hdrOf hdrV; rw [NM.out, E10.out, E12.out, E8.out, E14.out, PS.out.1, PS.out.2, GW.out, GL.out, ET.out.1, ET.out.2.1, ET.out.2.2.1, ET.out.2.2.2.1, ET.out.2.2.2.2.1, ET.out.2.2.2.2.2])
      have HEND : Hid (30 + n = endOf l) := Lib.hid (by unfold endOf; rw [GW.out, E26.out]; rfl)
      go_wp2_with (with_reducible refine stop_store ?_)
      refine store_own [.string nm, .int .i64 t1, .int .i64 t2, .int .i64 t3, .int .i64 t4, .int .i64 t5, .int .i64 t6, .int .i64 (me : Nat), .int .u32 (cr : Nat), .int .i64 pk, .int .i64 sz, .bool false, .bool false] HO0.out rfl rfl rfl (by kernel_rfl) (by kernel_rfl) ?_
      intro wz hOz hgz hzz
      have HR := Lib.hid (HR.out.kept hgz (fun i h => by injection h with h; omega))
      have HB := Lib.hid (HB.out.trans (Bx.of_below (gr_below hgz w.heap.size (by omega) (fun i h => by injection h with h; omega))))
      clear k0 k1 k2 k3 k4 k5 k6 k7 k8 k9 k10 k11 k12
      have z0 := hOz.1 0 _ rfl
      have z1 := hOz.1 1 _ rfl
      have z2 := hOz.1 2 _ rfl
      have z3 := hOz.1 3 _ rfl
      have z4 := hOz.1 4 _ rfl
      have z5 := hOz.1 5 _ rfl
      have z6 := hOz.1 6 _ rfl
      have z7 := hOz.1 7 _ rfl
      have z8 := hOz.1 8 _ rfl
      have z9 := hOz.1 9 _ rfl
      have z10 := hOz.1 10 _ rfl
      have z11 := hOz.1 11 _ rfl
      have z12 := hOz.1 12 _ rfl
      clear hOz hgz hzz
      go_wp2_with (fail)
      refine bodyPost_ret (v := .agg #[.string nm, .int .i64 t1, .int .i64 t2, .int .i64 t3, .int .i64 t4, .int .i64 t5, .int .i64 t6, .int .i64 (me : Nat), .int .u32 (cr : Nat), .int .i64 pk, .int .i64 sz, .bool false, .bool false]) (by simp [results, Tryd.results21, go_sem, z0, z1, z2, z3, z4, z5, z6, z7, z8, z9, z10, z11, z12] <;> rfl) rfl (.inl ⟨HACC.out, congrArg Ending.returned HEQ.out, ?_, HB.out⟩)
      rw [← HEND.out]
      exact HR.out
    · have k12 := HO1.out.1 12 _ rfl
      have k8 := HO1.out.1 8 _ rfl
      go_wp2_with (fail)
      refine (check_bool _ _ _).mono ?_
      rintro e w' (⟨hbb, rfl, rfl⟩ | ⟨hbb, rfl, rfl⟩)
      rotate_left
      · have HF := Lib.hid (show RPQ rb l w (.panicked (fault 35)) w20 from .inr ⟨fun a => by have h := (a.lt GL.out).1; rw [E14.out] at h; rw [h] at hbb; simp at hbb, 35, _, by decide, rfl, HR.out, HB.out⟩)
        clear hbb
        go_wp2_with (fail)
        exact ⟨rfl, HF.out⟩
      have hcr0 : (cr : Int) = 0 := by simpa using hbb
      have HCR := Lib.hid (show cr = 0 by omega)
      clear hbb k8 k12 hcr0
      have k9 := HO1.out.1 9 _ rfl
      have k10 := HO1.out.1 10 _ rfl
      by_cases hp0 : (pk == 0) = true
      rotate_left
      · have hpb : (pk == 0) = false := by simpa using hp0
        go_wp2_with (fail)
        refine (check_no _ _).mono ?_
        rintro e w' ⟨rfl, rfl⟩
        have HF := Lib.hid (show RPQ rb l w (.panicked (fault 13)) w20 from .inr ⟨(fun a => by have h := (a.lt GL.out).2.1; rw [PS.out.1] at h; rw [h] at hpb; simp at hpb), 13, _, by decide, rfl, HR.out, HB.out⟩)
        clear hpb hp0
        go_wp2_with (fail)
        exact ⟨rfl, HF.out⟩
      go_wp2_with (fail)
      refine (check_bool _ _ _).mono ?_
      rintro e w' (⟨hbb, rfl, rfl⟩ | ⟨hbb, rfl, rfl⟩)
      rotate_left
      · have HF := Lib.hid (show RPQ rb l w (.panicked (fault 13)) w20 from .inr ⟨fun a => by have h := (a.lt GL.out).2.2; rw [PS.out.2] at h; rw [h] at hbb; simp at hbb, 13, _, by decide, rfl, HR.out, HB.out⟩)
        clear hbb
        go_wp2_with (fail)
        exact ⟨rfl, HF.out⟩
      have HP0 := Lib.hid (show pk = 0 by simpa using hp0)
      have HZ0 := Lib.hid (show sz = 0 by simpa using hbb)
      clear hbb hp0 k9 k10
      have k0 := HO1.out.1 0 _ rfl
      have k1 := HO1.out.1 1 _ rfl
      have k2 := HO1.out.1 2 _ rfl
      have k3 := HO1.out.1 3 _ rfl
      have k4 := HO1.out.1 4 _ rfl
      have k5 := HO1.out.1 5 _ rfl
      have k6 := HO1.out.1 6 _ rfl
      have k7 := HO1.out.1 7 _ rfl
      have k8 := HO1.out.1 8 _ rfl
      have k9 := HO1.out.1 9 _ rfl
      have k10 := HO1.out.1 10 _ rfl
      have k11 := HO1.out.1 11 _ rfl
      have k12 := HO1.out.1 12 _ rfl
      have HCK := Lib.hid (fun W hA => lcheck_any nm t1 t2 t3 t4 t5 t6 (me : Nat) (cr : Nat) pk sz false true W hA)
      rw [RT.out] at HCK
      have CE : Hid (ACC l → lcode (chk nm) true (me : Nat) pk sz = 0) := Lib.hid (fun a => by have := a.ck; rw [NM.out, E8.out, PS.out.1, PS.out.2] at this; exact this)
      generalize hcc : lcode (chk nm) true (me : Nat) pk sz = cc at HCK CE
      have HCC := Lib.hid hcc
      clear hcc
      go_wp2_with (fail)
      refine (HCK.out _ (HA.out.bx HB.out h3)).mono ?_
      rintro e w21 ⟨rfl, hb⟩
      have hs := hb.size
      have HR := Lib.hid (HR.out.below hb)
      have HB := Lib.hid (HB.out.trans (Bx.of_below (hb.mono (by omega))))
      have HO0 := Lib.hid (HO0.out.below hb (by omega))
      have HO1 := Lib.hid (HO1.out.below hb (by omega))
      have hlt1 : w.heap.size + 1 < w21.heap.size := by omega
      clear hb hs hlt
      have hlt := hlt1
      clear hlt1
      clear k0 k1 k2 k3 k4 k5 k6 k7 k8 k9 k10 k11 k12
      go_wp2_with (fail)
      refine (check_bool _ _ _).mono ?_
      rintro e w' (⟨hbb, rfl, rfl⟩ | ⟨hbb, rfl, rfl⟩)
      rotate_left
      · have HF := Lib.hid (show RPQ rb l w (.panicked (fault cc)) w21 from .inr ⟨fun a => by have h := CE.out a; rw [h] at hbb; simp at hbb, cc, _, (by simpa using hbb), rfl, HR.out, HB.out⟩)
        clear hbb
        go_wp2_with (fail)
        exact ⟨rfl, HF.out⟩
      have HC0 := Lib.hid (show cc = 0 by simpa using hbb)
      clear hbb
      have k0 := HO1.out.1 0 _ rfl
      have k1 := HO1.out.1 1 _ rfl
      have k2 := HO1.out.1 2 _ rfl
      have k3 := HO1.out.1 3 _ rfl
      have k4 := HO1.out.1 4 _ rfl
      have k5 := HO1.out.1 5 _ rfl
      have k6 := HO1.out.1 6 _ rfl
      have k7 := HO1.out.1 7 _ rfl
      have k8 := HO1.out.1 8 _ rfl
      have k9 := HO1.out.1 9 _ rfl
      have k10 := HO1.out.1 10 _ rfl
      have k11 := HO1.out.1 11 _ rfl
      have k12 := HO1.out.1 12 _ rfl
      have HACC : Hid (ACC l) := Lib.hid ⟨by rw [E26.out]; exact NN.out, M0.out, by rw [E10.out, E12.out]; exact HT.out, by rw [GW.out, E4.out, HVV.out]; exact VE.out, by rw [E6.out, GL.out, NM.out, HFL.out]; exact FE.out.symm, by rw [E28.out, GW.out, HEX.out]; rfl, (fun h => by rw [GW.out] at h; cases h), (fun _ => ⟨by rw [E14.out]; exact HCR.out, by rw [PS.out.1]; exact HP0.out, by rw [PS.out.2]; exact HZ0.out⟩), by rw [NM.out, E8.out, PS.out.1, PS.out.2, HCC.out]; exact HC0.out⟩
      have HEQ : Hid (.agg #[.string nm, .int .i64 t1, .int .i64 t2, .int .i64 t3, .int .i64 t4, .int .i64 t5, .int .i64 t6, .int .i64 (me : Nat), .int .u32 (cr : Nat), .int .i64 pk, .int .i64 sz, .bool false, .bool true] = hdrOf l) := Lib.hid (by unfold hdrOf hdrV; rw [NM.out, E10.out, E12.out, E8.out, E14.out, PS.out.1, PS.out.2, GW.out, GL.out, ET.out.1, ET.out.2.1, ET.out.2.2.1, ET.out.2.2.2.1, ET.out.2.2.2.2.1, ET.out.2.2.2.2.2])
      have HEND : Hid (30 + n = endOf l) := Lib.hid (by unfold endOf; rw [GW.out, E26.out]; rfl)
      go_wp2_with (with_reducible refine stop_store ?_)
      refine store_own [.string nm, .int .i64 t1, .int .i64 t2, .int .i64 t3, .int .i64 t4, .int .i64 t5, .int .i64 t6, .int .i64 (me : Nat), .int .u32 (cr : Nat), .int .i64 pk, .int .i64 sz, .bool false, .bool true] HO0.out rfl rfl rfl (by kernel_rfl) (by kernel_rfl) ?_
      intro wz hOz hgz hzz
      have HR := Lib.hid (HR.out.kept hgz (fun i h => by injection h with h; omega))
      have HB := Lib.hid (HB.out.trans (Bx.of_below (gr_below hgz w.heap.size (by omega) (fun i h => by injection h with h; omega))))
      clear k0 k1 k2 k3 k4 k5 k6 k7 k8 k9 k10 k11 k12
      have z0 := hOz.1 0 _ rfl
      have z1 := hOz.1 1 _ rfl
      have z2 := hOz.1 2 _ rfl
      have z3 := hOz.1 3 _ rfl
      have z4 := hOz.1 4 _ rfl
      have z5 := hOz.1 5 _ rfl
      have z6 := hOz.1 6 _ rfl
      have z7 := hOz.1 7 _ rfl
      have z8 := hOz.1 8 _ rfl
      have z9 := hOz.1 9 _ rfl
      have z10 := hOz.1 10 _ rfl
      have z11 := hOz.1 11 _ rfl
      have z12 := hOz.1 12 _ rfl
      clear hOz hgz hzz
      go_wp2_with (fail)
      refine bodyPost_ret (v := .agg #[.string nm, .int .i64 t1, .int .i64 t2, .int .i64 t3, .int .i64 t4, .int .i64 t5, .int .i64 t6, .int .i64 (me : Nat), .int .u32 (cr : Nat), .int .i64 pk, .int .i64 sz, .bool false, .bool true]) (by simp [results, Tryd.results21, go_sem, z0, z1, z2, z3, z4, z5, z6, z7, z8, z9, z10, z11, z12] <;> rfl) rfl (.inl ⟨HACC.out, congrArg Ending.returned HEQ.out, ?_, HB.out⟩)
      rw [← HEND.out]
      exact HR.out
  · have k11 := HO1.out.1 11 _ rfl
    go_wp2_with (fail)
    refine (check_bool _ _ _).mono ?_
    rintro e w' (⟨hbb, rfl, rfl⟩ | ⟨hbb, rfl, rfl⟩)
    rotate_left
    · have HF := Lib.hid (show RPQ rb l w (.panicked (fault 36)) w20 from .inr ⟨fun a => by have h := a.ex; rw [E28.out, GW.out] at h; rw [h] at hbb; simp at hbb, 36, _, by decide, rfl, HR.out, HB.out⟩)
      clear hbb
      go_wp2_with (fail)
      exact ⟨rfl, HF.out⟩
    have hex : (ex : Int) = 20 := by simpa using hbb
    have HEX := Lib.hid (show ex = 20 by omega)
    clear hbb k11 hex
    go_wp2_with (fail)
    refine (readWide_any rb (w.heap.size + 1) l (30 + n) nm t1 t2 t3 t4 t5 t6 (me : Nat) (cr : Nat) true gl p4 s4 _ HR.out HO1.out (by omega) (by omega) BD.out.2.2.2.2.1 BD.out.2.2.2.2.2.1).mono ?_
    rintro e w21 hq
    unfold RWQ at hq
    rcases hq with ⟨hwp, rfl, hd, ho, hb⟩ | ⟨hno, c, q, hc, rfl, hd, hb⟩
    rotate_left
    · have hb2 : Bx [rb] w.heap.size w20 w21 := (hb.mono (by omega)).weak (fun i hi hm => by simp at hm; simp; omega)
      have HF := Lib.hid (show RPQ rb l w (.panicked (fault c)) w21 from .inr ⟨(fun a => hno (by have := a.wd GW.out; rw [E26.out, E18.out, E22.out] at this; exact this)), c, q, hc, rfl, hd, HB.out.trans hb2⟩)
      clear hd hb hb2 hno
      go_wp2_with (fail)
      exact ⟨rfl, HF.out⟩
    have hb2 : Bx [rb] w.heap.size w20 w21 := (hb.mono (by omega)).weak (fun i hi hm => by simp at hm; simp; omega)
    have HWP := Lib.hid hwp
    have hs := hb.size
    have HR := Lib.hid hd
    have HB := Lib.hid (HB.out.trans hb2)
    have HO0 := Lib.hid (HO0.out.bx hb (by omega) (by simp; omega))
    have HO1 := Lib.hid ho
    have hlt1 : w.heap.size + 1 < w21.heap.size := by omega
    clear hd hb hb2 hs hlt hwp ho
    have hlt := hlt1
    clear hlt1
    have PS : Hid (pkL l = wd8 l (30 + n + 12) ∧ szL l = wd8 l (30 + n + 4)) := Lib.hid (by unfold pkL szL; rw [GW.out, E26.out]; exact ⟨by show wd8 l (42 + n) = _; rw [show 42 + n = 30 + n + 12 by omega], by show wd8 l (34 + n) = _; rw [show 34 + n = 30 + n + 4 by omega]⟩)
    generalize wd8 l (30 + n + 12) = pk at *
    generalize wd8 l (30 + n + 4) = sz at *
    cases gl
    · have k0 := HO1.out.1 0 _ rfl
      have k1 := HO1.out.1 1 _ rfl
      have k2 := HO1.out.1 2 _ rfl
      have k3 := HO1.out.1 3 _ rfl
      have k4 := HO1.out.1 4 _ rfl
      have k5 := HO1.out.1 5 _ rfl
      have k6 := HO1.out.1 6 _ rfl
      have k7 := HO1.out.1 7 _ rfl
      have k8 := HO1.out.1 8 _ rfl
      have k9 := HO1.out.1 9 _ rfl
      have k10 := HO1.out.1 10 _ rfl
      have k11 := HO1.out.1 11 _ rfl
      have k12 := HO1.out.1 12 _ rfl
      have HCK := Lib.hid (fun W hA => lcheck_any nm t1 t2 t3 t4 t5 t6 (me : Nat) (cr : Nat) pk sz true false W hA)
      rw [RT.out] at HCK
      have CE : Hid (ACC l → lcode (chk nm) true (me : Nat) pk sz = 0) := Lib.hid (fun a => by have := a.ck; rw [NM.out, E8.out, PS.out.1, PS.out.2] at this; exact this)
      generalize hcc : lcode (chk nm) true (me : Nat) pk sz = cc at HCK CE
      have HCC := Lib.hid hcc
      clear hcc
      go_wp2_with (fail)
      refine (HCK.out _ (HA.out.bx HB.out h3)).mono ?_
      rintro e w22 ⟨rfl, hb⟩
      have hs := hb.size
      have HR := Lib.hid (HR.out.below hb)
      have HB := Lib.hid (HB.out.trans (Bx.of_below (hb.mono (by omega))))
      have HO0 := Lib.hid (HO0.out.below hb (by omega))
      have HO1 := Lib.hid (HO1.out.below hb (by omega))
      have hlt1 : w.heap.size + 1 < w22.heap.size := by omega
      clear hb hs hlt
      have hlt := hlt1
      clear hlt1
      clear k0 k1 k2 k3 k4 k5 k6 k7 k8 k9 k10 k11 k12
      go_wp2_with (fail)
      refine (check_bool _ _ _).mono ?_
      rintro e w' (⟨hbb, rfl, rfl⟩ | ⟨hbb, rfl, rfl⟩)
      rotate_left
      · have HF := Lib.hid (show RPQ rb l w (.panicked (fault cc)) w22 from .inr ⟨fun a => by have h := CE.out a; rw [h] at hbb; simp at hbb, cc, _, (by simpa using hbb), rfl, HR.out, HB.out⟩)
        clear hbb
        go_wp2_with (fail)
        exact ⟨rfl, HF.out⟩
      have HC0 := Lib.hid (show cc = 0 by simpa using hbb)
      clear hbb
      have k0 := HO1.out.1 0 _ rfl
      have k1 := HO1.out.1 1 _ rfl
      have k2 := HO1.out.1 2 _ rfl
      have k3 := HO1.out.1 3 _ rfl
      have k4 := HO1.out.1 4 _ rfl
      have k5 := HO1.out.1 5 _ rfl
      have k6 := HO1.out.1 6 _ rfl
      have k7 := HO1.out.1 7 _ rfl
      have k8 := HO1.out.1 8 _ rfl
      have k9 := HO1.out.1 9 _ rfl
      have k10 := HO1.out.1 10 _ rfl
      have k11 := HO1.out.1 11 _ rfl
      have k12 := HO1.out.1 12 _ rfl
      have HACC : Hid (ACC l) := Lib.hid ⟨by rw [E26.out]; exact NN.out, M0.out, by rw [E10.out, E12.out]; exact HT.out, by rw [GW.out, E4.out, HVV.out]; exact VE.out, by rw [E6.out, GL.out, NM.out, HFL.out]; exact FE.out.symm, by rw [E28.out, GW.out, HEX.out]; rfl, (fun _ => by rw [E26.out, E18.out, E22.out]; exact HWP.out), (fun h => by rw [GL.out] at h; cases h), by rw [NM.out, E8.out, PS.out.1, PS.out.2, HCC.out]; exact HC0.out⟩
      have HEQ : Hid (.agg #[.string nm, .int .i64 t1, .int .i64 t2, .int .i64 t3, .int .i64 t4, .int .i64 t5, .int .i64 t6, .int .i64 (me : Nat), .int .u32 (cr : Nat), .int .i64 pk, .int .i64 sz, .bool true, .bool false] = hdrOf l) := Lib.hid (by unfold hdrOf hdrV; rw [NM.out, E10.out, E12.out, E8.out, E14.out, PS.out.1, PS.out.2, GW.out, GL.out, ET.out.1, ET.out.2.1, ET.out.2.2.1, ET.out.2.2.2.1, ET.out.2.2.2.2.1, ET.out.2.2.2.2.2])
      have HEND : Hid (30 + n + 20 = endOf l) := Lib.hid (by unfold endOf; rw [GW.out, E26.out]; rfl)
      go_wp2_with (with_reducible refine stop_store ?_)
      refine store_own [.string nm, .int .i64 t1, .int .i64 t2, .int .i64 t3, .int .i64 t4, .int .i64 t5, .int .i64 t6, .int .i64 (me : Nat), .int .u32 (cr : Nat), .int .i64 pk, .int .i64 sz, .bool true, .bool false] HO0.out rfl rfl rfl (by kernel_rfl) (by kernel_rfl) ?_
      intro wz hOz hgz hzz
      have HR := Lib.hid (HR.out.kept hgz (fun i h => by injection h with h; omega))
      have HB := Lib.hid (HB.out.trans (Bx.of_below (gr_below hgz w.heap.size (by omega) (fun i h => by injection h with h; omega))))
      clear k0 k1 k2 k3 k4 k5 k6 k7 k8 k9 k10 k11 k12
      have z0 := hOz.1 0 _ rfl
      have z1 := hOz.1 1 _ rfl
      have z2 := hOz.1 2 _ rfl
      have z3 := hOz.1 3 _ rfl
      have z4 := hOz.1 4 _ rfl
      have z5 := hOz.1 5 _ rfl
      have z6 := hOz.1 6 _ rfl
      have z7 := hOz.1 7 _ rfl
      have z8 := hOz.1 8 _ rfl
      have z9 := hOz.1 9 _ rfl
      have z10 := hOz.1 10 _ rfl
      have z11 := hOz.1 11 _ rfl
      have z12 := hOz.1 12 _ rfl
      clear hOz hgz hzz
      go_wp2_with (fail)
      refine bodyPost_ret (v := .agg #[.string nm, .int .i64 t1, .int .i64 t2, .int .i64 t3, .int .i64 t4, .int .i64 t5, .int .i64 t6, .int .i64 (me : Nat), .int .u32 (cr : Nat), .int .i64 pk, .int .i64 sz, .bool true, .bool false]) (by simp [results, Tryd.results21, go_sem, z0, z1, z2, z3, z4, z5, z6, z7, z8, z9, z10, z11, z12] <;> rfl) rfl (.inl ⟨HACC.out, congrArg Ending.returned HEQ.out, ?_, HB.out⟩)
      rw [← HEND.out]
      exact HR.out
    · have k12 := HO1.out.1 12 _ rfl
      have k8 := HO1.out.1 8 _ rfl
      go_wp2_with (fail)
      refine (check_bool _ _ _).mono ?_
      rintro e w' (⟨hbb, rfl, rfl⟩ | ⟨hbb, rfl, rfl⟩)
      rotate_left
      · have HF := Lib.hid (show RPQ rb l w (.panicked (fault 35)) w21 from .inr ⟨fun a => by have h := (a.lt GL.out).1; rw [E14.out] at h; rw [h] at hbb; simp at hbb, 35, _, by decide, rfl, HR.out, HB.out⟩)
        clear hbb
        go_wp2_with (fail)
        exact ⟨rfl, HF.out⟩
      have hcr0 : (cr : Int) = 0 := by simpa using hbb
      have HCR := Lib.hid (show cr = 0 by omega)
      clear hbb k8 k12 hcr0
      have k9 := HO1.out.1 9 _ rfl
      have k10 := HO1.out.1 10 _ rfl
      by_cases hp0 : (pk == 0) = true
      rotate_left
      · have hpb : (pk == 0) = false := by simpa using hp0
        go_wp2_with (fail)
        refine (check_no _ _).mono ?_
        rintro e w' ⟨rfl, rfl⟩
        have HF := Lib.hid (show RPQ rb l w (.panicked (fault 13)) w21 from .inr ⟨(fun a => by have h := (a.lt GL.out).2.1; rw [PS.out.1] at h; rw [h] at hpb; simp at hpb), 13, _, by decide, rfl, HR.out, HB.out⟩)
        clear hpb hp0
        go_wp2_with (fail)
        exact ⟨rfl, HF.out⟩
      go_wp2_with (fail)
      refine (check_bool _ _ _).mono ?_
      rintro e w' (⟨hbb, rfl, rfl⟩ | ⟨hbb, rfl, rfl⟩)
      rotate_left
      · have HF := Lib.hid (show RPQ rb l w (.panicked (fault 13)) w21 from .inr ⟨fun a => by have h := (a.lt GL.out).2.2; rw [PS.out.2] at h; rw [h] at hbb; simp at hbb, 13, _, by decide, rfl, HR.out, HB.out⟩)
        clear hbb
        go_wp2_with (fail)
        exact ⟨rfl, HF.out⟩
      have HP0 := Lib.hid (show pk = 0 by simpa using hp0)
      have HZ0 := Lib.hid (show sz = 0 by simpa using hbb)
      clear hbb hp0 k9 k10
      have k0 := HO1.out.1 0 _ rfl
      have k1 := HO1.out.1 1 _ rfl
      have k2 := HO1.out.1 2 _ rfl
      have k3 := HO1.out.1 3 _ rfl
      have k4 := HO1.out.1 4 _ rfl
      have k5 := HO1.out.1 5 _ rfl
      have k6 := HO1.out.1 6 _ rfl
      have k7 := HO1.out.1 7 _ rfl
      have k8 := HO1.out.1 8 _ rfl
      have k9 := HO1.out.1 9 _ rfl
      have k10 := HO1.out.1 10 _ rfl
      have k11 := HO1.out.1 11 _ rfl
      have k12 := HO1.out.1 12 _ rfl
      have HCK := Lib.hid (fun W hA => lcheck_any nm t1 t2 t3 t4 t5 t6 (me : Nat) (cr : Nat) pk sz true true W hA)
      rw [RT.out] at HCK
      have CE : Hid (ACC l → lcode (chk nm) true (me : Nat) pk sz = 0) := Lib.hid (fun a => by have := a.ck; rw [NM.out, E8.out, PS.out.1, PS.out.2] at this; exact this)
      generalize hcc : lcode (chk nm) true (me : Nat) pk sz = cc at HCK CE
      have HCC := Lib.hid hcc
      clear hcc
      go_wp2_with (fail)
      refine (HCK.out _ (HA.out.bx HB.out h3)).mono ?_
      rintro e w22 ⟨rfl, hb⟩
      have hs := hb.size
      have HR := Lib.hid (HR.out.below hb)
      have HB := Lib.hid (HB.out.trans (Bx.of_below (hb.mono (by omega))))
      have HO0 := Lib.hid (HO0.out.below hb (by omega))
      have HO1 := Lib.hid (HO1.out.below hb (by omega))
      have hlt1 : w.heap.size + 1 < w22.heap.size := by omega
      clear hb hs hlt
      have hlt := hlt1
      clear hlt1
      clear k0 k1 k2 k3 k4 k5 k6 k7 k8 k9 k10 k11 k12
      go_wp2_with (fail)
      refine (check_bool _ _ _).mono ?_
      rintro e w' (⟨hbb, rfl, rfl⟩ | ⟨hbb, rfl, rfl⟩)
      rotate_left
      · have HF := Lib.hid (show RPQ rb l w (.panicked (fault cc)) w22 from .inr ⟨fun a => by have h := CE.out a; rw [h] at hbb; simp at hbb, cc, _, (by simpa using hbb), rfl, HR.out, HB.out⟩)
        clear hbb
        go_wp2_with (fail)
        exact ⟨rfl, HF.out⟩
      have HC0 := Lib.hid (show cc = 0 by simpa using hbb)
      clear hbb
      have k0 := HO1.out.1 0 _ rfl
      have k1 := HO1.out.1 1 _ rfl
      have k2 := HO1.out.1 2 _ rfl
      have k3 := HO1.out.1 3 _ rfl
      have k4 := HO1.out.1 4 _ rfl
      have k5 := HO1.out.1 5 _ rfl
      have k6 := HO1.out.1 6 _ rfl
      have k7 := HO1.out.1 7 _ rfl
      have k8 := HO1.out.1 8 _ rfl
      have k9 := HO1.out.1 9 _ rfl
      have k10 := HO1.out.1 10 _ rfl
      have k11 := HO1.out.1 11 _ rfl
      have k12 := HO1.out.1 12 _ rfl
      have HACC : Hid (ACC l) := Lib.hid ⟨by rw [E26.out]; exact NN.out, M0.out, by rw [E10.out, E12.out]; exact HT.out, by rw [GW.out, E4.out, HVV.out]; exact VE.out, by rw [E6.out, GL.out, NM.out, HFL.out]; exact FE.out.symm, by rw [E28.out, GW.out, HEX.out]; rfl, (fun _ => by rw [E26.out, E18.out, E22.out]; exact HWP.out), (fun _ => ⟨by rw [E14.out]; exact HCR.out, by rw [PS.out.1]; exact HP0.out, by rw [PS.out.2]; exact HZ0.out⟩), by rw [NM.out, E8.out, PS.out.1, PS.out.2, HCC.out]; exact HC0.out⟩
      have HEQ : Hid (.agg #[.string nm, .int .i64 t1, .int .i64 t2, .int .i64 t3, .int .i64 t4, .int .i64 t5, .int .i64 t6, .int .i64 (me : Nat), .int .u32 (cr : Nat), .int .i64 pk, .int .i64 sz, .bool true, .bool true] = hdrOf l) := Lib.hid (by unfold hdrOf hdrV; rw [NM.out, E10.out, E12.out, E8.out, E14.out, PS.out.1, PS.out.2, GW.out, GL.out, ET.out.1, ET.out.2.1, ET.out.2.2.1, ET.out.2.2.2.1, ET.out.2.2.2.2.1, ET.out.2.2.2.2.2])
      have HEND : Hid (30 + n + 20 = endOf l) := Lib.hid (by unfold endOf; rw [GW.out, E26.out]; rfl)
      go_wp2_with (with_reducible refine stop_store ?_)
      refine store_own [.string nm, .int .i64 t1, .int .i64 t2, .int .i64 t3, .int .i64 t4, .int .i64 t5, .int .i64 t6, .int .i64 (me : Nat), .int .u32 (cr : Nat), .int .i64 pk, .int .i64 sz, .bool true, .bool true] HO0.out rfl rfl rfl (by kernel_rfl) (by kernel_rfl) ?_
      intro wz hOz hgz hzz
      have HR := Lib.hid (HR.out.kept hgz (fun i h => by injection h with h; omega))
      have HB := Lib.hid (HB.out.trans (Bx.of_below (gr_below hgz w.heap.size (by omega) (fun i h => by injection h with h; omega))))
      clear k0 k1 k2 k3 k4 k5 k6 k7 k8 k9 k10 k11 k12
      have z0 := hOz.1 0 _ rfl
      have z1 := hOz.1 1 _ rfl
      have z2 := hOz.1 2 _ rfl
      have z3 := hOz.1 3 _ rfl
      have z4 := hOz.1 4 _ rfl
      have z5 := hOz.1 5 _ rfl
      have z6 := hOz.1 6 _ rfl
      have z7 := hOz.1 7 _ rfl
      have z8 := hOz.1 8 _ rfl
      have z9 := hOz.1 9 _ rfl
      have z10 := hOz.1 10 _ rfl
      have z11 := hOz.1 11 _ rfl
      have z12 := hOz.1 12 _ rfl
      clear hOz hgz hzz
      go_wp2_with (fail)
      refine bodyPost_ret (v := .agg #[.string nm, .int .i64 t1, .int .i64 t2, .int .i64 t3, .int .i64 t4, .int .i64 t5, .int .i64 t6, .int .i64 (me : Nat), .int .u32 (cr : Nat), .int .i64 pk, .int .i64 sz, .bool true, .bool true]) (by simp [results, Tryd.results21, go_sem, z0, z1, z2, z3, z4, z5, z6, z7, z8, z9, z10, z11, z12] <;> rfl) rfl (.inl ⟨HACC.out, congrArg Ending.returned HEQ.out, ?_, HB.out⟩)
      rw [← HEND.out]
      exact HR.out
theorem read_any (rb : Nat) (l : List UInt8) (w : World) (h : RD w rb l 0) (hA : Amb w) (h3 : 3 ≤ rb) : Calls Tryd.prog 21 #[.pointer (some ⟨rb, 0, none⟩)] w (RPQ rb l w) := by
  have b1 : rd l 4 2 < 65536 := rd_lt l 4 2
  have b2 : rd l 6 2 < 65536 := rd_lt l 6 2
  have b3 : rd l 8 2 < 65536 := rd_lt l 8 2
  have b4 : rd l 14 4 < 4294967296 := rd_lt l 14 4
  have b5 : rd l 18 4 < 4294967296 := rd_lt l 18 4
  have b6 : rd l 22 4 < 4294967296 := rd_lt l 22 4
  have b7 : rd l 26 2 < 65536 := rd_lt l 26 2
  have b8 : rd l 28 2 < 65536 := rd_lt l 28 2
  refine read_core rb l w h hA h3 _ _ _ _ _ _ _ _ _ _ _ _ _ _ _ _ _ _ _ (Lib.hid rfl) (Lib.hid rfl) (Lib.hid rfl) (Lib.hid rfl) (Lib.hid rfl) (Lib.hid rfl) (Lib.hid rfl) (Lib.hid rfl) (Lib.hid rfl) (Lib.hid rfl) (Lib.hid rfl) (Lib.hid ⟨rfl, rfl, rfl, rfl, rfl, rfl⟩) (Lib.hid ⟨b1, b2, b3, b4, b5, b6, b7, b8⟩) (Lib.hid rfl) (Lib.hid rfl) (Lib.hid ?_) (Lib.hid ?_)
  · unfold gwOf
    rw [Bool.eq_iff_iff]
    simp
    omega
  · unfold glOf
    rw [and8 _ b2, Bool.eq_iff_iff]
    simp
    omega
end Go.Proofs.YtcpojpgdjjmfbaaDoor
