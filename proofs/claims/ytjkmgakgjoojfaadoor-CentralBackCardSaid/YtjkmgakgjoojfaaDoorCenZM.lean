/- The page's Parse and central.Read, each in two ways. -/
import Derived.Test.YtjkmgakgjoojfaaDoorCenKF
import Derived.Test.YtjkmgakgjoojfaaDoorCenKT
import Derived.Test.YtjkmgakgjoojfaaDoorCenG
namespace Go.Proofs.YtjkmgakgjoojfaaDoor
set_option maxRecDepth 100000
set_option linter.unusedVariables false
set_option linter.unusedSimpArgs false
open Go.RowKit
theorem rparseC_any (ad : Option Addr) (c : Nat) (l : List UInt8) (w : World) (h : Byt w w.heap.size (.slice ad l.length c) l) (hl : l.length ≤ 100000) (hc : l.length ≤ c) : Calls Tryd.prog 13 #[.slice ad l.length c] w (PPC l w) := by
  by_cases h46 : l.length < 46
  · exact rparseC_short ad c l w h46
  have NM0 : ∀ (p n : Nat), p + n ≤ l.length → n ≤ 4 → ∀ W : World, Below w.heap.size w W → Calls Tryd.prog 30 #[.slice ad l.length c, .int .i64 (p : Nat), .int .i64 (n : Nat)] W fun e w' => e = .returned (.int .i64 (rd l p n : Nat)) ∧ w' = W := by
    intro p n hp hn W hB
    exact numC_small ((h.below hB).mono hB.size) hl hc p n _ hp hn rfl
  by_cases hn : l.length < 46 + rd l 28 2
  · exact rparseC_long ad c l w (rd l 28 2) hl (by omega) hn (Lib.hid (fun p => by have := p.len; omega)) (Lib.hid (NM0 28 2 (by omega) (by decide)))
  have bD : rd l 14 2 < 65536 := rd_lt l 14 2
  have bC : rd l 12 2 < 65536 := rd_lt l 12 2
  have b8 : rd l 8 2 < 65536 := rd_lt l 8 2
  have b16 : rd l 16 4 < 4294967296 := rd_lt l 16 4
  obtain ⟨t1, t2, t3, t4, t5, t6, ok, hdec, hok, htt⟩ : ∃ (t1 t2 t3 t4 t5 t6 : Int) (ok : Bool), (∀ W : World, Calls Tryd.prog 31 #[.int .i64 (rd l 14 2 : Nat), .int .i64 (rd l 12 2 : Nat)] W fun e w' => e = .returned (.tuple #[.agg #[.int .i64 t1, .int .i64 t2, .int .i64 t3, .int .i64 t4, .int .i64 t5, .int .i64 t6], .bool ok]) ∧ Below W.heap.size W w') ∧ ok = tmB (rd l 14 2) (rd l 12 2) ∧ (ok = true → 1980 + ((rd l 14 2 : Nat) : Int) / 512 = t1 ∧ ((rd l 14 2 : Nat) : Int) / 32 % 16 = t2 ∧ ((rd l 14 2 : Nat) : Int) % 32 = t3 ∧ ((rd l 12 2 : Nat) : Int) / 2048 = t4 ∧ ((rd l 12 2 : Nat) : Int) / 32 % 64 = t5 ∧ ((rd l 12 2 : Nat) : Int) % 32 * 2 = t6) := by
    cases ht : tmB (rd l 14 2) (rd l 12 2) with
    | false => exact ⟨0, 0, 0, 0, 0, 0, false, fun W => Dos.refDecode_no _ _ W (by omega) (by omega) (by omega) (by omega) ht, rfl, fun h => by cases h⟩
    | true => exact ⟨_, _, _, _, _, _, true, fun W => Dos.refDecode_yes _ _ W (by omega) (by omega) (by omega) (by omega) ht, rfl, fun _ => ⟨rfl, rfl, rfl, rfl, rfl, rfl⟩⟩
  have B : ∀ k : Nat, 58 + rd l 28 2 + 8 * k ≤ l.length → ∀ W : World, Below w.heap.size w W → ∃ a' c', (∀ V : World, (Instr.slice 33 (.slice ad l.length c) (some (.int .i64 (50 + ((rd l 28 2 : Nat) : Int) + 8 * (k : Int)))) (some (.int .i64 (58 + ((rd l 28 2 : Nat) : Int) + 8 * (k : Int)))) none).run Tryd.prog V = .ok (.slice a' 8 c') V) ∧ Calls Tryd.prog 32 #[.slice a' 8 c'] W fun e w' => e = .returned (.int .u64 (rd l (50 + rd l 28 2 + 8 * k) 8 : Nat)) ∧ w' = W := by
    intro k hp W hB
    obtain ⟨a', c', h1, _, h3⟩ := cut_byt ((h.below hB).mono hB.size) hc (50 + rd l 28 2 + 8 * k) (58 + rd l 28 2 + 8 * k) (by omega) hp
    rw [show 58 + rd l 28 2 + 8 * k - (50 + rd l 28 2 + 8 * k) = 8 by omega] at h1 h3
    refine ⟨a', c', fun V => ?_, refNumber_B h3 (by rw [List.length_take]; omega)⟩
    have := h1 V
    rw [Int.natCast_add, Int.natCast_add, Int.natCast_add (58 + rd l 28 2), Int.natCast_add 58, Int.natCast_mul] at this
    exact this
  have NB : ∀ p : Nat, p + 8 + rd l 28 2 ≤ l.length → rd l (p + rd l 28 2) 8 ≤ 8589934592 → ∀ W : World, Below w.heap.size w W → Calls Tryd.prog 30 #[.slice ad l.length c, .int .i64 ((p : Int) + ((rd l 28 2 : Nat) : Int)), .int .i64 8] W fun e w' => e = .returned (.int .i64 (rd l (p + rd l 28 2) 8 : Nat)) ∧ w' = W := by
    intro p hp hx W hB
    have := numC_any ((h.below hB).mono hB.size) hl hc (p + rd l 28 2) 8 (by omega) (by decide)
    rw [IntWalk.i64_in _ (by omega), Int.natCast_add] at this
    exact this
  cases hg : gwC l
  · refine rparseC_core_f ad c l w h hl hc (nmC l) (rd l 28 2) (rd l 12 2) (rd l 14 2) (rd l 10 2) (rd l 16 4) (rd l 20 4) (rd l 24 4) (rd l 42 4) (rd l 6 2) (rd l 8 2) t1 t2 t3 t4 t5 t6 ok (glC l) (by omega) b8 b16
      (Lib.hid (NM0 28 2 (by omega) (by decide))) (Lib.hid (NM0 14 2 (by omega) (by decide))) (Lib.hid (NM0 12 2 (by omega) (by decide))) (Lib.hid (NM0 10 2 (by omega) (by decide))) (Lib.hid (NM0 16 4 (by omega) (by decide))) (Lib.hid (NM0 20 4 (by omega) (by decide))) (Lib.hid (NM0 24 4 (by omega) (by decide))) (Lib.hid (NM0 42 4 (by omega) (by decide))) (Lib.hid (NM0 6 2 (by omega) (by decide))) (Lib.hid (NM0 8 2 (by omega) (by decide)))
      (Lib.hid rfl) (Lib.hid ?_) (Lib.hid ?_) (Lib.hid hdec) (Lib.hid rfl) (Lib.hid rfl) (Lib.hid rfl) (Lib.hid rfl) (Lib.hid rfl) (Lib.hid rfl) (Lib.hid hg) (Lib.hid rfl) (Lib.hid hok) (Lib.hid htt)
      (rd l (58 + rd l 28 2) 8) (rd l (50 + rd l 28 2) 8) (rd l (66 + rd l 28 2) 8) (Lib.hid ⟨rfl, rfl, rfl⟩) (Lib.hid (by unfold pkNC szNC plNC; rw [hg]; exact ⟨rfl, rfl, rfl⟩))
      (Lib.hid fun h74 k hk => B k (by omega)) (Lib.hid fun h74 => NB 50 (by omega)) (Lib.hid fun h74 => NB 58 (by omega)) (Lib.hid fun h74 => NB 66 (by omega))
    · rw [← hg]
      unfold gwC
      rw [Bool.eq_iff_iff]
      simp
      omega
    · unfold glC
      rw [Bool.eq_iff_iff]
      simp
      omega
  · refine rparseC_core_t ad c l w h hl hc (nmC l) (rd l 28 2) (rd l 12 2) (rd l 14 2) (rd l 10 2) (rd l 16 4) (rd l 20 4) (rd l 24 4) (rd l 42 4) (rd l 6 2) (rd l 8 2) t1 t2 t3 t4 t5 t6 ok (glC l) (by omega) b8 b16
      (Lib.hid (NM0 28 2 (by omega) (by decide))) (Lib.hid (NM0 14 2 (by omega) (by decide))) (Lib.hid (NM0 12 2 (by omega) (by decide))) (Lib.hid (NM0 10 2 (by omega) (by decide))) (Lib.hid (NM0 16 4 (by omega) (by decide))) (Lib.hid (NM0 20 4 (by omega) (by decide))) (Lib.hid (NM0 24 4 (by omega) (by decide))) (Lib.hid (NM0 42 4 (by omega) (by decide))) (Lib.hid (NM0 6 2 (by omega) (by decide))) (Lib.hid (NM0 8 2 (by omega) (by decide)))
      (Lib.hid rfl) (Lib.hid ?_) (Lib.hid ?_) (Lib.hid hdec) (Lib.hid rfl) (Lib.hid rfl) (Lib.hid rfl) (Lib.hid rfl) (Lib.hid rfl) (Lib.hid rfl) (Lib.hid hg) (Lib.hid rfl) (Lib.hid hok) (Lib.hid htt)
      (rd l (58 + rd l 28 2) 8) (rd l (50 + rd l 28 2) 8) (rd l (66 + rd l 28 2) 8) (Lib.hid ⟨rfl, rfl, rfl⟩) (Lib.hid (by unfold pkNC szNC plNC; rw [hg]; exact ⟨rfl, rfl, rfl⟩))
      (Lib.hid fun h74 k hk => B k (by omega)) (Lib.hid fun h74 => NB 50 (by omega)) (Lib.hid fun h74 => NB 58 (by omega)) (Lib.hid fun h74 => NB 66 (by omega))
    · rw [← hg]
      unfold gwC
      rw [Bool.eq_iff_iff]
      simp
      omega
    · unfold glC
      rw [Bool.eq_iff_iff]
      simp
      omega
end Go.Proofs.YtjkmgakgjoojfaaDoor
namespace Go.Proofs.YtjkmgakgjoojfaaDoor
set_option maxRecDepth 100000
set_option linter.unusedVariables false
set_option linter.unusedSimpArgs false
open Go.RowKit
theorem readC_yes' (rb : Nat) (l : List UInt8) (w : World) (h : RD w rb l 0) (hA : Amb w) (h3 : 3 ≤ rb) (ha : ACD l) : Calls Tryd.prog 17 #[.pointer (some ⟨rb, 0, none⟩)] w fun e w' => e = .returned (hdrC l) ∧ RD w' rb l (endC l) ∧ Bx [rb] w.heap.size w w' := by
  refine (readC_any rb l w h hA h3).mono fun e w' hq => ?_
  rcases hq with ⟨_, h⟩ | ⟨h0, _⟩
  · exact h
  · exact absurd ha h0
theorem readC_no' (rb : Nat) (l : List UInt8) (w : World) (h : RD w rb l 0) (hA : Amb w) (h3 : 3 ≤ rb) (ha : ¬ ACD l) : Calls Tryd.prog 17 #[.pointer (some ⟨rb, 0, none⟩)] w fun e w' => ∃ c q, c ≠ 0 ∧ e = .panicked (fault c) ∧ RD w' rb l q ∧ Bx [rb] w.heap.size w w' := by
  refine (readC_any rb l w h hA h3).mono fun e w' hq => ?_
  rcases hq with ⟨h0, _⟩ | ⟨_, h⟩
  · exact absurd h0 ha
  · exact h
theorem rparseC_yes' (ad : Option Addr) (c : Nat) (l : List UInt8) (w : World) (h : Byt w w.heap.size (.slice ad l.length c) l) (hl : l.length ≤ 100000) (hc : l.length ≤ c) (ha : ACD l) : Calls Tryd.prog 13 #[.slice ad l.length c] w fun e w' => e = .returned (.tuple #[hdr29 l, .int .i64 (plC l), .int .i64 (endC l : Nat)]) ∧ Below w.heap.size w w' := by
  refine (rparseC_any ad c l w h hl hc).mono fun e w' hq => ?_
  rcases hq with ⟨_, h⟩ | ⟨h0, _⟩
  · exact h
  · exact absurd ha.pad h0
theorem rparseC_no' (ad : Option Addr) (c : Nat) (l : List UInt8) (w : World) (h : Byt w w.heap.size (.slice ad l.length c) l) (hl : l.length ≤ 100000) (hc : l.length ≤ c) (ha : ¬ ACD l) : Calls Tryd.prog 13 #[.slice ad l.length c] w fun e w' => e = .returned (.tuple #[.agg #[.string ByteArray.empty, .int .i64 0, .int .i64 0, .int .i64 0, .int .i64 0, .int .i64 0, .int .i64 0, .int .i64 0, .int .u32 0, .int .i64 0, .int .i64 0, .bool false, .bool false], .int .i64 0, .int .i64 0]) ∧ Below w.heap.size w w' := by
  refine (rparseC_any ad c l w h hl hc).mono fun e w' hq => ?_
  rcases hq with ⟨h0, _⟩ | ⟨_, h⟩
  · exact absurd h0.acd ha
  · exact h
end Go.Proofs.YtjkmgakgjoojfaaDoor
