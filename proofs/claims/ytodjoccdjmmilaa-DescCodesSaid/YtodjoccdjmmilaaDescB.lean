/- Contract of desc's Read. -/
import Derived.Test.YtodjoccdjmmilaaDescA
namespace Go.Proofs.Ytodjoccdjmmilaa
open Go.RowKit
set_option maxHeartbeats 2000000 in
theorem dread_yes (rb : Nat) (l : List UInt8) (g : Bool) (w : World) (h : RD w rb l 0) (hl : 8 + wd g + wd g ≤ l.length) (hm : rd l 0 4 = 134695760) (hk : descB (IntKind.i64.wrap (rd l 8 (wd g) : Nat)) (IntKind.i64.wrap (rd l (8 + wd g) (wd g) : Nat)) = true) : Calls Try.prog 15 #[.pointer (some ⟨rb, 0, none⟩), .bool g] w fun e w' => e = .returned (.agg #[.int .u32 (rd l 4 4 : Nat), .int .i64 (IntKind.i64.wrap (rd l 8 (wd g) : Nat)), .int .i64 (IntKind.i64.wrap (rd l (8 + wd g) (wd g) : Nat)), .bool g]) ∧ RD w' rb l (8 + wd g + wd g) ∧ Bx [rb] w.heap.size w w' := by
  have H1 : Hid (∀ W : World, RD W rb l (0) → Calls Try.prog 25 #[.pointer (some ⟨rb, 0, none⟩), .int .i64 4, .int .u64 134695760, .int .i64 30] W fun e w' => e = .returned (.tuple #[]) ∧ RD w' rb l (4) ∧ Bx [rb] W.heap.size W w') := Lib.hid (fun W hW => want_yes hW 4 134695760 30 (by decide) (by decide) (by omega) (by rw [hm]; rfl))
  have H2 : Hid (∀ W : World, RD W rb l (4) → Calls Try.prog 26 #[.pointer (some ⟨rb, 0, none⟩), .int .i64 4] W fun e w' => e = .returned (.int .u64 (rd l 4 4 : Nat)) ∧ RD w' rb l (8) ∧ Bx [rb] W.heap.size W w') := Lib.hid (fun W hW => int_yes hW 4 (by decide) (by decide) (by omega))
  have H3 : Hid (∀ W : World, RD W rb l (8) → Calls Try.prog 26 #[.pointer (some ⟨rb, 0, none⟩), .int .i64 (wd g : Nat)] W fun e w' => e = .returned (.int .u64 (rd l 8 (wd g) : Nat)) ∧ RD w' rb l (8 + wd g) ∧ Bx [rb] W.heap.size W w') := Lib.hid (fun W hW => int_yes hW (wd g) (by have := wd_bd g; omega) (wd_bd g).2 (by omega))
  have H4 : Hid (∀ W : World, RD W rb l (8 + wd g) → Calls Try.prog 26 #[.pointer (some ⟨rb, 0, none⟩), .int .i64 (wd g : Nat)] W fun e w' => e = .returned (.int .u64 (rd l (8 + wd g) (wd g) : Nat)) ∧ RD w' rb l (8 + wd g + wd g) ∧ Bx [rb] W.heap.size W w') := Lib.hid (fun W hW => int_yes hW (wd g) (by have := wd_bd g; omega) (wd_bd g).2 (by omega))
  have bx : rd l 4 4 < 4294967296 := rd_lt l 4 4
  have q_x : IntKind.u32.wrap ((rd l 4 4 : Nat) : Int) = (rd l 4 4 : Nat) := by rw [IntKind.wrap_u32]; omega
  clear bx
  generalize rd l 4 4 = x at *
  generalize rd l 8 (wd g) = p1 at *
  generalize rd l (8 + wd g) (wd g) = s1 at *
  generalize hp0 : IntKind.i64.wrap (p1 : Int) = p at *
  generalize hs0 : IntKind.i64.wrap (s1 : Int) = s at *
  have HCK := Lib.hid (fun W => dcheck_any (x : Nat) p s g W)
  rw [hk] at HCK
  clear hk
  have hrb : rb < w.heap.size := by obtain ⟨_, _, _, _, _, _, _, h6⟩ := h; exact h6
  have HW := Lib.hid (fun W => width_any g W)
  have hwd := wd_bd g
  have HB := Lib.hid (((Below.refl w.heap.size w).alloc (Nat.le_refl _) (.cells #[.int .u32 0, .int .i64 0, .int .i64 0, .bool false] 24)).alloc (by simp) (.cells #[.int .u32 0, .int .i64 0, .int .i64 0, .bool g] 24))
  have HD := Lib.hid (h.below HB.out)
  have HB : Hid (Bx [rb] w.heap.size w ((w.alloc (.cells #[.int .u32 0, .int .i64 0, .int .i64 0, .bool false] 24)).alloc (.cells #[.int .u32 0, .int .i64 0, .int .i64 0, .bool g] 24))) := Lib.hid (Bx.of_below HB.out)
  have HO0 := Lib.hid ((Own.new_at w [.int .u32 0, .int .i64 0, .int .i64 0, .bool false] 24 w.heap.size rfl).below ((Below.refl _ _).alloc (Nat.le_refl _) (.cells #[.int .u32 0, .int .i64 0, .int .i64 0, .bool g] 24)) (by simp))
  have HO1 := Lib.hid (Own.new_at (w.alloc (.cells #[.int .u32 0, .int .i64 0, .int .i64 0, .bool false] 24)) [.int .u32 0, .int .i64 0, .int .i64 0, .bool g] 24 (w.heap.size + 1) (by simp))
  clear h
  go_enter Try.func15, Try.ntmps15
  go_wp2_with fail
  refine (H1.out _ HD.out).mono ?_
  rintro e w1 ⟨rfl, hd, hb⟩
  have hs := hb.size
  simp only [World.size_alloc] at hs
  have HD := Lib.hid hd
  have HB := Lib.hid (HB.out.trans (hb.mono (by simp; omega)))
  have HO0 := Lib.hid (HO0.out.bx hb (by simp; omega) (by simp; omega))
  have HO1 := Lib.hid (HO1.out.bx hb (by simp) (by simp; omega))
  have hlt1 : w.heap.size + 1 < w1.heap.size := by omega
  clear hd hb hs 
  have hlt := hlt1
  clear hlt1
  go_wp2_with fail
  refine (H2.out _ HD.out).mono ?_
  rintro e w2 ⟨rfl, hd, hb⟩
  have hs := hb.size
  have HD := Lib.hid hd
  have HB := Lib.hid (HB.out.trans (hb.mono (by omega)))
  have HO0 := Lib.hid (HO0.out.bx hb (by omega) (by simp; omega))
  have HO1 := Lib.hid (HO1.out.bx hb (by omega) (by simp; omega))
  have hlt1 : w.heap.size + 1 < w2.heap.size := by omega
  clear hd hb hs hlt
  have hlt := hlt1
  clear hlt1
  have k0 := HO1.out.1 0 _ rfl
  have hf := HO1.out.2
  go_upto_region 4 with (fail)
  clear k0 hf
  have HO1 := Lib.hid (HO1.out.set 0 (.int .u32 (x : Nat)) (by simp))
  have HO0 := Lib.hid (HO0.out.other (c := w.heap.size + 1) (by omega) 0 (.int .u32 (x : Nat)))
  have HD := Lib.hid (HD.out.set_other (b := w.heap.size + 1) (by omega) 0 (.int .u32 (x : Nat)))
  have HB := Lib.hid (HB.out.setCell (p := ⟨w.heap.size + 1, 0, none⟩) (.inr (by simp)) (.int .u32 (x : Nat)))
  have hlt1 : w.heap.size + 1 < (w2.setCell ⟨w.heap.size + 1, 0, none⟩ (.int .u32 (x : Nat))).heap.size := by simpa using hlt
  clear hlt
  have hlt := hlt1
  clear hlt1
  generalize w2.setCell ⟨w.heap.size + 1, 0, none⟩ (.int .u32 (x : Nat)) = w3 at *
  go_wp2_with fail
  refine (HW.out _).mono ?_
  rintro e w' ⟨rfl, hw'⟩
  subst w'
  go_wp2_with fail
  refine (H3.out _ HD.out).mono ?_
  rintro e w4 ⟨rfl, hd, hb⟩
  have hs := hb.size
  have HD := Lib.hid hd
  have HB := Lib.hid (HB.out.trans (hb.mono (by omega)))
  have HO0 := Lib.hid (HO0.out.bx hb (by omega) (by simp; omega))
  have HO1 := Lib.hid (HO1.out.bx hb (by omega) (by simp; omega))
  have hlt1 : w.heap.size + 1 < w4.heap.size := by omega
  clear hd hb hs hlt
  have hlt := hlt1
  clear hlt1
  have k1 := HO1.out.1 1 _ rfl
  have hf := HO1.out.2
  go_upto_region 5 with (fail)
  clear k1 hf
  have HO1 := Lib.hid (HO1.out.set 1 (.int .i64 p) (by simp))
  have HO0 := Lib.hid (HO0.out.other (c := w.heap.size + 1) (by omega) 1 (.int .i64 p))
  have HD := Lib.hid (HD.out.set_other (b := w.heap.size + 1) (by omega) 1 (.int .i64 p))
  have HB := Lib.hid (HB.out.setCell (p := ⟨w.heap.size + 1, 1, none⟩) (.inr (by simp)) (.int .i64 p))
  have hlt1 : w.heap.size + 1 < (w4.setCell ⟨w.heap.size + 1, 1, none⟩ (.int .i64 p)).heap.size := by simpa using hlt
  clear hlt
  have hlt := hlt1
  clear hlt1
  generalize w4.setCell ⟨w.heap.size + 1, 1, none⟩ (.int .i64 p) = w5 at *
  go_wp2_with fail
  refine (HW.out _).mono ?_
  rintro e w' ⟨rfl, hw'⟩
  subst w'
  go_wp2_with fail
  refine (H4.out _ HD.out).mono ?_
  rintro e w6 ⟨rfl, hd, hb⟩
  have hs := hb.size
  have HD := Lib.hid hd
  have HB := Lib.hid (HB.out.trans (hb.mono (by omega)))
  have HO0 := Lib.hid (HO0.out.bx hb (by omega) (by simp; omega))
  have HO1 := Lib.hid (HO1.out.bx hb (by omega) (by simp; omega))
  have hlt1 : w.heap.size + 1 < w6.heap.size := by omega
  clear hd hb hs hlt
  have hlt := hlt1
  clear hlt1
  have k2 := HO1.out.1 2 _ rfl
  have hf := HO1.out.2
  go_upto_region 6 with (fail)
  clear k2 hf
  have HO1 := Lib.hid (HO1.out.set 2 (.int .i64 s) (by simp))
  have HO0 := Lib.hid (HO0.out.other (c := w.heap.size + 1) (by omega) 2 (.int .i64 s))
  have HD := Lib.hid (HD.out.set_other (b := w.heap.size + 1) (by omega) 2 (.int .i64 s))
  have HB := Lib.hid (HB.out.setCell (p := ⟨w.heap.size + 1, 2, none⟩) (.inr (by simp)) (.int .i64 s))
  have hlt1 : w.heap.size + 1 < (w6.setCell ⟨w.heap.size + 1, 2, none⟩ (.int .i64 s)).heap.size := by simpa using hlt
  clear hlt
  have hlt := hlt1
  clear hlt1
  generalize w6.setCell ⟨w.heap.size + 1, 2, none⟩ (.int .i64 s) = w7 at *
  have y0 := HO1.out.1 0 _ rfl
  have y1 := HO1.out.1 1 _ rfl
  have y2 := HO1.out.1 2 _ rfl
  have y3 := HO1.out.1 3 _ rfl
  go_wp2_with fail
  refine (HCK.out _).mono ?_
  rintro e w8 ⟨rfl, hb⟩
  have hs := hb.size
  have HD := Lib.hid (HD.out.below hb)
  have HB := Lib.hid (HB.out.trans (Bx.of_below (hb.mono (by omega))))
  have HO0 := Lib.hid (HO0.out.below hb (by omega))
  have HO1 := Lib.hid (HO1.out.below hb (by omega))
  have hlt1 : w.heap.size + 1 < w8.heap.size := by omega
  clear hb hs hlt y0 y1 y2 y3
  have hlt := hlt1
  clear hlt1
  go_wp2_with fail
  refine (check_yes _ _).mono ?_
  rintro e w' ⟨rfl, rfl⟩
  have y0 := HO1.out.1 0 _ rfl
  have y1 := HO1.out.1 1 _ rfl
  have y2 := HO1.out.1 2 _ rfl
  have y3 := HO1.out.1 3 _ rfl
  have z0 := HO0.out.1 0 _ rfl
  have z1 := HO0.out.1 1 _ rfl
  have z2 := HO0.out.1 2 _ rfl
  have z3 := HO0.out.1 3 _ rfl
  have hg := HO0.out.2
  go_wp2
  refine bodyPost_ret (v := .agg #[.int .u32 (x : Nat), .int .i64 p, .int .i64 s, .bool g]) (by simp [results, Try.results15, go_sem, z0, z1, z2, z3]) rfl ⟨rfl, ?_, ?_⟩
  · exact ((((HD.out.set_other (b := w.heap.size) hrb 0 _).set_other (b := w.heap.size) hrb 1 _).set_other (b := w.heap.size) hrb 2 _).set_other (b := w.heap.size) hrb 3 _)
  · exact ((((HB.out.setCell (.inr (by simp)) _).setCell (.inr (by simp)) _).setCell (.inr (by simp)) _).setCell (.inr (by simp)) _)
set_option maxHeartbeats 2000000 in
theorem dread_check (rb : Nat) (l : List UInt8) (g : Bool) (w : World) (h : RD w rb l 0) (hl : 8 + wd g + wd g ≤ l.length) (hm : rd l 0 4 = 134695760) (hk : descB (IntKind.i64.wrap (rd l 8 (wd g) : Nat)) (IntKind.i64.wrap (rd l (8 + wd g) (wd g) : Nat)) = false) : Calls Try.prog 15 #[.pointer (some ⟨rb, 0, none⟩), .bool g] w fun e w' => e = .panicked (fault 13) ∧ RD w' rb l (8 + wd g + wd g) ∧ Bx [rb] w.heap.size w w' := by
  have H1 : Hid (∀ W : World, RD W rb l (0) → Calls Try.prog 25 #[.pointer (some ⟨rb, 0, none⟩), .int .i64 4, .int .u64 134695760, .int .i64 30] W fun e w' => e = .returned (.tuple #[]) ∧ RD w' rb l (4) ∧ Bx [rb] W.heap.size W w') := Lib.hid (fun W hW => want_yes hW 4 134695760 30 (by decide) (by decide) (by omega) (by rw [hm]; rfl))
  have H2 : Hid (∀ W : World, RD W rb l (4) → Calls Try.prog 26 #[.pointer (some ⟨rb, 0, none⟩), .int .i64 4] W fun e w' => e = .returned (.int .u64 (rd l 4 4 : Nat)) ∧ RD w' rb l (8) ∧ Bx [rb] W.heap.size W w') := Lib.hid (fun W hW => int_yes hW 4 (by decide) (by decide) (by omega))
  have H3 : Hid (∀ W : World, RD W rb l (8) → Calls Try.prog 26 #[.pointer (some ⟨rb, 0, none⟩), .int .i64 (wd g : Nat)] W fun e w' => e = .returned (.int .u64 (rd l 8 (wd g) : Nat)) ∧ RD w' rb l (8 + wd g) ∧ Bx [rb] W.heap.size W w') := Lib.hid (fun W hW => int_yes hW (wd g) (by have := wd_bd g; omega) (wd_bd g).2 (by omega))
  have H4 : Hid (∀ W : World, RD W rb l (8 + wd g) → Calls Try.prog 26 #[.pointer (some ⟨rb, 0, none⟩), .int .i64 (wd g : Nat)] W fun e w' => e = .returned (.int .u64 (rd l (8 + wd g) (wd g) : Nat)) ∧ RD w' rb l (8 + wd g + wd g) ∧ Bx [rb] W.heap.size W w') := Lib.hid (fun W hW => int_yes hW (wd g) (by have := wd_bd g; omega) (wd_bd g).2 (by omega))
  have bx : rd l 4 4 < 4294967296 := rd_lt l 4 4
  have q_x : IntKind.u32.wrap ((rd l 4 4 : Nat) : Int) = (rd l 4 4 : Nat) := by rw [IntKind.wrap_u32]; omega
  clear bx
  generalize rd l 4 4 = x at *
  generalize rd l 8 (wd g) = p1 at *
  generalize rd l (8 + wd g) (wd g) = s1 at *
  generalize hp0 : IntKind.i64.wrap (p1 : Int) = p at *
  generalize hs0 : IntKind.i64.wrap (s1 : Int) = s at *
  have HCK := Lib.hid (fun W => dcheck_any (x : Nat) p s g W)
  rw [hk] at HCK
  clear hk
  have hrb : rb < w.heap.size := by obtain ⟨_, _, _, _, _, _, _, h6⟩ := h; exact h6
  have HW := Lib.hid (fun W => width_any g W)
  have hwd := wd_bd g
  have HB := Lib.hid (((Below.refl w.heap.size w).alloc (Nat.le_refl _) (.cells #[.int .u32 0, .int .i64 0, .int .i64 0, .bool false] 24)).alloc (by simp) (.cells #[.int .u32 0, .int .i64 0, .int .i64 0, .bool g] 24))
  have HD := Lib.hid (h.below HB.out)
  have HB : Hid (Bx [rb] w.heap.size w ((w.alloc (.cells #[.int .u32 0, .int .i64 0, .int .i64 0, .bool false] 24)).alloc (.cells #[.int .u32 0, .int .i64 0, .int .i64 0, .bool g] 24))) := Lib.hid (Bx.of_below HB.out)
  have HO0 := Lib.hid ((Own.new_at w [.int .u32 0, .int .i64 0, .int .i64 0, .bool false] 24 w.heap.size rfl).below ((Below.refl _ _).alloc (Nat.le_refl _) (.cells #[.int .u32 0, .int .i64 0, .int .i64 0, .bool g] 24)) (by simp))
  have HO1 := Lib.hid (Own.new_at (w.alloc (.cells #[.int .u32 0, .int .i64 0, .int .i64 0, .bool false] 24)) [.int .u32 0, .int .i64 0, .int .i64 0, .bool g] 24 (w.heap.size + 1) (by simp))
  clear h
  go_enter Try.func15, Try.ntmps15
  go_wp2_with fail
  refine (H1.out _ HD.out).mono ?_
  rintro e w1 ⟨rfl, hd, hb⟩
  have hs := hb.size
  simp only [World.size_alloc] at hs
  have HD := Lib.hid hd
  have HB := Lib.hid (HB.out.trans (hb.mono (by simp; omega)))
  have HO0 := Lib.hid (HO0.out.bx hb (by simp; omega) (by simp; omega))
  have HO1 := Lib.hid (HO1.out.bx hb (by simp) (by simp; omega))
  have hlt1 : w.heap.size + 1 < w1.heap.size := by omega
  clear hd hb hs 
  have hlt := hlt1
  clear hlt1
  go_wp2_with fail
  refine (H2.out _ HD.out).mono ?_
  rintro e w2 ⟨rfl, hd, hb⟩
  have hs := hb.size
  have HD := Lib.hid hd
  have HB := Lib.hid (HB.out.trans (hb.mono (by omega)))
  have HO0 := Lib.hid (HO0.out.bx hb (by omega) (by simp; omega))
  have HO1 := Lib.hid (HO1.out.bx hb (by omega) (by simp; omega))
  have hlt1 : w.heap.size + 1 < w2.heap.size := by omega
  clear hd hb hs hlt
  have hlt := hlt1
  clear hlt1
  have k0 := HO1.out.1 0 _ rfl
  have hf := HO1.out.2
  go_upto_region 4 with (fail)
  clear k0 hf
  have HO1 := Lib.hid (HO1.out.set 0 (.int .u32 (x : Nat)) (by simp))
  have HO0 := Lib.hid (HO0.out.other (c := w.heap.size + 1) (by omega) 0 (.int .u32 (x : Nat)))
  have HD := Lib.hid (HD.out.set_other (b := w.heap.size + 1) (by omega) 0 (.int .u32 (x : Nat)))
  have HB := Lib.hid (HB.out.setCell (p := ⟨w.heap.size + 1, 0, none⟩) (.inr (by simp)) (.int .u32 (x : Nat)))
  have hlt1 : w.heap.size + 1 < (w2.setCell ⟨w.heap.size + 1, 0, none⟩ (.int .u32 (x : Nat))).heap.size := by simpa using hlt
  clear hlt
  have hlt := hlt1
  clear hlt1
  generalize w2.setCell ⟨w.heap.size + 1, 0, none⟩ (.int .u32 (x : Nat)) = w3 at *
  go_wp2_with fail
  refine (HW.out _).mono ?_
  rintro e w' ⟨rfl, hw'⟩
  subst w'
  go_wp2_with fail
  refine (H3.out _ HD.out).mono ?_
  rintro e w4 ⟨rfl, hd, hb⟩
  have hs := hb.size
  have HD := Lib.hid hd
  have HB := Lib.hid (HB.out.trans (hb.mono (by omega)))
  have HO0 := Lib.hid (HO0.out.bx hb (by omega) (by simp; omega))
  have HO1 := Lib.hid (HO1.out.bx hb (by omega) (by simp; omega))
  have hlt1 : w.heap.size + 1 < w4.heap.size := by omega
  clear hd hb hs hlt
  have hlt := hlt1
  clear hlt1
  have k1 := HO1.out.1 1 _ rfl
  have hf := HO1.out.2
  go_upto_region 5 with (fail)
  clear k1 hf
  have HO1 := Lib.hid (HO1.out.set 1 (.int .i64 p) (by simp))
  have HO0 := Lib.hid (HO0.out.other (c := w.heap.size + 1) (by omega) 1 (.int .i64 p))
  have HD := Lib.hid (HD.out.set_other (b := w.heap.size + 1) (by omega) 1 (.int .i64 p))
  have HB := Lib.hid (HB.out.setCell (p := ⟨w.heap.size + 1, 1, none⟩) (.inr (by simp)) (.int .i64 p))
  have hlt1 : w.heap.size + 1 < (w4.setCell ⟨w.heap.size + 1, 1, none⟩ (.int .i64 p)).heap.size := by simpa using hlt
  clear hlt
  have hlt := hlt1
  clear hlt1
  generalize w4.setCell ⟨w.heap.size + 1, 1, none⟩ (.int .i64 p) = w5 at *
  go_wp2_with fail
  refine (HW.out _).mono ?_
  rintro e w' ⟨rfl, hw'⟩
  subst w'
  go_wp2_with fail
  refine (H4.out _ HD.out).mono ?_
  rintro e w6 ⟨rfl, hd, hb⟩
  have hs := hb.size
  have HD := Lib.hid hd
  have HB := Lib.hid (HB.out.trans (hb.mono (by omega)))
  have HO0 := Lib.hid (HO0.out.bx hb (by omega) (by simp; omega))
  have HO1 := Lib.hid (HO1.out.bx hb (by omega) (by simp; omega))
  have hlt1 : w.heap.size + 1 < w6.heap.size := by omega
  clear hd hb hs hlt
  have hlt := hlt1
  clear hlt1
  have k2 := HO1.out.1 2 _ rfl
  have hf := HO1.out.2
  go_upto_region 6 with (fail)
  clear k2 hf
  have HO1 := Lib.hid (HO1.out.set 2 (.int .i64 s) (by simp))
  have HO0 := Lib.hid (HO0.out.other (c := w.heap.size + 1) (by omega) 2 (.int .i64 s))
  have HD := Lib.hid (HD.out.set_other (b := w.heap.size + 1) (by omega) 2 (.int .i64 s))
  have HB := Lib.hid (HB.out.setCell (p := ⟨w.heap.size + 1, 2, none⟩) (.inr (by simp)) (.int .i64 s))
  have hlt1 : w.heap.size + 1 < (w6.setCell ⟨w.heap.size + 1, 2, none⟩ (.int .i64 s)).heap.size := by simpa using hlt
  clear hlt
  have hlt := hlt1
  clear hlt1
  generalize w6.setCell ⟨w.heap.size + 1, 2, none⟩ (.int .i64 s) = w7 at *
  have y0 := HO1.out.1 0 _ rfl
  have y1 := HO1.out.1 1 _ rfl
  have y2 := HO1.out.1 2 _ rfl
  have y3 := HO1.out.1 3 _ rfl
  go_wp2_with fail
  refine (HCK.out _).mono ?_
  rintro e w8 ⟨rfl, hb⟩
  have hs := hb.size
  have HD := Lib.hid (HD.out.below hb)
  have HB := Lib.hid (HB.out.trans (Bx.of_below (hb.mono (by omega))))
  have HO0 := Lib.hid (HO0.out.below hb (by omega))
  have HO1 := Lib.hid (HO1.out.below hb (by omega))
  have hlt1 : w.heap.size + 1 < w8.heap.size := by omega
  clear hb hs hlt y0 y1 y2 y3
  have hlt := hlt1
  clear hlt1
  go_wp2_with fail
  refine (check_no _ _).mono ?_
  rintro e w' ⟨rfl, rfl⟩
  go_wp2
  exact ⟨rfl, rfl, HD.out, HB.out⟩
set_option maxHeartbeats 2000000 in
theorem dread_short4 (rb : Nat) (l : List UInt8) (g : Bool) (w : World) (h : RD w rb l 0) (hl : 8 + wd g ≤ l.length) (hl2 : l.length < 8 + wd g + wd g) (hm : rd l 0 4 = 134695760) : Calls Try.prog 15 #[.pointer (some ⟨rb, 0, none⟩), .bool g] w fun e w' => e = .panicked (fault 4) ∧ RD w' rb l (8 + wd g) ∧ Bx [rb] w.heap.size w w' := by
  have H1 : Hid (∀ W : World, RD W rb l (0) → Calls Try.prog 25 #[.pointer (some ⟨rb, 0, none⟩), .int .i64 4, .int .u64 134695760, .int .i64 30] W fun e w' => e = .returned (.tuple #[]) ∧ RD w' rb l (4) ∧ Bx [rb] W.heap.size W w') := Lib.hid (fun W hW => want_yes hW 4 134695760 30 (by decide) (by decide) (by omega) (by rw [hm]; rfl))
  have H2 : Hid (∀ W : World, RD W rb l (4) → Calls Try.prog 26 #[.pointer (some ⟨rb, 0, none⟩), .int .i64 4] W fun e w' => e = .returned (.int .u64 (rd l 4 4 : Nat)) ∧ RD w' rb l (8) ∧ Bx [rb] W.heap.size W w') := Lib.hid (fun W hW => int_yes hW 4 (by decide) (by decide) (by omega))
  have H3 : Hid (∀ W : World, RD W rb l (8) → Calls Try.prog 26 #[.pointer (some ⟨rb, 0, none⟩), .int .i64 (wd g : Nat)] W fun e w' => e = .returned (.int .u64 (rd l 8 (wd g) : Nat)) ∧ RD w' rb l (8 + wd g) ∧ Bx [rb] W.heap.size W w') := Lib.hid (fun W hW => int_yes hW (wd g) (by have := wd_bd g; omega) (wd_bd g).2 (by omega))
  have HX : Hid (∀ W : World, RD W rb l (8 + wd g) → Calls Try.prog 26 #[.pointer (some ⟨rb, 0, none⟩), .int .i64 (wd g : Nat)] W fun e w' => e = .panicked (fault 4) ∧ RD w' rb l (8 + wd g) ∧ Bx [rb] W.heap.size W w') := Lib.hid (fun W hW => int_short hW (wd g) (by have := wd_bd g; omega) (by have := wd_bd g; omega) (by omega))
  have bx : rd l 4 4 < 4294967296 := rd_lt l 4 4
  have q_x : IntKind.u32.wrap ((rd l 4 4 : Nat) : Int) = (rd l 4 4 : Nat) := by rw [IntKind.wrap_u32]; omega
  clear bx
  generalize rd l 4 4 = x at *
  generalize rd l 8 (wd g) = p1 at *
  generalize hp0 : IntKind.i64.wrap (p1 : Int) = p at *
  have hrb : rb < w.heap.size := by obtain ⟨_, _, _, _, _, _, _, h6⟩ := h; exact h6
  have HW := Lib.hid (fun W => width_any g W)
  have hwd := wd_bd g
  have HB := Lib.hid (((Below.refl w.heap.size w).alloc (Nat.le_refl _) (.cells #[.int .u32 0, .int .i64 0, .int .i64 0, .bool false] 24)).alloc (by simp) (.cells #[.int .u32 0, .int .i64 0, .int .i64 0, .bool g] 24))
  have HD := Lib.hid (h.below HB.out)
  have HB : Hid (Bx [rb] w.heap.size w ((w.alloc (.cells #[.int .u32 0, .int .i64 0, .int .i64 0, .bool false] 24)).alloc (.cells #[.int .u32 0, .int .i64 0, .int .i64 0, .bool g] 24))) := Lib.hid (Bx.of_below HB.out)
  have HO0 := Lib.hid ((Own.new_at w [.int .u32 0, .int .i64 0, .int .i64 0, .bool false] 24 w.heap.size rfl).below ((Below.refl _ _).alloc (Nat.le_refl _) (.cells #[.int .u32 0, .int .i64 0, .int .i64 0, .bool g] 24)) (by simp))
  have HO1 := Lib.hid (Own.new_at (w.alloc (.cells #[.int .u32 0, .int .i64 0, .int .i64 0, .bool false] 24)) [.int .u32 0, .int .i64 0, .int .i64 0, .bool g] 24 (w.heap.size + 1) (by simp))
  clear h
  go_enter Try.func15, Try.ntmps15
  go_wp2_with fail
  refine (H1.out _ HD.out).mono ?_
  rintro e w1 ⟨rfl, hd, hb⟩
  have hs := hb.size
  simp only [World.size_alloc] at hs
  have HD := Lib.hid hd
  have HB := Lib.hid (HB.out.trans (hb.mono (by simp; omega)))
  have HO0 := Lib.hid (HO0.out.bx hb (by simp; omega) (by simp; omega))
  have HO1 := Lib.hid (HO1.out.bx hb (by simp) (by simp; omega))
  have hlt1 : w.heap.size + 1 < w1.heap.size := by omega
  clear hd hb hs 
  have hlt := hlt1
  clear hlt1
  go_wp2_with fail
  refine (H2.out _ HD.out).mono ?_
  rintro e w2 ⟨rfl, hd, hb⟩
  have hs := hb.size
  have HD := Lib.hid hd
  have HB := Lib.hid (HB.out.trans (hb.mono (by omega)))
  have HO0 := Lib.hid (HO0.out.bx hb (by omega) (by simp; omega))
  have HO1 := Lib.hid (HO1.out.bx hb (by omega) (by simp; omega))
  have hlt1 : w.heap.size + 1 < w2.heap.size := by omega
  clear hd hb hs hlt
  have hlt := hlt1
  clear hlt1
  have k0 := HO1.out.1 0 _ rfl
  have hf := HO1.out.2
  go_upto_region 4 with (fail)
  clear k0 hf
  have HO1 := Lib.hid (HO1.out.set 0 (.int .u32 (x : Nat)) (by simp))
  have HO0 := Lib.hid (HO0.out.other (c := w.heap.size + 1) (by omega) 0 (.int .u32 (x : Nat)))
  have HD := Lib.hid (HD.out.set_other (b := w.heap.size + 1) (by omega) 0 (.int .u32 (x : Nat)))
  have HB := Lib.hid (HB.out.setCell (p := ⟨w.heap.size + 1, 0, none⟩) (.inr (by simp)) (.int .u32 (x : Nat)))
  have hlt1 : w.heap.size + 1 < (w2.setCell ⟨w.heap.size + 1, 0, none⟩ (.int .u32 (x : Nat))).heap.size := by simpa using hlt
  clear hlt
  have hlt := hlt1
  clear hlt1
  generalize w2.setCell ⟨w.heap.size + 1, 0, none⟩ (.int .u32 (x : Nat)) = w3 at *
  go_wp2_with fail
  refine (HW.out _).mono ?_
  rintro e w' ⟨rfl, hw'⟩
  subst w'
  go_wp2_with fail
  refine (H3.out _ HD.out).mono ?_
  rintro e w4 ⟨rfl, hd, hb⟩
  have hs := hb.size
  have HD := Lib.hid hd
  have HB := Lib.hid (HB.out.trans (hb.mono (by omega)))
  have HO0 := Lib.hid (HO0.out.bx hb (by omega) (by simp; omega))
  have HO1 := Lib.hid (HO1.out.bx hb (by omega) (by simp; omega))
  have hlt1 : w.heap.size + 1 < w4.heap.size := by omega
  clear hd hb hs hlt
  have hlt := hlt1
  clear hlt1
  have k1 := HO1.out.1 1 _ rfl
  have hf := HO1.out.2
  go_upto_region 5 with (fail)
  clear k1 hf
  have HO1 := Lib.hid (HO1.out.set 1 (.int .i64 p) (by simp))
  have HO0 := Lib.hid (HO0.out.other (c := w.heap.size + 1) (by omega) 1 (.int .i64 p))
  have HD := Lib.hid (HD.out.set_other (b := w.heap.size + 1) (by omega) 1 (.int .i64 p))
  have HB := Lib.hid (HB.out.setCell (p := ⟨w.heap.size + 1, 1, none⟩) (.inr (by simp)) (.int .i64 p))
  have hlt1 : w.heap.size + 1 < (w4.setCell ⟨w.heap.size + 1, 1, none⟩ (.int .i64 p)).heap.size := by simpa using hlt
  clear hlt
  have hlt := hlt1
  clear hlt1
  generalize w4.setCell ⟨w.heap.size + 1, 1, none⟩ (.int .i64 p) = w5 at *
  go_wp2_with fail
  refine (HW.out _).mono ?_
  rintro e w' ⟨rfl, hw'⟩
  subst w'
  go_wp2_with fail
  refine (HX.out _ HD.out).mono ?_
  rintro e w6 ⟨rfl, hd, hb⟩
  have hs := hb.size
  have HD := Lib.hid hd
  have HB := Lib.hid (HB.out.trans (hb.mono (by omega)))
  clear hd hb
  go_wp2
  exact ⟨rfl, rfl, HD.out, HB.out⟩
set_option maxHeartbeats 2000000 in
theorem dread_short3 (rb : Nat) (l : List UInt8) (g : Bool) (w : World) (h : RD w rb l 0) (hl : 8 ≤ l.length) (hl2 : l.length < 8 + wd g) (hm : rd l 0 4 = 134695760) : Calls Try.prog 15 #[.pointer (some ⟨rb, 0, none⟩), .bool g] w fun e w' => e = .panicked (fault 4) ∧ RD w' rb l (8) ∧ Bx [rb] w.heap.size w w' := by
  have H1 : Hid (∀ W : World, RD W rb l (0) → Calls Try.prog 25 #[.pointer (some ⟨rb, 0, none⟩), .int .i64 4, .int .u64 134695760, .int .i64 30] W fun e w' => e = .returned (.tuple #[]) ∧ RD w' rb l (4) ∧ Bx [rb] W.heap.size W w') := Lib.hid (fun W hW => want_yes hW 4 134695760 30 (by decide) (by decide) (by omega) (by rw [hm]; rfl))
  have H2 : Hid (∀ W : World, RD W rb l (4) → Calls Try.prog 26 #[.pointer (some ⟨rb, 0, none⟩), .int .i64 4] W fun e w' => e = .returned (.int .u64 (rd l 4 4 : Nat)) ∧ RD w' rb l (8) ∧ Bx [rb] W.heap.size W w') := Lib.hid (fun W hW => int_yes hW 4 (by decide) (by decide) (by omega))
  have HX : Hid (∀ W : World, RD W rb l (8) → Calls Try.prog 26 #[.pointer (some ⟨rb, 0, none⟩), .int .i64 (wd g : Nat)] W fun e w' => e = .panicked (fault 4) ∧ RD w' rb l (8) ∧ Bx [rb] W.heap.size W w') := Lib.hid (fun W hW => int_short hW (wd g) (by have := wd_bd g; omega) (by have := wd_bd g; omega) (by omega))
  have bx : rd l 4 4 < 4294967296 := rd_lt l 4 4
  have q_x : IntKind.u32.wrap ((rd l 4 4 : Nat) : Int) = (rd l 4 4 : Nat) := by rw [IntKind.wrap_u32]; omega
  clear bx
  generalize rd l 4 4 = x at *
  have hrb : rb < w.heap.size := by obtain ⟨_, _, _, _, _, _, _, h6⟩ := h; exact h6
  have HW := Lib.hid (fun W => width_any g W)
  have hwd := wd_bd g
  have HB := Lib.hid (((Below.refl w.heap.size w).alloc (Nat.le_refl _) (.cells #[.int .u32 0, .int .i64 0, .int .i64 0, .bool false] 24)).alloc (by simp) (.cells #[.int .u32 0, .int .i64 0, .int .i64 0, .bool g] 24))
  have HD := Lib.hid (h.below HB.out)
  have HB : Hid (Bx [rb] w.heap.size w ((w.alloc (.cells #[.int .u32 0, .int .i64 0, .int .i64 0, .bool false] 24)).alloc (.cells #[.int .u32 0, .int .i64 0, .int .i64 0, .bool g] 24))) := Lib.hid (Bx.of_below HB.out)
  have HO0 := Lib.hid ((Own.new_at w [.int .u32 0, .int .i64 0, .int .i64 0, .bool false] 24 w.heap.size rfl).below ((Below.refl _ _).alloc (Nat.le_refl _) (.cells #[.int .u32 0, .int .i64 0, .int .i64 0, .bool g] 24)) (by simp))
  have HO1 := Lib.hid (Own.new_at (w.alloc (.cells #[.int .u32 0, .int .i64 0, .int .i64 0, .bool false] 24)) [.int .u32 0, .int .i64 0, .int .i64 0, .bool g] 24 (w.heap.size + 1) (by simp))
  clear h
  go_enter Try.func15, Try.ntmps15
  go_wp2_with fail
  refine (H1.out _ HD.out).mono ?_
  rintro e w1 ⟨rfl, hd, hb⟩
  have hs := hb.size
  simp only [World.size_alloc] at hs
  have HD := Lib.hid hd
  have HB := Lib.hid (HB.out.trans (hb.mono (by simp; omega)))
  have HO0 := Lib.hid (HO0.out.bx hb (by simp; omega) (by simp; omega))
  have HO1 := Lib.hid (HO1.out.bx hb (by simp) (by simp; omega))
  have hlt1 : w.heap.size + 1 < w1.heap.size := by omega
  clear hd hb hs 
  have hlt := hlt1
  clear hlt1
  go_wp2_with fail
  refine (H2.out _ HD.out).mono ?_
  rintro e w2 ⟨rfl, hd, hb⟩
  have hs := hb.size
  have HD := Lib.hid hd
  have HB := Lib.hid (HB.out.trans (hb.mono (by omega)))
  have HO0 := Lib.hid (HO0.out.bx hb (by omega) (by simp; omega))
  have HO1 := Lib.hid (HO1.out.bx hb (by omega) (by simp; omega))
  have hlt1 : w.heap.size + 1 < w2.heap.size := by omega
  clear hd hb hs hlt
  have hlt := hlt1
  clear hlt1
  have k0 := HO1.out.1 0 _ rfl
  have hf := HO1.out.2
  go_upto_region 4 with (fail)
  clear k0 hf
  have HO1 := Lib.hid (HO1.out.set 0 (.int .u32 (x : Nat)) (by simp))
  have HO0 := Lib.hid (HO0.out.other (c := w.heap.size + 1) (by omega) 0 (.int .u32 (x : Nat)))
  have HD := Lib.hid (HD.out.set_other (b := w.heap.size + 1) (by omega) 0 (.int .u32 (x : Nat)))
  have HB := Lib.hid (HB.out.setCell (p := ⟨w.heap.size + 1, 0, none⟩) (.inr (by simp)) (.int .u32 (x : Nat)))
  have hlt1 : w.heap.size + 1 < (w2.setCell ⟨w.heap.size + 1, 0, none⟩ (.int .u32 (x : Nat))).heap.size := by simpa using hlt
  clear hlt
  have hlt := hlt1
  clear hlt1
  generalize w2.setCell ⟨w.heap.size + 1, 0, none⟩ (.int .u32 (x : Nat)) = w3 at *
  go_wp2_with fail
  refine (HW.out _).mono ?_
  rintro e w' ⟨rfl, hw'⟩
  subst w'
  go_wp2_with fail
  refine (HX.out _ HD.out).mono ?_
  rintro e w4 ⟨rfl, hd, hb⟩
  have hs := hb.size
  have HD := Lib.hid hd
  have HB := Lib.hid (HB.out.trans (hb.mono (by omega)))
  clear hd hb
  go_wp2
  exact ⟨rfl, rfl, HD.out, HB.out⟩
set_option maxHeartbeats 2000000 in
theorem dread_short2 (rb : Nat) (l : List UInt8) (g : Bool) (w : World) (h : RD w rb l 0) (hl : 4 ≤ l.length) (hl2 : l.length < 8) (hm : rd l 0 4 = 134695760) : Calls Try.prog 15 #[.pointer (some ⟨rb, 0, none⟩), .bool g] w fun e w' => e = .panicked (fault 4) ∧ RD w' rb l (4) ∧ Bx [rb] w.heap.size w w' := by
  have H1 : Hid (∀ W : World, RD W rb l (0) → Calls Try.prog 25 #[.pointer (some ⟨rb, 0, none⟩), .int .i64 4, .int .u64 134695760, .int .i64 30] W fun e w' => e = .returned (.tuple #[]) ∧ RD w' rb l (4) ∧ Bx [rb] W.heap.size W w') := Lib.hid (fun W hW => want_yes hW 4 134695760 30 (by decide) (by decide) (by omega) (by rw [hm]; rfl))
  have HX : Hid (∀ W : World, RD W rb l (4) → Calls Try.prog 26 #[.pointer (some ⟨rb, 0, none⟩), .int .i64 4] W fun e w' => e = .panicked (fault 4) ∧ RD w' rb l (4) ∧ Bx [rb] W.heap.size W w') := Lib.hid (fun W hW => int_short hW 4 (by have := wd_bd g; omega) (by have := wd_bd g; omega) (by omega))
  have hrb : rb < w.heap.size := by obtain ⟨_, _, _, _, _, _, _, h6⟩ := h; exact h6
  have HW := Lib.hid (fun W => width_any g W)
  have hwd := wd_bd g
  have HB := Lib.hid (((Below.refl w.heap.size w).alloc (Nat.le_refl _) (.cells #[.int .u32 0, .int .i64 0, .int .i64 0, .bool false] 24)).alloc (by simp) (.cells #[.int .u32 0, .int .i64 0, .int .i64 0, .bool g] 24))
  have HD := Lib.hid (h.below HB.out)
  have HB : Hid (Bx [rb] w.heap.size w ((w.alloc (.cells #[.int .u32 0, .int .i64 0, .int .i64 0, .bool false] 24)).alloc (.cells #[.int .u32 0, .int .i64 0, .int .i64 0, .bool g] 24))) := Lib.hid (Bx.of_below HB.out)
  have HO0 := Lib.hid ((Own.new_at w [.int .u32 0, .int .i64 0, .int .i64 0, .bool false] 24 w.heap.size rfl).below ((Below.refl _ _).alloc (Nat.le_refl _) (.cells #[.int .u32 0, .int .i64 0, .int .i64 0, .bool g] 24)) (by simp))
  have HO1 := Lib.hid (Own.new_at (w.alloc (.cells #[.int .u32 0, .int .i64 0, .int .i64 0, .bool false] 24)) [.int .u32 0, .int .i64 0, .int .i64 0, .bool g] 24 (w.heap.size + 1) (by simp))
  clear h
  go_enter Try.func15, Try.ntmps15
  go_wp2_with fail
  refine (H1.out _ HD.out).mono ?_
  rintro e w1 ⟨rfl, hd, hb⟩
  have hs := hb.size
  simp only [World.size_alloc] at hs
  have HD := Lib.hid hd
  have HB := Lib.hid (HB.out.trans (hb.mono (by simp; omega)))
  have HO0 := Lib.hid (HO0.out.bx hb (by simp; omega) (by simp; omega))
  have HO1 := Lib.hid (HO1.out.bx hb (by simp) (by simp; omega))
  have hlt1 : w.heap.size + 1 < w1.heap.size := by omega
  clear hd hb hs 
  have hlt := hlt1
  clear hlt1
  go_wp2_with fail
  refine (HX.out _ HD.out).mono ?_
  rintro e w2 ⟨rfl, hd, hb⟩
  have hs := hb.size
  have HD := Lib.hid hd
  have HB := Lib.hid (HB.out.trans (hb.mono (by omega)))
  clear hd hb
  go_wp2
  exact ⟨rfl, rfl, HD.out, HB.out⟩
set_option maxHeartbeats 2000000 in
theorem dread_short1 (rb : Nat) (l : List UInt8) (g : Bool) (w : World) (h : RD w rb l 0) (hl2 : l.length < 4) : Calls Try.prog 15 #[.pointer (some ⟨rb, 0, none⟩), .bool g] w fun e w' => e = .panicked (fault 4) ∧ RD w' rb l (0) ∧ Bx [rb] w.heap.size w w' := by
  have HX : Hid (∀ W : World, RD W rb l (0) → Calls Try.prog 25 #[.pointer (some ⟨rb, 0, none⟩), .int .i64 4, .int .u64 134695760, .int .i64 30] W fun e w' => e = .panicked (fault 4) ∧ RD w' rb l (0) ∧ Bx [rb] W.heap.size W w') := Lib.hid (fun W hW => want_short hW 4 134695760 30 (by decide) (by decide) (by omega))
  have hrb : rb < w.heap.size := by obtain ⟨_, _, _, _, _, _, _, h6⟩ := h; exact h6
  have HW := Lib.hid (fun W => width_any g W)
  have hwd := wd_bd g
  have HB := Lib.hid (((Below.refl w.heap.size w).alloc (Nat.le_refl _) (.cells #[.int .u32 0, .int .i64 0, .int .i64 0, .bool false] 24)).alloc (by simp) (.cells #[.int .u32 0, .int .i64 0, .int .i64 0, .bool g] 24))
  have HD := Lib.hid (h.below HB.out)
  have HB : Hid (Bx [rb] w.heap.size w ((w.alloc (.cells #[.int .u32 0, .int .i64 0, .int .i64 0, .bool false] 24)).alloc (.cells #[.int .u32 0, .int .i64 0, .int .i64 0, .bool g] 24))) := Lib.hid (Bx.of_below HB.out)
  have HO0 := Lib.hid ((Own.new_at w [.int .u32 0, .int .i64 0, .int .i64 0, .bool false] 24 w.heap.size rfl).below ((Below.refl _ _).alloc (Nat.le_refl _) (.cells #[.int .u32 0, .int .i64 0, .int .i64 0, .bool g] 24)) (by simp))
  have HO1 := Lib.hid (Own.new_at (w.alloc (.cells #[.int .u32 0, .int .i64 0, .int .i64 0, .bool false] 24)) [.int .u32 0, .int .i64 0, .int .i64 0, .bool g] 24 (w.heap.size + 1) (by simp))
  clear h
  go_enter Try.func15, Try.ntmps15
  go_wp2_with fail
  refine (HX.out _ HD.out).mono ?_
  rintro e w1 ⟨rfl, hd, hb⟩
  have hs := hb.size
  simp only [World.size_alloc] at hs
  have HD := Lib.hid hd
  have HB := Lib.hid (HB.out.trans (hb.mono (by simp; omega)))
  clear hd hb
  go_wp2
  exact ⟨rfl, rfl, HD.out, HB.out⟩
set_option maxHeartbeats 2000000 in
theorem dread_magic (rb : Nat) (l : List UInt8) (g : Bool) (w : World) (h : RD w rb l 0) (hl : 4 ≤ l.length) (hm : rd l 0 4 ≠ 134695760) : Calls Try.prog 15 #[.pointer (some ⟨rb, 0, none⟩), .bool g] w fun e w' => e = .panicked (fault 30) ∧ RD w' rb l (4) ∧ Bx [rb] w.heap.size w w' := by
  have HX : Hid (∀ W : World, RD W rb l (0) → Calls Try.prog 25 #[.pointer (some ⟨rb, 0, none⟩), .int .i64 4, .int .u64 134695760, .int .i64 30] W fun e w' => e = .panicked (fault 30) ∧ RD w' rb l (4) ∧ Bx [rb] W.heap.size W w') := Lib.hid (fun W hW => want_no hW 4 134695760 30 (by decide) (by decide) (by omega) (by omega))
  have hrb : rb < w.heap.size := by obtain ⟨_, _, _, _, _, _, _, h6⟩ := h; exact h6
  have HW := Lib.hid (fun W => width_any g W)
  have hwd := wd_bd g
  have HB := Lib.hid (((Below.refl w.heap.size w).alloc (Nat.le_refl _) (.cells #[.int .u32 0, .int .i64 0, .int .i64 0, .bool false] 24)).alloc (by simp) (.cells #[.int .u32 0, .int .i64 0, .int .i64 0, .bool g] 24))
  have HD := Lib.hid (h.below HB.out)
  have HB : Hid (Bx [rb] w.heap.size w ((w.alloc (.cells #[.int .u32 0, .int .i64 0, .int .i64 0, .bool false] 24)).alloc (.cells #[.int .u32 0, .int .i64 0, .int .i64 0, .bool g] 24))) := Lib.hid (Bx.of_below HB.out)
  have HO0 := Lib.hid ((Own.new_at w [.int .u32 0, .int .i64 0, .int .i64 0, .bool false] 24 w.heap.size rfl).below ((Below.refl _ _).alloc (Nat.le_refl _) (.cells #[.int .u32 0, .int .i64 0, .int .i64 0, .bool g] 24)) (by simp))
  have HO1 := Lib.hid (Own.new_at (w.alloc (.cells #[.int .u32 0, .int .i64 0, .int .i64 0, .bool false] 24)) [.int .u32 0, .int .i64 0, .int .i64 0, .bool g] 24 (w.heap.size + 1) (by simp))
  clear h
  go_enter Try.func15, Try.ntmps15
  go_wp2_with fail
  refine (HX.out _ HD.out).mono ?_
  rintro e w1 ⟨rfl, hd, hb⟩
  have hs := hb.size
  simp only [World.size_alloc] at hs
  have HD := Lib.hid hd
  have HB := Lib.hid (HB.out.trans (hb.mono (by simp; omega)))
  clear hd hb
  go_wp2
  exact ⟨rfl, rfl, HD.out, HB.out⟩
/-- Do bytes begin with a record? -/
def okD (l : List UInt8) (g : Bool) : Prop := 8 + wd g + wd g ≤ l.length ∧ rd l 0 4 = 134695760 ∧ descB (IntKind.i64.wrap (rd l 8 (wd g) : Nat)) (IntKind.i64.wrap (rd l (8 + wd g) (wd g) : Nat)) = true
theorem dread_fail (l : List UInt8) (g : Bool) (h : ¬ okD l g) : ∃ (c : Int) (q : Nat), c ≠ 0 ∧ ∀ (rb : Nat) (w : World), RD w rb l 0 → Calls Try.prog 15 #[.pointer (some ⟨rb, 0, none⟩), .bool g] w fun e w' => e = .panicked (fault c) ∧ RD w' rb l q ∧ Bx [rb] w.heap.size w w' := by
  have hwd := wd_bd g
  by_cases h1 : l.length < 4
  · exact ⟨4, 0, by decide, fun rb w hw => dread_short1 rb l g w hw h1⟩
  by_cases hm : rd l 0 4 = 134695760
  · by_cases h2 : l.length < 8
    · exact ⟨4, 4, by decide, fun rb w hw => dread_short2 rb l g w hw (by omega) h2 hm⟩
    by_cases h3 : l.length < 8 + wd g
    · exact ⟨4, 8, by decide, fun rb w hw => dread_short3 rb l g w hw (by omega) h3 hm⟩
    by_cases h4 : l.length < 8 + wd g + wd g
    · exact ⟨4, 8 + wd g, by decide, fun rb w hw => dread_short4 rb l g w hw (by omega) h4 hm⟩
    cases hk : descB (IntKind.i64.wrap (rd l 8 (wd g) : Nat)) (IntKind.i64.wrap (rd l (8 + wd g) (wd g) : Nat)) with
    | false => exact ⟨13, 8 + wd g + wd g, by decide, fun rb w hw => dread_check rb l g w hw (by omega) hm hk⟩
    | true => exact absurd ⟨by omega, hm, hk⟩ h
  · exact ⟨30, 4, by decide, fun rb w hw => dread_magic rb l g w hw (by omega) hm⟩
end Go.Proofs.Ytodjoccdjmmilaa
