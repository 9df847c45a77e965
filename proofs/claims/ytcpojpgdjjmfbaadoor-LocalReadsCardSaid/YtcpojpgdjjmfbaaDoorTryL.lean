/- Contracts of trap's Tryd at a type. -/
import Derived.Test.YtcpojpgdjjmfbaaDoorRd
namespace Go.Proofs.YtcpojpgdjjmfbaaDoor
set_option linter.unusedVariables false
set_option linter.unusedSimpArgs false
set_option maxRecDepth 100000
open Go.RowKit
theorem cf_try1L (cap : Array Value) (w : World) : (callFunc 39 cap).run Tryd.prog w = .ok (.enter 39 cap) w := by kernel_rfl
theorem fault_inj' {a b : Int} (h : fault a = fault b) : a = b := by
  unfold fault at h
  simpa using h
set_option maxHeartbeats 1000000 in
theorem try1L_ret (b1 b4 rb q : Nat) (l : List UInt8) (g : FuncId) (cap : Array Value) (W : World) (nm : ByteArray) (y : Int) (mo : Int) (da : Int) (ho : Int) (mi : Int) (se : Int) (me : Int) (cr : Int) (pk : Int) (sz : Int) (gw : Bool) (gl : Bool) (hf : W.cell? ⟨b1, 0, none⟩ = some (.func (.func g) #[] cap)) (h4 : Own W b4 [.string ByteArray.empty, .int .i64 0, .int .i64 0, .int .i64 0, .int .i64 0, .int .i64 0, .int .i64 0, .int .i64 0, .int .u32 0, .int .i64 0, .int .i64 0, .bool false, .bool false]) (hb4 : b4 < W.heap.size) (hne : rb < b4)
    (hcf : ∀ W : World, (callFunc g cap).run Tryd.prog W = .ok (.enter g cap) W) (hcall : Calls Tryd.prog g cap W fun e w1 => e = .returned (.agg #[.string nm, .int .i64 y, .int .i64 mo, .int .i64 da, .int .i64 ho, .int .i64 mi, .int .i64 se, .int .i64 me, .int .u32 cr, .int .i64 pk, .int .i64 sz, .bool gw, .bool gl]) ∧ RD w1 rb l q ∧ Bx [rb] W.heap.size W w1) :
    Calls Tryd.prog 39 #[.pointer (some ⟨b1, 0, none⟩), .pointer (some ⟨b4, 0, none⟩)] W fun e w' => e = .returned (.tuple #[]) ∧ Own w' b4 [.string nm, .int .i64 y, .int .i64 mo, .int .i64 da, .int .i64 ho, .int .i64 mi, .int .i64 se, .int .i64 me, .int .u32 cr, .int .i64 pk, .int .i64 sz, .bool gw, .bool gl] ∧ RD w' rb l q ∧ Bx [rb, b4] W.heap.size W w' := by
  have HC := Lib.hid hcall
  have HO4 := Lib.hid h4
  clear hcall h4
  go_enter Tryd.func39, Tryd.ntmps39
  go_wp2_with fail
  refine HC.out.mono ?_
  rintro e w1 ⟨rfl, hd, hb⟩
  have HD := Lib.hid hd
  have HO := Lib.hid (HO4.out.bx hb hb4 (by simp; omega))
  have HB := Lib.hid (hb.weak (T := [rb, b4]) (by intro k _ hk; simp at hk ⊢; exact .inl hk))
  have hlt : b4 < w1.heap.size := Nat.lt_of_lt_of_le hb4 hb.size
  clear hd hb hcf
  have z0 := HO.out.1 0 _ rfl
  have z1 := HO.out.1 1 _ rfl
  have z2 := HO.out.1 2 _ rfl
  have z3 := HO.out.1 3 _ rfl
  have z4 := HO.out.1 4 _ rfl
  have z5 := HO.out.1 5 _ rfl
  have z6 := HO.out.1 6 _ rfl
  have z7 := HO.out.1 7 _ rfl
  have z8 := HO.out.1 8 _ rfl
  have z9 := HO.out.1 9 _ rfl
  have z10 := HO.out.1 10 _ rfl
  have z11 := HO.out.1 11 _ rfl
  have z12 := HO.out.1 12 _ rfl
  have hg := HO.out.2
  go_wp2
  go_end0
  refine ⟨rfl, (((((((((((((HO.out).set 0 (.string nm) (by simp)).set 1 (.int .i64 y) (by simp)).set 2 (.int .i64 mo) (by simp)).set 3 (.int .i64 da) (by simp)).set 4 (.int .i64 ho) (by simp)).set 5 (.int .i64 mi) (by simp)).set 6 (.int .i64 se) (by simp)).set 7 (.int .i64 me) (by simp)).set 8 (.int .u32 cr) (by simp)).set 9 (.int .i64 pk) (by simp)).set 10 (.int .i64 sz) (by simp)).set 11 (.bool gw) (by simp)).set 12 (.bool gl) (by simp), ?_, ?_⟩
  · exact (((((((((((((HD.out.set_other (b := b4) hne 0 _).set_other (b := b4) hne 1 _).set_other (b := b4) hne 2 _).set_other (b := b4) hne 3 _).set_other (b := b4) hne 4 _).set_other (b := b4) hne 5 _).set_other (b := b4) hne 6 _).set_other (b := b4) hne 7 _).set_other (b := b4) hne 8 _).set_other (b := b4) hne 9 _).set_other (b := b4) hne 10 _).set_other (b := b4) hne 11 _).set_other (b := b4) hne 12 _)
  · exact (((((((((((((HB.out).setCell (p := ⟨b4, 0, none⟩) (.inl (by simp)) _).setCell (p := ⟨b4, 1, none⟩) (.inl (by simp)) _).setCell (p := ⟨b4, 2, none⟩) (.inl (by simp)) _).setCell (p := ⟨b4, 3, none⟩) (.inl (by simp)) _).setCell (p := ⟨b4, 4, none⟩) (.inl (by simp)) _).setCell (p := ⟨b4, 5, none⟩) (.inl (by simp)) _).setCell (p := ⟨b4, 6, none⟩) (.inl (by simp)) _).setCell (p := ⟨b4, 7, none⟩) (.inl (by simp)) _).setCell (p := ⟨b4, 8, none⟩) (.inl (by simp)) _).setCell (p := ⟨b4, 9, none⟩) (.inl (by simp)) _).setCell (p := ⟨b4, 10, none⟩) (.inl (by simp)) _).setCell (p := ⟨b4, 11, none⟩) (.inl (by simp)) _).setCell (p := ⟨b4, 12, none⟩) (.inl (by simp)) _
theorem try1L_throw (b1 b4 rb : Nat) (l : List UInt8) (g : FuncId) (cap : Array Value) (W : World) (hf : W.cell? ⟨b1, 0, none⟩ = some (.func (.func g) #[] cap))
    (hcf : ∀ W : World, (callFunc g cap).run Tryd.prog W = .ok (.enter g cap) W) (hcall : Calls Tryd.prog g cap W fun e w1 => ∃ c q, c ≠ 0 ∧ e = .panicked (fault c) ∧ RD w1 rb l q ∧ Bx [rb] W.heap.size W w1) :
    Calls Tryd.prog 39 #[.pointer (some ⟨b1, 0, none⟩), .pointer (some ⟨b4, 0, none⟩)] W fun e w' => ∃ c q, c ≠ 0 ∧ e = .panicked (fault c) ∧ RD w' rb l q ∧ Bx [rb] W.heap.size W w' := by
  have HC := Lib.hid hcall
  clear hcall
  go_enter Tryd.func39, Tryd.ntmps39
  go_wp2_with fail
  refine HC.out.mono ?_
  rintro e w1 ⟨c, q, hc, rfl, hd, hb⟩
  have HD := Lib.hid hd
  have HB := Lib.hid hb
  clear hd hb hcf
  go_wp2
  exact ⟨rfl, c, q, hc, rfl, HD.out, HB.out⟩
theorem catch_tryL_ret (g : FuncId) (cap : Array Value) (w w3 : World) (rb q : Nat) (l : List UInt8) (nm : ByteArray) (y : Int) (mo : Int) (da : Int) (ho : Int) (mi : Int) (se : Int) (me : Int) (cr : Int) (pk : Int) (sz : Int) (gw : Bool) (gl : Bool) (hrb : rb < w.heap.size) (hcf : ∀ W : World, (callFunc g cap).run Tryd.prog W = .ok (.enter g cap) W)
    (hcall : ∀ W : World, Below w.heap.size w W → Calls Tryd.prog g cap W fun e w1 => e = .returned (.agg #[.string nm, .int .i64 y, .int .i64 mo, .int .i64 da, .int .i64 ho, .int .i64 mi, .int .i64 se, .int .i64 me, .int .u32 cr, .int .i64 pk, .int .i64 sz, .bool gw, .bool gl]) ∧ RD w1 rb l q ∧ Bx [rb] W.heap.size W w1)
    (hs : w3.heap.size = w.heap.size + 3) (hb : Below w.heap.size w w3) (hf : w3.cell? ⟨w.heap.size, 0, none⟩ = some (.func (.func g) #[] cap)) (h1 : Own w3 (w.heap.size + 1) [.string ByteArray.empty, .int .i64 0, .int .i64 0, .int .i64 0, .int .i64 0, .int .i64 0, .int .i64 0, .int .i64 0, .int .u32 0, .int .i64 0, .int .i64 0, .bool false, .bool false]) (h4 : Own w3 (w.heap.size + 2) [.string ByteArray.empty, .int .i64 0, .int .i64 0, .int .i64 0, .int .i64 0, .int .i64 0, .int .i64 0, .int .i64 0, .int .u32 0, .int .i64 0, .int .i64 0, .bool false, .bool false]) :
    Calls Tryd.prog 38 #[.func (.func 39) #[] #[.pointer (some ⟨w.heap.size, 0, none⟩), .pointer (some ⟨w.heap.size + 2, 0, none⟩)]] w3 fun e w' => e = .returned (.int .i64 0) ∧ RD w' rb l q ∧ Bx [rb] w.heap.size w w' ∧ Own w' (w.heap.size + 1) [.string ByteArray.empty, .int .i64 0, .int .i64 0, .int .i64 0, .int .i64 0, .int .i64 0, .int .i64 0, .int .i64 0, .int .u32 0, .int .i64 0, .int .i64 0, .bool false, .bool false] ∧ Own w' (w.heap.size + 2) [.string nm, .int .i64 y, .int .i64 mo, .int .i64 da, .int .i64 ho, .int .i64 mi, .int .i64 se, .int .i64 me, .int .u32 cr, .int .i64 pk, .int .i64 sz, .bool gw, .bool gl] ∧ w.heap.size + 2 < w'.heap.size := by
  have hba : Below w3.heap.size w3 (w3.alloc (.cells #[.int .i64 0] 32)) := (Below.refl _ _).alloc (Nat.le_refl _) _
  have hfc := (hba.cell (p := ⟨w.heap.size, 0, none⟩) (by show w.heap.size < _; omega)).trans hf
  have hoc := h4.below hba (by omega)
  have h1c := h1.below hba (by omega)
  have hbc := hb.trans (hba.mono (by omega))
  have hsa : (w3.alloc (.cells #[.int .i64 0] 32)).heap.size = w.heap.size + 4 := by simp [hs]
  have he0 := Own.new_at w3 [.int .i64 0] 32 (w.heap.size + 3) hs.symm
  have key := try1L_ret w.heap.size (w.heap.size + 2) rb q l g cap _ nm y mo da ho mi se me cr pk sz gw gl hfc hoc (by omega) (by omega) hcf (hcall _ hbc)
  refine (catch_any 39 _ w3 _ (fun W => cf_try1L _ W) key ?_).mono ?_
  · rintro e w4 ⟨rfl, h1, h2, h3⟩
    have hO := he0.bx h3 (by omega) (by simp; omega)
    refine ⟨?_, ?_, ?_, .inl rfl⟩
    · rw [hs]; exact hO.1 0 _ rfl
    · rw [hs]; exact hO.2 0
    · have := h3.size; omega
  · rintro e w5 ⟨e1, w4, ⟨rfl, h1, h2, h3⟩, hg, he⟩
    have hg' : Bx [w.heap.size + 3] w4.heap.size w4 w5 := by rw [hs] at hg; exact Bx.of_gr hg
    have hz := h3.size
    refine ⟨?_, h2.bx hg' (by omega) (by simp; omega), ?_, ?_, ?_, by have := hg'.size; omega⟩
    · rcases he with ⟨hx, rfl⟩ | ⟨c', hx, rfl⟩
      · rfl
      · cases hx
    · refine (Bx.of_below hbc : Bx [rb] w.heap.size w _).trans (((h3.mono (B' := w.heap.size) (by omega)).weak (by intro k hk hm; simp at hm ⊢; omega)).trans ((hg'.mono (by omega)).weak (by intro k hk hm; simp at hm; omega)))
    · exact (h1c.bx h3 (by omega) (by simp; omega)).bx hg' (by omega) (by simp)
    · exact (h1).bx hg' (by omega) (by simp)
set_option maxHeartbeats 1000000 in
theorem tryL_ret (g : FuncId) (cap : Array Value) (w : World) (rb q : Nat) (l : List UInt8) (nm : ByteArray) (y : Int) (mo : Int) (da : Int) (ho : Int) (mi : Int) (se : Int) (me : Int) (cr : Int) (pk : Int) (sz : Int) (gw : Bool) (gl : Bool) (hrb : rb < w.heap.size) (hcf : ∀ W : World, (callFunc g cap).run Tryd.prog W = .ok (.enter g cap) W)
    (hcall : ∀ W : World, Below w.heap.size w W → Calls Tryd.prog g cap W fun e w1 => e = .returned (.agg #[.string nm, .int .i64 y, .int .i64 mo, .int .i64 da, .int .i64 ho, .int .i64 mi, .int .i64 se, .int .i64 me, .int .u32 cr, .int .i64 pk, .int .i64 sz, .bool gw, .bool gl]) ∧ RD w1 rb l q ∧ Bx [rb] W.heap.size W w1) :
    Calls Tryd.prog 19 #[.func (.func g) #[] cap] w fun e w' => e = .returned (.tuple #[.agg #[.string nm, .int .i64 y, .int .i64 mo, .int .i64 da, .int .i64 ho, .int .i64 mi, .int .i64 se, .int .i64 me, .int .u32 cr, .int .i64 pk, .int .i64 sz, .bool gw, .bool gl], .int .i64 0]) ∧ RD w' rb l q ∧ Bx [rb] w.heap.size w w' := by
  have hmf : ∀ (fn : Fn) (first cap : Array Value) (w : World), (Instr.makeFunc fn first cap).run Tryd.prog w = .ok (.func fn first cap) w := fun _ _ _ _ => rfl
  have HK := Lib.hid (fun w3 => catch_tryL_ret g cap w w3 rb q l nm y mo da ho mi se me cr pk sz gw gl hrb hcf hcall)
  have HO1 := Lib.hid ((Own.new_at (w.alloc (.cells #[.func (.func g) #[] cap] 48)) [.string ByteArray.empty, .int .i64 0, .int .i64 0, .int .i64 0, .int .i64 0, .int .i64 0, .int .i64 0, .int .i64 0, .int .u32 0, .int .i64 0, .int .i64 0, .bool false, .bool false] 26 (w.heap.size + 1) (by simp)).below ((Below.refl _ _).alloc (Nat.le_refl _) (.cells #[.string ByteArray.empty, .int .i64 0, .int .i64 0, .int .i64 0, .int .i64 0, .int .i64 0, .int .i64 0, .int .i64 0, .int .u32 0, .int .i64 0, .int .i64 0, .bool false, .bool false] 26)) (by simp))
  have HO4 := Lib.hid (Own.new_at ((w.alloc (.cells #[.func (.func g) #[] cap] 48)).alloc (.cells #[.string ByteArray.empty, .int .i64 0, .int .i64 0, .int .i64 0, .int .i64 0, .int .i64 0, .int .i64 0, .int .i64 0, .int .u32 0, .int .i64 0, .int .i64 0, .bool false, .bool false] 26)) [.string ByteArray.empty, .int .i64 0, .int .i64 0, .int .i64 0, .int .i64 0, .int .i64 0, .int .i64 0, .int .i64 0, .int .u32 0, .int .i64 0, .int .i64 0, .bool false, .bool false] 26 (w.heap.size + 2) (by simp))
  have HF : Hid ((((w.alloc (.cells #[.func (.func g) #[] cap] 48)).alloc (.cells #[.string ByteArray.empty, .int .i64 0, .int .i64 0, .int .i64 0, .int .i64 0, .int .i64 0, .int .i64 0, .int .i64 0, .int .u32 0, .int .i64 0, .int .i64 0, .bool false, .bool false] 26)).alloc (.cells #[.string ByteArray.empty, .int .i64 0, .int .i64 0, .int .i64 0, .int .i64 0, .int .i64 0, .int .i64 0, .int .i64 0, .int .u32 0, .int .i64 0, .int .i64 0, .bool false, .bool false] 26)).cell? ⟨w.heap.size, 0, none⟩ = some (.func (.func g) #[] cap)) := by
    show _ = _
    rw [World.cell?_alloc_past _ _ _ (by simp; omega), World.cell?_alloc_past _ _ _ (by simp), World.cell?_alloc_at _ _ _ _ rfl]; rfl
  have HB0 : Hid (Below w.heap.size w (((w.alloc (.cells #[.func (.func g) #[] cap] 48)).alloc (.cells #[.string ByteArray.empty, .int .i64 0, .int .i64 0, .int .i64 0, .int .i64 0, .int .i64 0, .int .i64 0, .int .i64 0, .int .u32 0, .int .i64 0, .int .i64 0, .bool false, .bool false] 26)).alloc (.cells #[.string ByteArray.empty, .int .i64 0, .int .i64 0, .int .i64 0, .int .i64 0, .int .i64 0, .int .i64 0, .int .i64 0, .int .u32 0, .int .i64 0, .int .i64 0, .bool false, .bool false] 26))) := (((Below.refl _ _).alloc (Nat.le_refl _) _).alloc (by simp) _).alloc (by simp; omega) _
  have HS : Hid ((((w.alloc (.cells #[.func (.func g) #[] cap] 48)).alloc (.cells #[.string ByteArray.empty, .int .i64 0, .int .i64 0, .int .i64 0, .int .i64 0, .int .i64 0, .int .i64 0, .int .i64 0, .int .u32 0, .int .i64 0, .int .i64 0, .bool false, .bool false] 26)).alloc (.cells #[.string ByteArray.empty, .int .i64 0, .int .i64 0, .int .i64 0, .int .i64 0, .int .i64 0, .int .i64 0, .int .i64 0, .int .u32 0, .int .i64 0, .int .i64 0, .bool false, .bool false] 26)).heap.size = w.heap.size + 3) := Lib.hid (by simp)
  clear hcall hcf
  go_enter Tryd.func19, Tryd.ntmps19
  go_wp2_with fail
  refine (HK.out _ HS.out HB0.out HF.out HO1.out HO4.out).mono ?_
  rintro e w5 ⟨rfl, hd, hb, ho1, ho4, hlt⟩
  have HD := Lib.hid hd
  have HB := Lib.hid hb
  have HO1 := Lib.hid ho1
  have HO4 := Lib.hid ho4
  clear hd hb ho1 ho4 hmf
  have y0 := HO4.out.1 0 _ rfl
  have z0 := HO1.out.1 0 _ rfl
  have y1 := HO4.out.1 1 _ rfl
  have z1 := HO1.out.1 1 _ rfl
  have y2 := HO4.out.1 2 _ rfl
  have z2 := HO1.out.1 2 _ rfl
  have y3 := HO4.out.1 3 _ rfl
  have z3 := HO1.out.1 3 _ rfl
  have y4 := HO4.out.1 4 _ rfl
  have z4 := HO1.out.1 4 _ rfl
  have y5 := HO4.out.1 5 _ rfl
  have z5 := HO1.out.1 5 _ rfl
  have y6 := HO4.out.1 6 _ rfl
  have z6 := HO1.out.1 6 _ rfl
  have y7 := HO4.out.1 7 _ rfl
  have z7 := HO1.out.1 7 _ rfl
  have y8 := HO4.out.1 8 _ rfl
  have z8 := HO1.out.1 8 _ rfl
  have y9 := HO4.out.1 9 _ rfl
  have z9 := HO1.out.1 9 _ rfl
  have y10 := HO4.out.1 10 _ rfl
  have z10 := HO1.out.1 10 _ rfl
  have y11 := HO4.out.1 11 _ rfl
  have z11 := HO1.out.1 11 _ rfl
  have y12 := HO4.out.1 12 _ rfl
  have z12 := HO1.out.1 12 _ rfl
  have hg := HO1.out.2
  go_wp2
  refine bodyPost_ret (v := .tuple #[.agg #[.string nm, .int .i64 y, .int .i64 mo, .int .i64 da, .int .i64 ho, .int .i64 mi, .int .i64 se, .int .i64 me, .int .u32 cr, .int .i64 pk, .int .i64 sz, .bool gw, .bool gl], .int .i64 0]) (by simp [results, Tryd.results19, go_sem, z0, z1, z2, z3, z4, z5, z6, z7, z8, z9, z10, z11, z12]) rfl ⟨rfl, ?_, ?_⟩
  · exact (((((((((((((HD.out.set_other (b := w.heap.size + 1) (by omega) 0 _).set_other (b := w.heap.size + 1) (by omega) 1 _).set_other (b := w.heap.size + 1) (by omega) 2 _).set_other (b := w.heap.size + 1) (by omega) 3 _).set_other (b := w.heap.size + 1) (by omega) 4 _).set_other (b := w.heap.size + 1) (by omega) 5 _).set_other (b := w.heap.size + 1) (by omega) 6 _).set_other (b := w.heap.size + 1) (by omega) 7 _).set_other (b := w.heap.size + 1) (by omega) 8 _).set_other (b := w.heap.size + 1) (by omega) 9 _).set_other (b := w.heap.size + 1) (by omega) 10 _).set_other (b := w.heap.size + 1) (by omega) 11 _).set_other (b := w.heap.size + 1) (by omega) 12 _)
  · exact (((((((((((((HB.out).setCell (p := ⟨w.heap.size + 1, 0, none⟩) (.inr (by simp)) _).setCell (p := ⟨w.heap.size + 1, 1, none⟩) (.inr (by simp)) _).setCell (p := ⟨w.heap.size + 1, 2, none⟩) (.inr (by simp)) _).setCell (p := ⟨w.heap.size + 1, 3, none⟩) (.inr (by simp)) _).setCell (p := ⟨w.heap.size + 1, 4, none⟩) (.inr (by simp)) _).setCell (p := ⟨w.heap.size + 1, 5, none⟩) (.inr (by simp)) _).setCell (p := ⟨w.heap.size + 1, 6, none⟩) (.inr (by simp)) _).setCell (p := ⟨w.heap.size + 1, 7, none⟩) (.inr (by simp)) _).setCell (p := ⟨w.heap.size + 1, 8, none⟩) (.inr (by simp)) _).setCell (p := ⟨w.heap.size + 1, 9, none⟩) (.inr (by simp)) _).setCell (p := ⟨w.heap.size + 1, 10, none⟩) (.inr (by simp)) _).setCell (p := ⟨w.heap.size + 1, 11, none⟩) (.inr (by simp)) _).setCell (p := ⟨w.heap.size + 1, 12, none⟩) (.inr (by simp)) _
theorem catch_tryL_throw (g : FuncId) (cap : Array Value) (w w3 : World) (rb : Nat) (l : List UInt8) (hrb : rb < w.heap.size) (hcf : ∀ W : World, (callFunc g cap).run Tryd.prog W = .ok (.enter g cap) W)
    (hcall : ∀ W : World, Below w.heap.size w W → Calls Tryd.prog g cap W fun e w1 => ∃ c q, c ≠ 0 ∧ e = .panicked (fault c) ∧ RD w1 rb l q ∧ Bx [rb] W.heap.size W w1)
    (hs : w3.heap.size = w.heap.size + 3) (hb : Below w.heap.size w w3) (hf : w3.cell? ⟨w.heap.size, 0, none⟩ = some (.func (.func g) #[] cap)) (h1 : Own w3 (w.heap.size + 1) [.string ByteArray.empty, .int .i64 0, .int .i64 0, .int .i64 0, .int .i64 0, .int .i64 0, .int .i64 0, .int .i64 0, .int .u32 0, .int .i64 0, .int .i64 0, .bool false, .bool false]) (h4 : Own w3 (w.heap.size + 2) [.string ByteArray.empty, .int .i64 0, .int .i64 0, .int .i64 0, .int .i64 0, .int .i64 0, .int .i64 0, .int .i64 0, .int .u32 0, .int .i64 0, .int .i64 0, .bool false, .bool false]) :
    Calls Tryd.prog 38 #[.func (.func 39) #[] #[.pointer (some ⟨w.heap.size, 0, none⟩), .pointer (some ⟨w.heap.size + 2, 0, none⟩)]] w3 fun e w' => ∃ c q, c ≠ 0 ∧ e = .returned (.int .i64 c) ∧ RD w' rb l q ∧ Bx [rb] w.heap.size w w' ∧ Own w' (w.heap.size + 1) [.string ByteArray.empty, .int .i64 0, .int .i64 0, .int .i64 0, .int .i64 0, .int .i64 0, .int .i64 0, .int .i64 0, .int .u32 0, .int .i64 0, .int .i64 0, .bool false, .bool false] ∧ Own w' (w.heap.size + 2) [.string ByteArray.empty, .int .i64 0, .int .i64 0, .int .i64 0, .int .i64 0, .int .i64 0, .int .i64 0, .int .i64 0, .int .u32 0, .int .i64 0, .int .i64 0, .bool false, .bool false] ∧ w.heap.size + 2 < w'.heap.size := by
  have hba : Below w3.heap.size w3 (w3.alloc (.cells #[.int .i64 0] 32)) := (Below.refl _ _).alloc (Nat.le_refl _) _
  have hfc := (hba.cell (p := ⟨w.heap.size, 0, none⟩) (by show w.heap.size < _; omega)).trans hf
  have hoc := h4.below hba (by omega)
  have h1c := h1.below hba (by omega)
  have hbc := hb.trans (hba.mono (by omega))
  have hsa : (w3.alloc (.cells #[.int .i64 0] 32)).heap.size = w.heap.size + 4 := by simp [hs]
  have he0 := Own.new_at w3 [.int .i64 0] 32 (w.heap.size + 3) hs.symm
  have key := try1L_throw w.heap.size (w.heap.size + 2) rb l g cap _ hfc hcf (hcall _ hbc)
  refine (catch_any 39 _ w3 _ (fun W => cf_try1L _ W) key ?_).mono ?_
  · rintro e w4 ⟨c, q, hc, rfl, h2, h3⟩
    have hO := he0.bx h3 (by omega) (by simp; omega)
    refine ⟨?_, ?_, ?_, .inr ⟨c, rfl⟩⟩
    · rw [hs]; exact hO.1 0 _ rfl
    · rw [hs]; exact hO.2 0
    · have := h3.size; omega
  · rintro e w5 ⟨e1, w4, ⟨c, q, hc, rfl, h2, h3⟩, hg, he⟩
    have hg' : Bx [w.heap.size + 3] w4.heap.size w4 w5 := by rw [hs] at hg; exact Bx.of_gr hg
    have hz := h3.size
    refine ⟨c, q, hc, ?_, h2.bx hg' (by omega) (by simp; omega), ?_, ?_, ?_, by have := hg'.size; omega⟩
    · rcases he with ⟨hx, rfl⟩ | ⟨c', hx, rfl⟩
      · cases hx
      · rw [fault_inj' (Ending.panicked.inj hx)]
    · refine (Bx.of_below hbc : Bx [rb] w.heap.size w _).trans (((h3.mono (B' := w.heap.size) (by omega)).weak (by intro k hk hm; simp at hm ⊢; omega)).trans ((hg'.mono (by omega)).weak (by intro k hk hm; simp at hm; omega)))
    · exact (h1c.bx h3 (by omega) (by simp; omega)).bx hg' (by omega) (by simp)
    · exact (hoc.bx h3 (by omega) (by simp; omega)).bx hg' (by omega) (by simp)
set_option maxHeartbeats 1000000 in
theorem tryL_throw (g : FuncId) (cap : Array Value) (w : World) (rb : Nat) (l : List UInt8) (hrb : rb < w.heap.size) (hcf : ∀ W : World, (callFunc g cap).run Tryd.prog W = .ok (.enter g cap) W)
    (hcall : ∀ W : World, Below w.heap.size w W → Calls Tryd.prog g cap W fun e w1 => ∃ c q, c ≠ 0 ∧ e = .panicked (fault c) ∧ RD w1 rb l q ∧ Bx [rb] W.heap.size W w1) :
    Calls Tryd.prog 19 #[.func (.func g) #[] cap] w fun e w' => ∃ c q, c ≠ 0 ∧ e = .returned (.tuple #[.agg #[.string ByteArray.empty, .int .i64 0, .int .i64 0, .int .i64 0, .int .i64 0, .int .i64 0, .int .i64 0, .int .i64 0, .int .u32 0, .int .i64 0, .int .i64 0, .bool false, .bool false], .int .i64 c]) ∧ RD w' rb l q ∧ Bx [rb] w.heap.size w w' := by
  have hmf : ∀ (fn : Fn) (first cap : Array Value) (w : World), (Instr.makeFunc fn first cap).run Tryd.prog w = .ok (.func fn first cap) w := fun _ _ _ _ => rfl
  have HK := Lib.hid (fun w3 => catch_tryL_throw g cap w w3 rb l hrb hcf hcall)
  have HO1 := Lib.hid ((Own.new_at (w.alloc (.cells #[.func (.func g) #[] cap] 48)) [.string ByteArray.empty, .int .i64 0, .int .i64 0, .int .i64 0, .int .i64 0, .int .i64 0, .int .i64 0, .int .i64 0, .int .u32 0, .int .i64 0, .int .i64 0, .bool false, .bool false] 26 (w.heap.size + 1) (by simp)).below ((Below.refl _ _).alloc (Nat.le_refl _) (.cells #[.string ByteArray.empty, .int .i64 0, .int .i64 0, .int .i64 0, .int .i64 0, .int .i64 0, .int .i64 0, .int .i64 0, .int .u32 0, .int .i64 0, .int .i64 0, .bool false, .bool false] 26)) (by simp))
  have HO4 := Lib.hid (Own.new_at ((w.alloc (.cells #[.func (.func g) #[] cap] 48)).alloc (.cells #[.string ByteArray.empty, .int .i64 0, .int .i64 0, .int .i64 0, .int .i64 0, .int .i64 0, .int .i64 0, .int .i64 0, .int .u32 0, .int .i64 0, .int .i64 0, .bool false, .bool false] 26)) [.string ByteArray.empty, .int .i64 0, .int .i64 0, .int .i64 0, .int .i64 0, .int .i64 0, .int .i64 0, .int .i64 0, .int .u32 0, .int .i64 0, .int .i64 0, .bool false, .bool false] 26 (w.heap.size + 2) (by simp))
  have HF : Hid ((((w.alloc (.cells #[.func (.func g) #[] cap] 48)).alloc (.cells #[.string ByteArray.empty, .int .i64 0, .int .i64 0, .int .i64 0, .int .i64 0, .int .i64 0, .int .i64 0, .int .i64 0, .int .u32 0, .int .i64 0, .int .i64 0, .bool false, .bool false] 26)).alloc (.cells #[.string ByteArray.empty, .int .i64 0, .int .i64 0, .int .i64 0, .int .i64 0, .int .i64 0, .int .i64 0, .int .i64 0, .int .u32 0, .int .i64 0, .int .i64 0, .bool false, .bool false] 26)).cell? ⟨w.heap.size, 0, none⟩ = some (.func (.func g) #[] cap)) := by
    show _ = _
    rw [World.cell?_alloc_past _ _ _ (by simp; omega), World.cell?_alloc_past _ _ _ (by simp), World.cell?_alloc_at _ _ _ _ rfl]; rfl
  have HB0 : Hid (Below w.heap.size w (((w.alloc (.cells #[.func (.func g) #[] cap] 48)).alloc (.cells #[.string ByteArray.empty, .int .i64 0, .int .i64 0, .int .i64 0, .int .i64 0, .int .i64 0, .int .i64 0, .int .i64 0, .int .u32 0, .int .i64 0, .int .i64 0, .bool false, .bool false] 26)).alloc (.cells #[.string ByteArray.empty, .int .i64 0, .int .i64 0, .int .i64 0, .int .i64 0, .int .i64 0, .int .i64 0, .int .i64 0, .int .u32 0, .int .i64 0, .int .i64 0, .bool false, .bool false] 26))) := (((Below.refl _ _).alloc (Nat.le_refl _) _).alloc (by simp) _).alloc (by simp; omega) _
  have HS : Hid ((((w.alloc (.cells #[.func (.func g) #[] cap] 48)).alloc (.cells #[.string ByteArray.empty, .int .i64 0, .int .i64 0, .int .i64 0, .int .i64 0, .int .i64 0, .int .i64 0, .int .i64 0, .int .u32 0, .int .i64 0, .int .i64 0, .bool false, .bool false] 26)).alloc (.cells #[.string ByteArray.empty, .int .i64 0, .int .i64 0, .int .i64 0, .int .i64 0, .int .i64 0, .int .i64 0, .int .i64 0, .int .u32 0, .int .i64 0, .int .i64 0, .bool false, .bool false] 26)).heap.size = w.heap.size + 3) := Lib.hid (by simp)
  clear hcall hcf
  go_enter Tryd.func19, Tryd.ntmps19
  go_wp2_with fail
  refine (HK.out _ HS.out HB0.out HF.out HO1.out HO4.out).mono ?_
  rintro e w5 ⟨c, q, hc, rfl, hd, hb, ho1, ho4, hlt⟩
  have HD := Lib.hid hd
  have HB := Lib.hid hb
  have HO1 := Lib.hid ho1
  have HO4 := Lib.hid ho4
  clear hd hb ho1 ho4 hmf
  have y0 := HO4.out.1 0 _ rfl
  have z0 := HO1.out.1 0 _ rfl
  have y1 := HO4.out.1 1 _ rfl
  have z1 := HO1.out.1 1 _ rfl
  have y2 := HO4.out.1 2 _ rfl
  have z2 := HO1.out.1 2 _ rfl
  have y3 := HO4.out.1 3 _ rfl
  have z3 := HO1.out.1 3 _ rfl
  have y4 := HO4.out.1 4 _ rfl
  have z4 := HO1.out.1 4 _ rfl
  have y5 := HO4.out.1 5 _ rfl
  have z5 := HO1.out.1 5 _ rfl
  have y6 := HO4.out.1 6 _ rfl
  have z6 := HO1.out.1 6 _ rfl
  have y7 := HO4.out.1 7 _ rfl
  have z7 := HO1.out.1 7 _ rfl
  have y8 := HO4.out.1 8 _ rfl
  have z8 := HO1.out.1 8 _ rfl
  have y9 := HO4.out.1 9 _ rfl
  have z9 := HO1.out.1 9 _ rfl
  have y10 := HO4.out.1 10 _ rfl
  have z10 := HO1.out.1 10 _ rfl
  have y11 := HO4.out.1 11 _ rfl
  have z11 := HO1.out.1 11 _ rfl
  have y12 := HO4.out.1 12 _ rfl
  have z12 := HO1.out.1 12 _ rfl
  have hg := HO1.out.2
  go_wp2
  refine bodyPost_ret (v := .tuple #[.agg #[.string ByteArray.empty, .int .i64 0, .int .i64 0, .int .i64 0, .int .i64 0, .int .i64 0, .int .i64 0, .int .i64 0, .int .u32 0, .int .i64 0, .int .i64 0, .bool false, .bool false], .int .i64 c]) (by simp [results, Tryd.results19, go_sem, z0, z1, z2, z3, z4, z5, z6, z7, z8, z9, z10, z11, z12]) rfl ⟨c, q, hc, rfl, ?_, ?_⟩
  · exact (((((((((((((HD.out.set_other (b := w.heap.size + 1) (by omega) 0 _).set_other (b := w.heap.size + 1) (by omega) 1 _).set_other (b := w.heap.size + 1) (by omega) 2 _).set_other (b := w.heap.size + 1) (by omega) 3 _).set_other (b := w.heap.size + 1) (by omega) 4 _).set_other (b := w.heap.size + 1) (by omega) 5 _).set_other (b := w.heap.size + 1) (by omega) 6 _).set_other (b := w.heap.size + 1) (by omega) 7 _).set_other (b := w.heap.size + 1) (by omega) 8 _).set_other (b := w.heap.size + 1) (by omega) 9 _).set_other (b := w.heap.size + 1) (by omega) 10 _).set_other (b := w.heap.size + 1) (by omega) 11 _).set_other (b := w.heap.size + 1) (by omega) 12 _)
  · exact (((((((((((((HB.out).setCell (p := ⟨w.heap.size + 1, 0, none⟩) (.inr (by simp)) _).setCell (p := ⟨w.heap.size + 1, 1, none⟩) (.inr (by simp)) _).setCell (p := ⟨w.heap.size + 1, 2, none⟩) (.inr (by simp)) _).setCell (p := ⟨w.heap.size + 1, 3, none⟩) (.inr (by simp)) _).setCell (p := ⟨w.heap.size + 1, 4, none⟩) (.inr (by simp)) _).setCell (p := ⟨w.heap.size + 1, 5, none⟩) (.inr (by simp)) _).setCell (p := ⟨w.heap.size + 1, 6, none⟩) (.inr (by simp)) _).setCell (p := ⟨w.heap.size + 1, 7, none⟩) (.inr (by simp)) _).setCell (p := ⟨w.heap.size + 1, 8, none⟩) (.inr (by simp)) _).setCell (p := ⟨w.heap.size + 1, 9, none⟩) (.inr (by simp)) _).setCell (p := ⟨w.heap.size + 1, 10, none⟩) (.inr (by simp)) _).setCell (p := ⟨w.heap.size + 1, 11, none⟩) (.inr (by simp)) _).setCell (p := ⟨w.heap.size + 1, 12, none⟩) (.inr (by simp)) _
end Go.Proofs.YtcpojpgdjjmfbaaDoor
