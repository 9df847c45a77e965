/- Contracts of trap's Try at a type. -/
import Derived.Test.YtodjoccdjmmilaaRd
namespace Go.Proofs.Ytodjoccdjmmilaa
open Go.RowKit
theorem cf_try1D (cap : Array Value) (w : World) : (callFunc 24 cap).run Try.prog w = .ok (.enter 24 cap) w := by kernel_rfl
theorem fault_inj' {a b : Int} (h : fault a = fault b) : a = b := by
  unfold fault at h
  simpa using h
set_option maxHeartbeats 1000000 in
theorem try1D_ret (b1 b4 rb q : Nat) (l : List UInt8) (g : FuncId) (cap : Array Value) (W : World) (x0 : Int) (x1 : Int) (x2 : Int) (x3 : Bool) (hf : W.cell? ⟨b1, 0, none⟩ = some (.func (.func g) #[] cap)) (h4 : Own W b4 [.int .u32 0, .int .i64 0, .int .i64 0, .bool false]) (hb4 : b4 < W.heap.size) (hne : rb < b4)
    (hcf : ∀ W : World, (callFunc g cap).run Try.prog W = .ok (.enter g cap) W) (hcall : Calls Try.prog g cap W fun e w1 => e = .returned (.agg #[.int .u32 x0, .int .i64 x1, .int .i64 x2, .bool x3]) ∧ RD w1 rb l q ∧ Bx [rb] W.heap.size W w1) :
    Calls Try.prog 24 #[.pointer (some ⟨b1, 0, none⟩), .pointer (some ⟨b4, 0, none⟩)] W fun e w' => e = .returned (.tuple #[]) ∧ Own w' b4 [.int .u32 x0, .int .i64 x1, .int .i64 x2, .bool x3] ∧ RD w' rb l q ∧ Bx [rb, b4] W.heap.size W w' := by
  have HC := Lib.hid hcall
  have HO4 := Lib.hid h4
  clear hcall h4
  go_enter Try.func24, Try.ntmps24
  go_wp2_with fail
  refine HC.out.mono ?_
  rintro e w1 ⟨rfl, hd, hb⟩
  have HD := Lib.hid hd
  have HO := Lib.hid (HO4.out.bx hb hb4 (by simp; omega))
  have HB := Lib.hid (hb.weak (T := [rb, b4]) (by intro k _ hk; simp at hk ⊢; exact .inl hk))
  have hlt : b4 < w1.heap.size := Nat.lt_of_lt_of_le hb4 hb.size
  clear hd hb hcf
  have z0 := HO.out.1 0 _ rfl
  have z1 := HO.out.1 1 _ rfl
  have z2 := HO.out.1 2 _ rfl
  have z3 := HO.out.1 3 _ rfl
  have hg := HO.out.2
  go_wp2
  go_end0
  refine ⟨rfl, ((((HO.out).set 0 (.int .u32 x0) (by simp)).set 1 (.int .i64 x1) (by simp)).set 2 (.int .i64 x2) (by simp)).set 3 (.bool x3) (by simp), ?_, ?_⟩
  · exact ((((HD.out.set_other (b := b4) hne 0 _).set_other (b := b4) hne 1 _).set_other (b := b4) hne 2 _).set_other (b := b4) hne 3 _)
  · exact ((((HB.out).setCell (p := ⟨b4, 0, none⟩) (.inl (by simp)) _).setCell (p := ⟨b4, 1, none⟩) (.inl (by simp)) _).setCell (p := ⟨b4, 2, none⟩) (.inl (by simp)) _).setCell (p := ⟨b4, 3, none⟩) (.inl (by simp)) _
theorem try1D_throw (b1 b4 rb q : Nat) (l : List UInt8) (g : FuncId) (cap : Array Value) (W : World) (c : Int) (hf : W.cell? ⟨b1, 0, none⟩ = some (.func (.func g) #[] cap))
    (hcf : ∀ W : World, (callFunc g cap).run Try.prog W = .ok (.enter g cap) W) (hcall : Calls Try.prog g cap W fun e w1 => e = .panicked (fault c) ∧ RD w1 rb l q ∧ Bx [rb] W.heap.size W w1) :
    Calls Try.prog 24 #[.pointer (some ⟨b1, 0, none⟩), .pointer (some ⟨b4, 0, none⟩)] W fun e w' => e = .panicked (fault c) ∧ RD w' rb l q ∧ Bx [rb] W.heap.size W w' := by
  have HC := Lib.hid hcall
  clear hcall
  go_enter Try.func24, Try.ntmps24
  go_wp2_with fail
  refine HC.out.mono ?_
  rintro e w1 ⟨rfl, hd, hb⟩
  have HD := Lib.hid hd
  have HB := Lib.hid hb
  clear hd hb hcf
  go_wp2
  exact ⟨rfl, rfl, HD.out, HB.out⟩
theorem catch_tryD_ret (g : FuncId) (cap : Array Value) (w w3 : World) (rb q : Nat) (l : List UInt8) (x0 : Int) (x1 : Int) (x2 : Int) (x3 : Bool) (hrb : rb < w.heap.size) (hcf : ∀ W : World, (callFunc g cap).run Try.prog W = .ok (.enter g cap) W)
    (hcall : ∀ W : World, Below w.heap.size w W → Calls Try.prog g cap W fun e w1 => e = .returned (.agg #[.int .u32 x0, .int .i64 x1, .int .i64 x2, .bool x3]) ∧ RD w1 rb l q ∧ Bx [rb] W.heap.size W w1)
    (hs : w3.heap.size = w.heap.size + 3) (hb : Below w.heap.size w w3) (hf : w3.cell? ⟨w.heap.size, 0, none⟩ = some (.func (.func g) #[] cap)) (h1 : Own w3 (w.heap.size + 1) [.int .u32 0, .int .i64 0, .int .i64 0, .bool false]) (h4 : Own w3 (w.heap.size + 2) [.int .u32 0, .int .i64 0, .int .i64 0, .bool false]) :
    Calls Try.prog 23 #[.func (.func 24) #[] #[.pointer (some ⟨w.heap.size, 0, none⟩), .pointer (some ⟨w.heap.size + 2, 0, none⟩)]] w3 fun e w' => e = .returned (.int .i64 0) ∧ RD w' rb l q ∧ Bx [rb] w.heap.size w w' ∧ Own w' (w.heap.size + 1) [.int .u32 0, .int .i64 0, .int .i64 0, .bool false] ∧ Own w' (w.heap.size + 2) [.int .u32 x0, .int .i64 x1, .int .i64 x2, .bool x3] ∧ w.heap.size + 2 < w'.heap.size := by
  have hba : Below w3.heap.size w3 (w3.alloc (.cells #[.int .i64 0] 27)) := (Below.refl _ _).alloc (Nat.le_refl _) _
  have hfc := (hba.cell (p := ⟨w.heap.size, 0, none⟩) (by show w.heap.size < _; omega)).trans hf
  have hoc := h4.below hba (by omega)
  have h1c := h1.below hba (by omega)
  have hbc := hb.trans (hba.mono (by omega))
  have hsa : (w3.alloc (.cells #[.int .i64 0] 27)).heap.size = w.heap.size + 4 := by simp [hs]
  have he0 := Own.new_at w3 [.int .i64 0] 27 (w.heap.size + 3) hs.symm
  have key := try1D_ret w.heap.size (w.heap.size + 2) rb q l g cap _ x0 x1 x2 x3 hfc hoc (by omega) (by omega) hcf (hcall _ hbc)
  refine (catch_any 24 _ w3 _ (fun W => cf_try1D _ W) key ?_).mono ?_
  · rintro e w4 ⟨rfl, h1, h2, h3⟩
    have hO := he0.bx h3 (by omega) (by simp; omega)
    refine ⟨?_, ?_, ?_, .inl rfl⟩
    · rw [hs]; exact hO.1 0 _ rfl
    · rw [hs]; exact hO.2 0
    · have := h3.size; omega
  · rintro e w5 ⟨e1, w4, ⟨rfl, h1, h2, h3⟩, hg, he⟩
    have hg' : Bx [w.heap.size + 3] w4.heap.size w4 w5 := by rw [hs] at hg; exact Bx.of_gr hg
    have hz := h3.size
    refine ⟨?_, h2.bx hg' (by omega) (by simp; omega), ?_, ?_, ?_, by have := hg'.size; omega⟩
    · rcases he with ⟨hx, rfl⟩ | ⟨c', hx, rfl⟩
      · rfl
      · cases hx
    · refine (Bx.of_below hbc : Bx [rb] w.heap.size w _).trans (((h3.mono (B' := w.heap.size) (by omega)).weak (by intro k hk hm; simp at hm ⊢; omega)).trans ((hg'.mono (by omega)).weak (by intro k hk hm; simp at hm; omega)))
    · exact (h1c.bx h3 (by omega) (by simp; omega)).bx hg' (by omega) (by simp)
    · exact (h1).bx hg' (by omega) (by simp)
set_option maxHeartbeats 1000000 in
theorem tryD_ret (g : FuncId) (cap : Array Value) (w : World) (rb q : Nat) (l : List UInt8) (x0 : Int) (x1 : Int) (x2 : Int) (x3 : Bool) (hrb : rb < w.heap.size) (hcf : ∀ W : World, (callFunc g cap).run Try.prog W = .ok (.enter g cap) W)
    (hcall : ∀ W : World, Below w.heap.size w W → Calls Try.prog g cap W fun e w1 => e = .returned (.agg #[.int .u32 x0, .int .i64 x1, .int .i64 x2, .bool x3]) ∧ RD w1 rb l q ∧ Bx [rb] W.heap.size W w1) :
    Calls Try.prog 13 #[.func (.func g) #[] cap] w fun e w' => e = .returned (.tuple #[.agg #[.int .u32 x0, .int .i64 x1, .int .i64 x2, .bool x3], .int .i64 0]) ∧ RD w' rb l q ∧ Bx [rb] w.heap.size w w' := by
  have hmf : ∀ (fn : Fn) (first cap : Array Value) (w : World), (Instr.makeFunc fn first cap).run Try.prog w = .ok (.func fn first cap) w := fun _ _ _ _ => rfl
  have HK := Lib.hid (fun w3 => catch_tryD_ret g cap w w3 rb q l x0 x1 x2 x3 hrb hcf hcall)
  have HO1 := Lib.hid ((Own.new_at (w.alloc (.cells #[.func (.func g) #[] cap] 43)) [.int .u32 0, .int .i64 0, .int .i64 0, .bool false] 24 (w.heap.size + 1) (by simp)).below ((Below.refl _ _).alloc (Nat.le_refl _) (.cells #[.int .u32 0, .int .i64 0, .int .i64 0, .bool false] 24)) (by simp))
  have HO4 := Lib.hid (Own.new_at ((w.alloc (.cells #[.func (.func g) #[] cap] 43)).alloc (.cells #[.int .u32 0, .int .i64 0, .int .i64 0, .bool false] 24)) [.int .u32 0, .int .i64 0, .int .i64 0, .bool false] 24 (w.heap.size + 2) (by simp))
  have HF : Hid ((((w.alloc (.cells #[.func (.func g) #[] cap] 43)).alloc (.cells #[.int .u32 0, .int .i64 0, .int .i64 0, .bool false] 24)).alloc (.cells #[.int .u32 0, .int .i64 0, .int .i64 0, .bool false] 24)).cell? ⟨w.heap.size, 0, none⟩ = some (.func (.func g) #[] cap)) := by
    show _ = _
    rw [World.cell?_alloc_past _ _ _ (by simp; omega), World.cell?_alloc_past _ _ _ (by simp), World.cell?_alloc_at _ _ _ _ rfl]; rfl
  have HB0 : Hid (Below w.heap.size w (((w.alloc (.cells #[.func (.func g) #[] cap] 43)).alloc (.cells #[.int .u32 0, .int .i64 0, .int .i64 0, .bool false] 24)).alloc (.cells #[.int .u32 0, .int .i64 0, .int .i64 0, .bool false] 24))) := (((Below.refl _ _).alloc (Nat.le_refl _) _).alloc (by simp) _).alloc (by simp; omega) _
  have HS : Hid ((((w.alloc (.cells #[.func (.func g) #[] cap] 43)).alloc (.cells #[.int .u32 0, .int .i64 0, .int .i64 0, .bool false] 24)).alloc (.cells #[.int .u32 0, .int .i64 0, .int .i64 0, .bool false] 24)).heap.size = w.heap.size + 3) := Lib.hid (by simp)
  clear hcall hcf
  go_enter Try.func13, Try.ntmps13
  go_wp2_with fail
  refine (HK.out _ HS.out HB0.out HF.out HO1.out HO4.out).mono ?_
  rintro e w5 ⟨rfl, hd, hb, ho1, ho4, hlt⟩
  have HD := Lib.hid hd
  have HB := Lib.hid hb
  have HO1 := Lib.hid ho1
  have HO4 := Lib.hid ho4
  clear hd hb ho1 ho4 hmf
  have y0 := HO4.out.1 0 _ rfl
  have z0 := HO1.out.1 0 _ rfl
  have y1 := HO4.out.1 1 _ rfl
  have z1 := HO1.out.1 1 _ rfl
  have y2 := HO4.out.1 2 _ rfl
  have z2 := HO1.out.1 2 _ rfl
  have y3 := HO4.out.1 3 _ rfl
  have z3 := HO1.out.1 3 _ rfl
  have hg := HO1.out.2
  go_wp2
  refine bodyPost_ret (v := .tuple #[.agg #[.int .u32 x0, .int .i64 x1, .int .i64 x2, .bool x3], .int .i64 0]) (by simp [results, Try.results13, go_sem, z0, z1, z2, z3]) rfl ⟨rfl, ?_, ?_⟩
  · exact ((((HD.out.set_other (b := w.heap.size + 1) (by omega) 0 _).set_other (b := w.heap.size + 1) (by omega) 1 _).set_other (b := w.heap.size + 1) (by omega) 2 _).set_other (b := w.heap.size + 1) (by omega) 3 _)
  · exact ((((HB.out).setCell (p := ⟨w.heap.size + 1, 0, none⟩) (.inr (by simp)) _).setCell (p := ⟨w.heap.size + 1, 1, none⟩) (.inr (by simp)) _).setCell (p := ⟨w.heap.size + 1, 2, none⟩) (.inr (by simp)) _).setCell (p := ⟨w.heap.size + 1, 3, none⟩) (.inr (by simp)) _
theorem catch_tryD_throw (g : FuncId) (cap : Array Value) (w w3 : World) (rb q : Nat) (l : List UInt8) (c : Int) (hrb : rb < w.heap.size) (hcf : ∀ W : World, (callFunc g cap).run Try.prog W = .ok (.enter g cap) W)
    (hcall : ∀ W : World, Below w.heap.size w W → Calls Try.prog g cap W fun e w1 => e = .panicked (fault c) ∧ RD w1 rb l q ∧ Bx [rb] W.heap.size W w1)
    (hs : w3.heap.size = w.heap.size + 3) (hb : Below w.heap.size w w3) (hf : w3.cell? ⟨w.heap.size, 0, none⟩ = some (.func (.func g) #[] cap)) (h1 : Own w3 (w.heap.size + 1) [.int .u32 0, .int .i64 0, .int .i64 0, .bool false]) (h4 : Own w3 (w.heap.size + 2) [.int .u32 0, .int .i64 0, .int .i64 0, .bool false]) :
    Calls Try.prog 23 #[.func (.func 24) #[] #[.pointer (some ⟨w.heap.size, 0, none⟩), .pointer (some ⟨w.heap.size + 2, 0, none⟩)]] w3 fun e w' => e = .returned (.int .i64 c) ∧ RD w' rb l q ∧ Bx [rb] w.heap.size w w' ∧ Own w' (w.heap.size + 1) [.int .u32 0, .int .i64 0, .int .i64 0, .bool false] ∧ Own w' (w.heap.size + 2) [.int .u32 0, .int .i64 0, .int .i64 0, .bool false] ∧ w.heap.size + 2 < w'.heap.size := by
  have hba : Below w3.heap.size w3 (w3.alloc (.cells #[.int .i64 0] 27)) := (Below.refl _ _).alloc (Nat.le_refl _) _
  have hfc := (hba.cell (p := ⟨w.heap.size, 0, none⟩) (by show w.heap.size < _; omega)).trans hf
  have hoc := h4.below hba (by omega)
  have h1c := h1.below hba (by omega)
  have hbc := hb.trans (hba.mono (by omega))
  have hsa : (w3.alloc (.cells #[.int .i64 0] 27)).heap.size = w.heap.size + 4 := by simp [hs]
  have he0 := Own.new_at w3 [.int .i64 0] 27 (w.heap.size + 3) hs.symm
  have key := try1D_throw w.heap.size (w.heap.size + 2) rb q l g cap _ c hfc hcf (hcall _ hbc)
  refine (catch_any 24 _ w3 _ (fun W => cf_try1D _ W) key ?_).mono ?_
  · rintro e w4 ⟨rfl, h2, h3⟩
    have hO := he0.bx h3 (by omega) (by simp; omega)
    refine ⟨?_, ?_, ?_, .inr ⟨c, rfl⟩⟩
    · rw [hs]; exact hO.1 0 _ rfl
    · rw [hs]; exact hO.2 0
    · have := h3.size; omega
  · rintro e w5 ⟨e1, w4, ⟨rfl, h2, h3⟩, hg, he⟩
    have hg' : Bx [w.heap.size + 3] w4.heap.size w4 w5 := by rw [hs] at hg; exact Bx.of_gr hg
    have hz := h3.size
    refine ⟨?_, h2.bx hg' (by omega) (by simp; omega), ?_, ?_, ?_, by have := hg'.size; omega⟩
    · rcases he with ⟨hx, rfl⟩ | ⟨c', hx, rfl⟩
      · cases hx
      · rw [fault_inj' (Ending.panicked.inj hx)]
    · refine (Bx.of_below hbc : Bx [rb] w.heap.size w _).trans (((h3.mono (B' := w.heap.size) (by omega)).weak (by intro k hk hm; simp at hm ⊢; omega)).trans ((hg'.mono (by omega)).weak (by intro k hk hm; simp at hm; omega)))
    · exact (h1c.bx h3 (by omega) (by simp; omega)).bx hg' (by omega) (by simp)
    · exact (hoc.bx h3 (by omega) (by simp; omega)).bx hg' (by omega) (by simp)
set_option maxHeartbeats 1000000 in
theorem tryD_throw (g : FuncId) (cap : Array Value) (w : World) (rb q : Nat) (l : List UInt8) (c : Int) (hrb : rb < w.heap.size) (hcf : ∀ W : World, (callFunc g cap).run Try.prog W = .ok (.enter g cap) W)
    (hcall : ∀ W : World, Below w.heap.size w W → Calls Try.prog g cap W fun e w1 => e = .panicked (fault c) ∧ RD w1 rb l q ∧ Bx [rb] W.heap.size W w1) :
    Calls Try.prog 13 #[.func (.func g) #[] cap] w fun e w' => e = .returned (.tuple #[.agg #[.int .u32 0, .int .i64 0, .int .i64 0, .bool false], .int .i64 c]) ∧ RD w' rb l q ∧ Bx [rb] w.heap.size w w' := by
  have hmf : ∀ (fn : Fn) (first cap : Array Value) (w : World), (Instr.makeFunc fn first cap).run Try.prog w = .ok (.func fn first cap) w := fun _ _ _ _ => rfl
  have HK := Lib.hid (fun w3 => catch_tryD_throw g cap w w3 rb q l c hrb hcf hcall)
  have HO1 := Lib.hid ((Own.new_at (w.alloc (.cells #[.func (.func g) #[] cap] 43)) [.int .u32 0, .int .i64 0, .int .i64 0, .bool false] 24 (w.heap.size + 1) (by simp)).below ((Below.refl _ _).alloc (Nat.le_refl _) (.cells #[.int .u32 0, .int .i64 0, .int .i64 0, .bool false] 24)) (by simp))
  have HO4 := Lib.hid (Own.new_at ((w.alloc (.cells #[.func (.func g) #[] cap] 43)).alloc (.cells #[.int .u32 0, .int .i64 0, .int .i64 0, .bool false] 24)) [.int .u32 0, .int .i64 0, .int .i64 0, .bool false] 24 (w.heap.size + 2) (by simp))
  have HF : Hid ((((w.alloc (.cells #[.func (.func g) #[] cap] 43)).alloc (.cells #[.int .u32 0, .int .i64 0, .int .i64 0, .bool false] 24)).alloc (.cells #[.int .u32 0, .int .i64 0, .int .i64 0, .bool false] 24)).cell? ⟨w.heap.size, 0, none⟩ = some (.func (.func g) #[] cap)) := by
    show _ = _
    rw [World.cell?_alloc_past _ _ _ (by simp; omega), World.cell?_alloc_past _ _ _ (by simp), World.cell?_alloc_at _ _ _ _ rfl]; rfl
  have HB0 : Hid (Below w.heap.size w (((w.alloc (.cells #[.func (.func g) #[] cap] 43)).alloc (.cells #[.int .u32 0, .int .i64 0, .int .i64 0, .bool false] 24)).alloc (.cells #[.int .u32 0, .int .i64 0, .int .i64 0, .bool false] 24))) := (((Below.refl _ _).alloc (Nat.le_refl _) _).alloc (by simp) _).alloc (by simp; omega) _
  have HS : Hid ((((w.alloc (.cells #[.func (.func g) #[] cap] 43)).alloc (.cells #[.int .u32 0, .int .i64 0, .int .i64 0, .bool false] 24)).alloc (.cells #[.int .u32 0, .int .i64 0, .int .i64 0, .bool false] 24)).heap.size = w.heap.size + 3) := Lib.hid (by simp)
  clear hcall hcf
  go_enter Try.func13, Try.ntmps13
  go_wp2_with fail
  refine (HK.out _ HS.out HB0.out HF.out HO1.out HO4.out).mono ?_
  rintro e w5 ⟨rfl, hd, hb, ho1, ho4, hlt⟩
  have HD := Lib.hid hd
  have HB := Lib.hid hb
  have HO1 := Lib.hid ho1
  have HO4 := Lib.hid ho4
  clear hd hb ho1 ho4 hmf
  have y0 := HO4.out.1 0 _ rfl
  have z0 := HO1.out.1 0 _ rfl
  have y1 := HO4.out.1 1 _ rfl
  have z1 := HO1.out.1 1 _ rfl
  have y2 := HO4.out.1 2 _ rfl
  have z2 := HO1.out.1 2 _ rfl
  have y3 := HO4.out.1 3 _ rfl
  have z3 := HO1.out.1 3 _ rfl
  have hg := HO1.out.2
  go_wp2
  refine bodyPost_ret (v := .tuple #[.agg #[.int .u32 0, .int .i64 0, .int .i64 0, .bool false], .int .i64 c]) (by simp [results, Try.results13, go_sem, z0, z1, z2, z3]) rfl ⟨rfl, ?_, ?_⟩
  · exact ((((HD.out.set_other (b := w.heap.size + 1) (by omega) 0 _).set_other (b := w.heap.size + 1) (by omega) 1 _).set_other (b := w.heap.size + 1) (by omega) 2 _).set_other (b := w.heap.size + 1) (by omega) 3 _)
  · exact ((((HB.out).setCell (p := ⟨w.heap.size + 1, 0, none⟩) (.inr (by simp)) _).setCell (p := ⟨w.heap.size + 1, 1, none⟩) (.inr (by simp)) _).setCell (p := ⟨w.heap.size + 1, 2, none⟩) (.inr (by simp)) _).setCell (p := ⟨w.heap.size + 1, 3, none⟩) (.inr (by simp)) _
end Go.Proofs.Ytodjoccdjmmilaa
