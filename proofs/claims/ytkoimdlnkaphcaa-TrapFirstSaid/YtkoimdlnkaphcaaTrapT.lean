/- Contracts of trap.Try at int and at uint64. -/
import Derived.Test.YtkoimdlnkaphcaaTrapA
namespace Go.Proofs.Ytkoimdlnkaphcaa
open Go.RowKit
theorem fault_inj {a b : Int} (h : fault a = fault b) : a = b := by
  simp [fault] at h; exact h
theorem try1_int (pf pv : Addr) (g : FuncId) (cap : Array Value) (x : Value) (W : World) (R : Ending → World → Prop) (hf : W.cell? pf = some (.func (.func g) #[] cap)) (hcf : ∀ W : World, (callFunc g cap).run Try.prog W = .ok (.enter g cap) W)
    (h : Calls Try.prog g cap W R) (hR : ∀ e w1, R e w1 → w1.cell? pv = some x ∧ w1.frozen? pv = false ∧ ((∃ y, e = .returned (.int .i64 y)) ∨ ∃ c, e = .panicked (fault c))) :
    Calls Try.prog 32 #[.pointer (some pf), .pointer (some pv)] W fun e w' => ∃ e1 w1, R e1 w1 ∧ ((∃ y, e1 = .returned (.int .i64 y) ∧ e = .returned (.tuple #[]) ∧ w' = w1.setCell pv (.int .i64 y)) ∨ ∃ c, e1 = .panicked (fault c) ∧ e = .panicked (fault c) ∧ w' = w1) := by
  have H := Lib.hid h
  have HR := Lib.hid hR
  clear h hR
  go_enter Try.func32, Try.ntmps32
  go_wp2_with fail
  refine H.out.mono fun e w1 hr => ?_
  obtain ⟨h1, h2, h3⟩ := HR.out e w1 hr
  rcases h3 with ⟨y, rfl⟩ | ⟨c, rfl⟩
  · simp only
    go_wp2
    go_end0
    exact ⟨_, _, hr, .inl ⟨y, rfl, rfl, rfl⟩⟩
  · simp only
    go_wp2
    exact ⟨rfl, _, _, hr, .inr ⟨c, rfl, rfl, rfl⟩⟩
theorem cf_try1_int (cap : Array Value) (w : World) : (callFunc 32 cap).run Try.prog w = .ok (.enter 32 cap) w := by kernel_rfl
/-- The world in which Try calls its function. -/
def tryW_int (g : FuncId) (cap : Array Value) (w : World) : World := ((w.alloc (.cells #[.func (.func g) #[] cap] 33)).alloc (.cells #[.int .i64 0] 3)).alloc (.cells #[.int .i64 0] 27)
theorem tryW_int_below (g : FuncId) (cap : Array Value) (w : World) : Below w.heap.size w (tryW_int g cap w) := (((Below.refl _ _).alloc (Nat.le_refl _) _).alloc (by simp) _).alloc (by simp; omega) _
theorem tryW_int_size (g : FuncId) (cap : Array Value) (w : World) : (tryW_int g cap w).heap.size = w.heap.size + 3 := by simp [tryW_int]
set_option maxHeartbeats 1000000 in
theorem try_int (g : FuncId) (cap : Array Value) (w : World) (R : Ending → World → Prop) (hcf : ∀ W : World, (callFunc g cap).run Try.prog W = .ok (.enter g cap) W)
    (h : Calls Try.prog g cap (tryW_int g cap w) R) (hR : ∀ e w1, R e w1 → (∃ row, (∀ k, row = some k → k < w.heap.size) ∧ (tryW_int g cap w).grownBy w1 row) ∧ ((∃ y, e = .returned (.int .i64 y)) ∨ ∃ c, e = .panicked (fault c))) :
    Calls Try.prog 13 #[.func (.func g) #[] cap] w fun e w' => ∃ e1 w1, R e1 w1 ∧ Below w.heap.size w1 w' ∧ ((∃ y, e1 = .returned (.int .i64 y) ∧ e = .returned (.tuple #[.int .i64 y, .int .i64 0])) ∨ ∃ c, e1 = .panicked (fault c) ∧ e = .returned (.tuple #[.int .i64 0, .int .i64 c])) := by
  have hmf : ∀ (fn : Fn) (first cap : Array Value) (w : World), (Instr.makeFunc fn first cap).run Try.prog w = .ok (.func fn first cap) w := fun _ _ _ _ => rfl
  have hfree : ∀ e w1, R e w1 → w1.cell? ⟨w.heap.size + 1, 0, none⟩ = some (.int .i64 0) ∧ w1.frozen? ⟨w.heap.size + 1, 0, none⟩ = false ∧ w1.cell? ⟨w.heap.size + 2, 0, none⟩ = some (.int .i64 0) ∧ w1.frozen? ⟨w.heap.size + 2, 0, none⟩ = false ∧ w.heap.size + 3 ≤ w1.heap.size := by
    intro e w1 hr
    obtain ⟨⟨row, hrow, hg⟩, _⟩ := hR e w1 hr
    have hs := hg.size
    rw [tryW_int_size] at hs
    have ne1 : some (w.heap.size + 1) ≠ row := fun e => by have := hrow _ e.symm; omega
    have ne2 : some (w.heap.size + 2) ≠ row := fun e => by have := hrow _ e.symm; omega
    refine ⟨?_, ?_, ?_, ?_, hs⟩
    · rw [gr_cell hg (p := ⟨w.heap.size + 1, 0, none⟩) (by rw [tryW_int_size]; show w.heap.size + 1 < _; omega) ne1]; unfold tryW_int; simp [go_sem]
    · rw [gr_frozen hg (p := ⟨w.heap.size + 1, 0, none⟩) (by rw [tryW_int_size]; show w.heap.size + 1 < _; omega) ne1]; unfold tryW_int; simp [go_sem]
    · rw [gr_cell hg (p := ⟨w.heap.size + 2, 0, none⟩) (by rw [tryW_int_size]; show w.heap.size + 2 < _; omega) ne2]; unfold tryW_int; simp [go_sem]
    · rw [gr_frozen hg (p := ⟨w.heap.size + 2, 0, none⟩) (by rw [tryW_int_size]; show w.heap.size + 2 < _; omega) ne2]; unfold tryW_int; simp [go_sem]
  have hpf : (tryW_int g cap w).cell? ⟨w.heap.size, 0, none⟩ = some (.func (.func g) #[] cap) := by unfold tryW_int; simp [go_sem]
  have hc1 := try1_int ⟨w.heap.size, 0, none⟩ ⟨w.heap.size + 1, 0, none⟩ g cap (.int .i64 0) (tryW_int g cap w) R hpf hcf h (fun e w1 hr => ⟨(hfree e w1 hr).1, (hfree e w1 hr).2.1, (hR e w1 hr).2⟩)
  have hc2 := catch_any 32 #[.pointer (some ⟨w.heap.size, 0, none⟩), .pointer (some ⟨w.heap.size + 1, 0, none⟩)] ((w.alloc (.cells #[.func (.func g) #[] cap] 33)).alloc (.cells #[.int .i64 0] 3)) _ (fun W => cf_try1_int _ W) hc1 (by
    have e2 : ((w.alloc (.cells #[.func (.func g) #[] cap] 33)).alloc (.cells #[.int .i64 0] 3)).heap.size = w.heap.size + 2 := by simp
    rw [e2]
    rintro e w' ⟨e1, w1, hr, h2⟩
    obtain ⟨f1, f2, f3, f4, f5⟩ := hfree e1 w1 hr
    rcases h2 with ⟨y, rfl, rfl, rfl⟩ | ⟨c, rfl, rfl, rfl⟩
    · refine ⟨?_, by simpa using f4, by simp [World.setCell]; omega, .inl rfl⟩
      rw [World.cell?_setCell_other _ _ _ _ (by simp)]; exact f3
    · exact ⟨f3, f4, by omega, .inr ⟨c, rfl⟩⟩)
  have HC := Lib.hid hc2
  have HF := Lib.hid hfree
  clear hc2 hc1 hpf hfree hR h
  go_enter Try.func13, Try.ntmps13
  go_wp2_with fail
  refine HC.out.mono ?_
  rintro e w' ⟨e2, w2, ⟨e1, w1, hr, h2⟩, hg, h3⟩
  have e2 : ((w.alloc (.cells #[.func (.func g) #[] cap] 33)).alloc (.cells #[.int .i64 0] 3)).heap.size = w.heap.size + 2 := by simp
  rw [e2] at hg
  clear e2
  obtain ⟨f1, f2, f3, f4, f5⟩ := HF.out e1 w1 hr
  rcases h2 with ⟨y, rfl, rfl, rfl⟩ | ⟨c, rfl, rfl, rfl⟩
  · rcases h3 with ⟨_, rfl⟩ | ⟨c, hc, _⟩
    · have hv : w'.cell? ⟨w.heap.size + 1, 0, none⟩ = some (.int .i64 y) := by
        rw [gr_cell hg (p := ⟨w.heap.size + 1, 0, none⟩) (by simp [World.setCell]; omega) (by simp)]
        exact World.cell?_setCell_same _ _ _ f1
      have hfin : Below w.heap.size w1 w' := ((Below.refl w.heap.size w1).setCell (p := ⟨w.heap.size + 1, 0, none⟩) (by simp) (.int .i64 y)).trans (gr_below hg _ (by simp [World.setCell]; omega) (by simp))
      have HFIN := Lib.hid hfin
      clear f1 f2 f3 f4 hg hfin
      go_wp2
      go_ret2
      exact ⟨_, _, hr, HFIN.out, .inl ⟨y, rfl, rfl⟩⟩
    · cases hc
  · rcases h3 with ⟨hc, _⟩ | ⟨c', hc, rfl⟩
    · cases hc
    · obtain rfl := fault_inj (Ending.panicked.inj hc)
      have hv : w'.cell? ⟨w.heap.size + 1, 0, none⟩ = some (.int .i64 0) := by
        rw [gr_cell hg (p := ⟨w.heap.size + 1, 0, none⟩) (by show w.heap.size + 1 < _; omega) (by simp)]; exact f1
      have hfin := gr_below hg w.heap.size (by omega) (by simp)
      have HFIN := Lib.hid hfin
      clear f1 f2 f3 f4 hg hfin
      go_wp2
      go_ret2
      exact ⟨_, _, hr, HFIN.out, .inr ⟨c, rfl, rfl⟩⟩

theorem try1_u64 (pf pv : Addr) (g : FuncId) (cap : Array Value) (x : Value) (W : World) (R : Ending → World → Prop) (hf : W.cell? pf = some (.func (.func g) #[] cap)) (hcf : ∀ W : World, (callFunc g cap).run Try.prog W = .ok (.enter g cap) W)
    (h : Calls Try.prog g cap W R) (hR : ∀ e w1, R e w1 → w1.cell? pv = some x ∧ w1.frozen? pv = false ∧ ((∃ y, e = .returned (.int .u64 y)) ∨ ∃ c, e = .panicked (fault c))) :
    Calls Try.prog 35 #[.pointer (some pf), .pointer (some pv)] W fun e w' => ∃ e1 w1, R e1 w1 ∧ ((∃ y, e1 = .returned (.int .u64 y) ∧ e = .returned (.tuple #[]) ∧ w' = w1.setCell pv (.int .u64 y)) ∨ ∃ c, e1 = .panicked (fault c) ∧ e = .panicked (fault c) ∧ w' = w1) := by
  have H := Lib.hid h
  have HR := Lib.hid hR
  clear h hR
  go_enter Try.func35, Try.ntmps35
  go_wp2_with fail
  refine H.out.mono fun e w1 hr => ?_
  obtain ⟨h1, h2, h3⟩ := HR.out e w1 hr
  rcases h3 with ⟨y, rfl⟩ | ⟨c, rfl⟩
  · simp only
    go_wp2
    go_end0
    exact ⟨_, _, hr, .inl ⟨y, rfl, rfl, rfl⟩⟩
  · simp only
    go_wp2
    exact ⟨rfl, _, _, hr, .inr ⟨c, rfl, rfl, rfl⟩⟩
theorem cf_try1_u64 (cap : Array Value) (w : World) : (callFunc 35 cap).run Try.prog w = .ok (.enter 35 cap) w := by kernel_rfl
/-- The world in which Try calls its function. -/
def tryW_u64 (g : FuncId) (cap : Array Value) (w : World) : World := ((w.alloc (.cells #[.func (.func g) #[] cap] 47)).alloc (.cells #[.int .u64 0] 43)).alloc (.cells #[.int .i64 0] 27)
theorem tryW_u64_below (g : FuncId) (cap : Array Value) (w : World) : Below w.heap.size w (tryW_u64 g cap w) := (((Below.refl _ _).alloc (Nat.le_refl _) _).alloc (by simp) _).alloc (by simp; omega) _
theorem tryW_u64_size (g : FuncId) (cap : Array Value) (w : World) : (tryW_u64 g cap w).heap.size = w.heap.size + 3 := by simp [tryW_u64]
set_option maxHeartbeats 1000000 in
theorem try_u64 (g : FuncId) (cap : Array Value) (w : World) (R : Ending → World → Prop) (hcf : ∀ W : World, (callFunc g cap).run Try.prog W = .ok (.enter g cap) W)
    (h : Calls Try.prog g cap (tryW_u64 g cap w) R) (hR : ∀ e w1, R e w1 → (∃ row, (∀ k, row = some k → k < w.heap.size) ∧ (tryW_u64 g cap w).grownBy w1 row) ∧ ((∃ y, e = .returned (.int .u64 y)) ∨ ∃ c, e = .panicked (fault c))) :
    Calls Try.prog 23 #[.func (.func g) #[] cap] w fun e w' => ∃ e1 w1, R e1 w1 ∧ Below w.heap.size w1 w' ∧ ((∃ y, e1 = .returned (.int .u64 y) ∧ e = .returned (.tuple #[.int .u64 y, .int .i64 0])) ∨ ∃ c, e1 = .panicked (fault c) ∧ e = .returned (.tuple #[.int .u64 0, .int .i64 c])) := by
  have hmf : ∀ (fn : Fn) (first cap : Array Value) (w : World), (Instr.makeFunc fn first cap).run Try.prog w = .ok (.func fn first cap) w := fun _ _ _ _ => rfl
  have hfree : ∀ e w1, R e w1 → w1.cell? ⟨w.heap.size + 1, 0, none⟩ = some (.int .u64 0) ∧ w1.frozen? ⟨w.heap.size + 1, 0, none⟩ = false ∧ w1.cell? ⟨w.heap.size + 2, 0, none⟩ = some (.int .i64 0) ∧ w1.frozen? ⟨w.heap.size + 2, 0, none⟩ = false ∧ w.heap.size + 3 ≤ w1.heap.size := by
    intro e w1 hr
    obtain ⟨⟨row, hrow, hg⟩, _⟩ := hR e w1 hr
    have hs := hg.size
    rw [tryW_u64_size] at hs
    have ne1 : some (w.heap.size + 1) ≠ row := fun e => by have := hrow _ e.symm; omega
    have ne2 : some (w.heap.size + 2) ≠ row := fun e => by have := hrow _ e.symm; omega
    refine ⟨?_, ?_, ?_, ?_, hs⟩
    · rw [gr_cell hg (p := ⟨w.heap.size + 1, 0, none⟩) (by rw [tryW_u64_size]; show w.heap.size + 1 < _; omega) ne1]; unfold tryW_u64; simp [go_sem]
    · rw [gr_frozen hg (p := ⟨w.heap.size + 1, 0, none⟩) (by rw [tryW_u64_size]; show w.heap.size + 1 < _; omega) ne1]; unfold tryW_u64; simp [go_sem]
    · rw [gr_cell hg (p := ⟨w.heap.size + 2, 0, none⟩) (by rw [tryW_u64_size]; show w.heap.size + 2 < _; omega) ne2]; unfold tryW_u64; simp [go_sem]
    · rw [gr_frozen hg (p := ⟨w.heap.size + 2, 0, none⟩) (by rw [tryW_u64_size]; show w.heap.size + 2 < _; omega) ne2]; unfold tryW_u64; simp [go_sem]
  have hpf : (tryW_u64 g cap w).cell? ⟨w.heap.size, 0, none⟩ = some (.func (.func g) #[] cap) := by unfold tryW_u64; simp [go_sem]
  have hc1 := try1_u64 ⟨w.heap.size, 0, none⟩ ⟨w.heap.size + 1, 0, none⟩ g cap (.int .u64 0) (tryW_u64 g cap w) R hpf hcf h (fun e w1 hr => ⟨(hfree e w1 hr).1, (hfree e w1 hr).2.1, (hR e w1 hr).2⟩)
  have hc2 := catch_any 35 #[.pointer (some ⟨w.heap.size, 0, none⟩), .pointer (some ⟨w.heap.size + 1, 0, none⟩)] ((w.alloc (.cells #[.func (.func g) #[] cap] 47)).alloc (.cells #[.int .u64 0] 43)) _ (fun W => cf_try1_u64 _ W) hc1 (by
    have e2 : ((w.alloc (.cells #[.func (.func g) #[] cap] 47)).alloc (.cells #[.int .u64 0] 43)).heap.size = w.heap.size + 2 := by simp
    rw [e2]
    rintro e w' ⟨e1, w1, hr, h2⟩
    obtain ⟨f1, f2, f3, f4, f5⟩ := hfree e1 w1 hr
    rcases h2 with ⟨y, rfl, rfl, rfl⟩ | ⟨c, rfl, rfl, rfl⟩
    · refine ⟨?_, by simpa using f4, by simp [World.setCell]; omega, .inl rfl⟩
      rw [World.cell?_setCell_other _ _ _ _ (by simp)]; exact f3
    · exact ⟨f3, f4, by omega, .inr ⟨c, rfl⟩⟩)
  have HC := Lib.hid hc2
  have HF := Lib.hid hfree
  clear hc2 hc1 hpf hfree hR h
  go_enter Try.func23, Try.ntmps23
  go_wp2_with fail
  refine HC.out.mono ?_
  rintro e w' ⟨e2, w2, ⟨e1, w1, hr, h2⟩, hg, h3⟩
  have e2 : ((w.alloc (.cells #[.func (.func g) #[] cap] 47)).alloc (.cells #[.int .u64 0] 43)).heap.size = w.heap.size + 2 := by simp
  rw [e2] at hg
  clear e2
  obtain ⟨f1, f2, f3, f4, f5⟩ := HF.out e1 w1 hr
  rcases h2 with ⟨y, rfl, rfl, rfl⟩ | ⟨c, rfl, rfl, rfl⟩
  · rcases h3 with ⟨_, rfl⟩ | ⟨c, hc, _⟩
    · have hv : w'.cell? ⟨w.heap.size + 1, 0, none⟩ = some (.int .u64 y) := by
        rw [gr_cell hg (p := ⟨w.heap.size + 1, 0, none⟩) (by simp [World.setCell]; omega) (by simp)]
        exact World.cell?_setCell_same _ _ _ f1
      have hfin : Below w.heap.size w1 w' := ((Below.refl w.heap.size w1).setCell (p := ⟨w.heap.size + 1, 0, none⟩) (by simp) (.int .u64 y)).trans (gr_below hg _ (by simp [World.setCell]; omega) (by simp))
      have HFIN := Lib.hid hfin
      clear f1 f2 f3 f4 hg hfin
      go_wp2
      go_ret2
      exact ⟨_, _, hr, HFIN.out, .inl ⟨y, rfl, rfl⟩⟩
    · cases hc
  · rcases h3 with ⟨hc, _⟩ | ⟨c', hc, rfl⟩
    · cases hc
    · obtain rfl := fault_inj (Ending.panicked.inj hc)
      have hv : w'.cell? ⟨w.heap.size + 1, 0, none⟩ = some (.int .u64 0) := by
        rw [gr_cell hg (p := ⟨w.heap.size + 1, 0, none⟩) (by show w.heap.size + 1 < _; omega) (by simp)]; exact f1
      have hfin := gr_below hg w.heap.size (by omega) (by simp)
      have HFIN := Lib.hid hfin
      clear f1 f2 f3 f4 hg hfin
      go_wp2
      go_ret2
      exact ⟨_, _, hr, HFIN.out, .inr ⟨c, rfl, rfl⟩⟩
end Go.Proofs.Ytkoimdlnkaphcaa
