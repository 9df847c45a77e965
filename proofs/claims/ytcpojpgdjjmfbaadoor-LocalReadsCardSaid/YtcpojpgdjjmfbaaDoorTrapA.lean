/- Contracts of package trap's Throw, Catch, Check, over the seat's program. -/
import Derived.Test.YtcpojpgdjjmfbaaDoorRows
import Derived.WalkKit
import Derived.WalkSpells
import Derived.WalkLawsBesides
import Derived.Defers
import Derived.Recover
import Derived.Laws.EntriesVeiled
import Derived.Lib.Hide
namespace Go.Proofs.YtcpojpgdjjmfbaaDoor
set_option linter.unusedVariables false
set_option linter.unusedSimpArgs false
open Go.RowKit
/-- The panic entry of a Fault that was thrown. -/
def fault (c : Int) : List PanicEntry := [{ v := .iface 86 (.agg #[.int .i64 c]), recovered := false }]
theorem throw_any (c : Int) (w : World) :
    Calls Tryd.prog 61 #[.int .i64 c] w fun e w' => e = .panicked (fault c) ∧ w = w' := by
  go_enter Tryd.func61, Tryd.ntmps61
  go_wp2
  exact ⟨rfl, rfl, rfl⟩
theorem assert_fault (c : Int) (w : World) : (Instr.typeAssert (.iface 86 (.agg #[.int .i64 c])) 20 86 true).run Tryd.prog w = .ok (.tuple #[.agg #[.int .i64 c], .bool true]) w := by kernel_rfl
theorem frozen_alloc_old {w : World} {p : Addr} (hz : w.frozen? p = false) (hp : p.block < w.heap.size) (o : Obj) : (w.alloc o).frozen? p = false := by
  rw [((Below.refl w.heap.size w).alloc (Nat.le_refl _) o).frozen hp]; exact hz
theorem cell_alloc_old {w : World} {p : Addr} {v : Value} (hz : w.cell? p = some v) (hp : p.block < w.heap.size) (o : Obj) : (w.alloc o).cell? p = some v := by
  rw [((Below.refl w.heap.size w).alloc (Nat.le_refl _) o).cell hp]; exact hz
theorem only_refl (w : World) (row : Option Nat) : w.grownBy w row := ⟨rfl, rfl, rfl, Nat.le_refl _, fun _ _ _ => rfl⟩
theorem only_alloc {a w : World} {row : Option Nat} (h : a.grownBy w row) (o : Obj) : a.grownBy (w.alloc o) row :=
  ⟨h.os, h.tape, h.output, Nat.le_trans h.size (by simp), fun i hi hne => (Below.heap_alloc w o i (Nat.lt_of_lt_of_le hi h.size)).trans (h.block i hi hne)⟩
theorem only_setCell {a w : World} {g : Nat} (h : a.grownBy w (some g)) {p : Addr} (hp : p.block = g ∨ a.heap.size ≤ p.block) (u : Value) : a.grownBy (w.setCell p u) (some g) :=
  ⟨h.os, h.tape, h.output, by simpa [World.setCell] using h.size, fun i hi hne => (Below.heap_setCell w p u i (by
    rintro rfl
    rcases hp with hp | hp
    · exact hne (by rw [hp])
    · omega)).trans (h.block i hi hne)⟩
theorem gr_trans {a b c : World} {row row' : Option Nat} (h : a.grownBy b row) (k : b.grownBy c row') (hr : ∀ i, row' = some i → row = some i ∨ a.heap.size ≤ i) : a.grownBy c row :=
  ⟨k.os.trans h.os, k.tape.trans h.tape, k.output.trans h.output, Nat.le_trans h.size k.size, fun i hi hne => (k.block i (Nat.lt_of_lt_of_le hi h.size) (fun e => by
    rcases hr i e.symm with h1 | h1
    · exact hne h1.symm
    · omega)).trans (h.block i hi hne)⟩
theorem gr_cell {a b : World} {row : Option Nat} (h : a.grownBy b row) {p : Addr} (hp : p.block < a.heap.size) (hne : some p.block ≠ row) : b.cell? p = a.cell? p := World.cell?_of_block (h.block p.block hp hne)
theorem gr_frozen {a b : World} {row : Option Nat} (h : a.grownBy b row) {p : Addr} (hp : p.block < a.heap.size) (hne : some p.block ≠ row) : b.frozen? p = a.frozen? p := World.frozen?_of_block (h.block p.block hp hne)
theorem gr_below {a b : World} {row : Option Nat} (h : a.grownBy b row) (B : Nat) (hB : B ≤ a.heap.size) (hr : ∀ i, row = some i → B ≤ i) : Below B a b :=
  ⟨h.os, h.tape, h.output, h.size, fun k hk => h.block k (by omega) (fun e => by have := hr k e.symm; omega)⟩
theorem gr_of_below {a b : World} (h : Below a.heap.size a b) (row : Option Nat) : a.grownBy b row := ⟨h.os, h.tape, h.output, h.size, fun i hi _ => h.block i hi⟩
theorem catch1_fault (p : Addr) (x c : Int) (w : World) (hc : w.cell? p = some (.int .i64 x)) (hz : w.frozen? p = false) (hp : p.block < w.heap.size) :
    CallsD Tryd.prog 56 #[.pointer (some p)] (.panicking (fault c)) w fun e u' w' =>
      e = .returned (.tuple #[]) ∧ u' = .panicking [{ v := .iface 86 (.agg #[.int .i64 c]), recovered := true }] ∧ w' = (w.alloc (.cells #[.int .i64 c] 86)).setCell p (.int .i64 c) := by
  have hta := assert_fault
  have hz2 := frozen_alloc_old hz hp
  have hc2 := cell_alloc_old hc hp
  refine callsD_of_wpS Tryd.func56 rfl fun c₀ cs hu => ?_
  unfold fault at hu
  apply wpS_seq
  apply wpS_region
  simp [wpOpsS, go_sem, recoverD, hu, Tryd.ntmps56, Exit.thenS]
  refine wpS_of_wp ?_
  simp only [Array.replicate_succ, Array.replicate_zero, List.push_toArray, List.append_toArray, List.nil_append, List.cons_append, List.setIfInBounds_toArray, List.set_cons_succ, List.set_cons_zero]
  go_wp2
  exact ⟨rfl, _, rfl, _, by simp [results, Tryd.results56], rfl, rfl, rfl⟩
theorem catch1_idle (p : Addr) (w : World) :
    CallsD Tryd.prog 56 #[.pointer (some p)] .returning w fun e u' w' =>
      e = .returned (.tuple #[]) ∧ u' = .returning ∧ w' = w := by
  refine callsD_of_wpS Tryd.func56 rfl fun c₀ cs hu => ?_
  apply wpS_seq
  apply wpS_region
  simp [wpOpsS, go_sem, recoverD, hu, Tryd.ntmps56, Exit.thenS]
  refine wpS_of_wp ?_
  simp only [Array.replicate_succ, Array.replicate_zero, List.push_toArray, List.append_toArray, List.nil_append, List.cons_append, List.setIfInBounds_toArray, List.set_cons_succ, List.set_cons_zero]
  go_wp2
  refine ⟨rfl, .returning, ?_, _, by simp [results, Tryd.results56], rfl, rfl, rfl⟩
  cases c₀; simp_all
theorem catch_any (g : FuncId) (cap : Array Value) (w : World) (R : Ending → World → Prop)
    (hcf : ∀ W : World, (callFunc g cap).run Tryd.prog W = .ok (.enter g cap) W)
    (hcall : Calls Tryd.prog g cap (w.alloc (.cells #[.int .i64 0] 32)) R)
    (hR : ∀ e w1, R e w1 → w1.cell? ⟨w.heap.size, 0, none⟩ = some (.int .i64 0) ∧ w1.frozen? ⟨w.heap.size, 0, none⟩ = false ∧ w.heap.size < w1.heap.size ∧ (e = .returned (.tuple #[]) ∨ ∃ c, e = .panicked (fault c))) :
    Calls Tryd.prog 38 #[.func (.func g) #[] cap] w fun e w' => ∃ e1 w1, R e1 w1 ∧ w1.grownBy w' (some w.heap.size) ∧
      ((e1 = .returned (.tuple #[]) ∧ e = .returned (.int .i64 0)) ∨ ∃ c, e1 = .panicked (fault c) ∧ e = .returned (.int .i64 c)) := by
  have hmf : ∀ (fn : Fn) (first cap : Array Value) (w : World), (Instr.makeFunc fn first cap).run Tryd.prog w = .ok (.func fn first cap) w := fun _ _ _ _ => rfl
  have HC := Lib.hid hcall
  have HR := Lib.hid hR
  clear hcall hR
  go_enter_defers Tryd.func38, Tryd.ntmps38
  go_wp2_with fail
  refine HC.out.mono fun e w1 hr => ?_
  obtain ⟨h1, h2, h3, h4⟩ := HR.out e w1 hr
  rcases h4 with rfl | ⟨c, rfl⟩
  · simp only
    go_wp2
    refine leaves_cons (f := 56) (args := #[.pointer (some ⟨w.heap.size, 0, none⟩)]) (by simp) (by simp [go_sem]) ?_
    refine (catch1_idle _ _).mono ?_
    rintro e u' w'' ⟨rfl, rfl, rfl⟩
    refine ⟨.int .i64 0, by simp [results, Tryd.results38, go_sem, h1], _, _, hr, ?_, .inl ⟨rfl, rfl⟩⟩
    exact only_setCell (only_refl _ _) (.inl rfl) _
  · simp only
    go_wp2
    refine leaves_cons (f := 56) (args := #[.pointer (some ⟨w.heap.size, 0, none⟩)]) (by simp) (by simp [go_sem]) ?_
    refine (catch1_fault _ _ _ _ h1 h2 h3).mono ?_
    rintro e u' w'' ⟨rfl, rfl, rfl⟩
    have h1' := cell_alloc_old h1 h3 (.cells #[.int .i64 c] 86)
    refine ⟨.int .i64 c, by simp [results, Tryd.results38, go_sem, h1'], _, _, hr, ?_, .inr ⟨c, rfl, rfl⟩⟩
    exact only_setCell (only_alloc (only_refl _ _) _) (.inl rfl) _
theorem cf (cap : Array Value) (w : World) : (callFunc 56 cap).run Tryd.prog w = .ok (.enter 56 cap) w := by kernel_rfl
end Go.Proofs.YtcpojpgdjjmfbaaDoor
