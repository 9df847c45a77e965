/- The walk of TrapAlways. -/
import Derived.Test.YtkoimdlnkaphcaaTrapF
namespace Go.Proofs.Ytkoimdlnkaphcaa
open Go.RowKit Plain
theorem always1_any (p : Addr) (g : FuncId) (cap : Array Value) (W : World) (R : World → Prop) (u : FrameMode) (hp : W.cell? p = some (.func (.func g) #[] cap)) (hcf : ∀ W : World, (callFunc g cap).run Try.prog W = .ok (.enter g cap) W)
    (h : Calls Try.prog g cap W (fun e w' => e = .returned (.tuple #[]) ∧ R w')) :
    CallsD Try.prog 33 #[.pointer (some p)] u W fun e u' w' => u' = u ∧ (e = .returned (.tuple #[]) ∧ R w') := by
  have H := Lib.hid h
  clear h
  go_enter_d Try.func33, Try.ntmps33
  go_wp2_with fail
  refine H.out.mono ?_
  rintro e w' ⟨rfl, hr⟩
  simp only
  go_wp2
  go_end0
  exact ⟨rfl, hr⟩
theorem always_any (g1 g2 : FuncId) (cap1 cap2 : Array Value) (w : World) (R1 : Ending → World → Prop) (R2 : World → World → Prop) (hcf1 : ∀ W : World, (callFunc g1 cap1).run Try.prog W = .ok (.enter g1 cap1) W) (hcf2 : ∀ W : World, (callFunc g2 cap2).run Try.prog W = .ok (.enter g2 cap2) W)
    (h1 : Calls Try.prog g1 cap1 (w.alloc (.cells #[.func (.func g2) #[] cap2] 1)) R1)
    (hR1 : ∀ e w1, R1 e w1 → (e = .returned (.tuple #[]) ∨ ∃ c, e = .panicked (fault c)) ∧ w1.cell? ⟨w.heap.size, 0, none⟩ = some (.func (.func g2) #[] cap2) ∧ Calls Try.prog g2 cap2 w1 (fun e w' => e = .returned (.tuple #[]) ∧ R2 w1 w')) :
    Calls Try.prog 16 #[.func (.func g1) #[] cap1, .func (.func g2) #[] cap2] w fun e w' => ∃ w1, R1 e w1 ∧ R2 w1 w' := by
  have hmf : ∀ (fn : Fn) (first cap : Array Value) (w : World), (Instr.makeFunc fn first cap).run Try.prog w = .ok (.func fn first cap) w := fun _ _ _ _ => rfl
  have H1 := Lib.hid h1
  have HR := Lib.hid hR1
  clear h1 hR1
  go_enter_defers Try.func16, Try.ntmps16
  go_wp2_with fail
  refine H1.out.mono fun e w1 hr => ?_
  obtain ⟨he, hc, h2⟩ := HR.out e w1 hr
  have H2 := Lib.hid h2
  clear h2
  rcases he with rfl | ⟨c, rfl⟩
  · simp only
    go_wp2
    refine leaves_cons (f := 33) (args := #[.pointer (some ⟨w.heap.size, 0, none⟩)]) (by simp) (by simp [go_sem]) ?_
    refine (always1_any _ _ _ _ _ _ hc hcf2 H2.out).mono ?_
    rintro e u' w'' ⟨rfl, rfl, hr2⟩
    exact ⟨.tuple #[], by simp [results, Try.results16], w1, hr, hr2⟩
  · simp only
    go_wp2
    refine leaves_cons (f := 33) (args := #[.pointer (some ⟨w.heap.size, 0, none⟩)]) (by simp) (by simp [go_sem]) ?_
    refine (always1_any _ _ _ _ _ _ hc hcf2 H2.out).mono ?_
    rintro e u' w'' ⟨rfl, rfl, hr2⟩
    exact ⟨w1, hr, hr2⟩
theorem behind_any (p q : Addr) (x y : Int) (W : World) (hp : W.cell? p = some (.int .i64 x)) (hq : W.cell? q = some (.int .i64 y)) (hz : W.frozen? q = false) :
    Calls Try.prog 18 #[.pointer (some p), .pointer (some q)] W fun e w' => e = .returned (.tuple #[]) ∧ w' = W.setCell q (.int .i64 x) := by
  go_enter Try.func18, Try.ntmps18
  go_wp2
  go_end0
  exact ⟨rfl, rfl⟩
theorem cf_always11 (cap : Array Value) (w : World) : (callFunc 17 cap).run Try.prog w = .ok (.enter 17 cap) w := by kernel_rfl
theorem cf_always12 (cap : Array Value) (w : World) : (callFunc 18 cap).run Try.prog w = .ok (.enter 18 cap) w := by kernel_rfl
theorem cf_always1 (cap : Array Value) (w : World) : (callFunc 15 cap).run Try.prog w = .ok (.enter 15 cap) w := by kernel_rfl
/-- All blocks of w but two are as they were. -/
structure Kept2 (w w' : World) (a b : Nat) : Prop where
  os : w'.os = w.os
  tape : w'.tape = w.tape
  output : w'.output = w.output
  size : w.heap.size ≤ w'.heap.size
  block : ∀ k, k < w.heap.size → k ≠ a → k ≠ b → w'.heap[k]? = w.heap[k]?
def AlwPost (w : World) (nb bb : Nat) (r : Int × Int) (e : Ending) (w' : World) : Prop :=
  e = RunEnd r ∧ w'.cell? ⟨nb, 0, none⟩ = some (.int .i64 r.1) ∧ w'.cell? ⟨bb, 0, none⟩ = some (.int .i64 r.1) ∧ Kept2 w w' nb bb
theorem alwC_any (B nb bb : Nat) (ps : Addr) (v : Value) (l : List St) (y : Int) (w : World) (hl : l.length ≤ 1000) (hg : good l) (h : Lst w B v l) (hB : B ≤ nb) (hnb : nb < w.heap.size) (hbb : bb < w.heap.size) (hne : nb ≠ bb) (hps : w.cell? ps = some v) (lps : ps.block < w.heap.size)
    (hc : w.cell? ⟨nb, 0, none⟩ = some (.int .i64 0)) (hf : w.frozen? ⟨nb, 0, none⟩ = false) (hc2 : w.cell? ⟨bb, 0, none⟩ = some (.int .i64 y)) (hf2 : w.frozen? ⟨bb, 0, none⟩ = false) :
    Calls Try.prog 15 #[.pointer (some ps), .pointer (some ⟨nb, 0, none⟩), .pointer (some ⟨bb, 0, none⟩)] w (AlwPost w nb bb (run l)) := by
  have hmf : ∀ (fn : Fn) (first cap : Array Value) (w : World), (Instr.makeFunc fn first cap).run Try.prog w = .ok (.func fn first cap) w := fun _ _ _ _ => rfl
  obtain ⟨a, cap, rfl⟩ := h.slice
  generalize hO : Obj.cells #[.func (.func 18) #[] #[.pointer (some ⟨nb, 0, none⟩), .pointer (some ⟨bb, 0, none⟩)]] 1 = O
  have hb : Below w.heap.size w (w.alloc O) := (Below.refl _ _).alloc (Nat.le_refl _) _
  have hsz : (w.alloc O).heap.size = w.heap.size + 1 := by simp
  have hrun := runC_any _ (.inr rfl) ps nb a l.length cap (w.alloc O) _ ((hb.cell lps).trans hps)
    (run_L B nb _ l 0 _ hl hg (h.below (hb.mono (by omega))) hB (by omega) (by omega) (by omega) ((hb.cell (p := ⟨nb, 0, none⟩) hnb).trans hc) ((hb.frozen (p := ⟨nb, 0, none⟩) hnb).trans hf)) runPost_ends
  have hal := always_any 17 18 #[.pointer (some ps), .pointer (some ⟨nb, 0, none⟩)] #[.pointer (some ⟨nb, 0, none⟩), .pointer (some ⟨bb, 0, none⟩)] w _ (fun w1 w' => w' = w1.setCell ⟨bb, 0, none⟩ (.int .i64 (run l).1)) (fun W => cf_always11 _ W) (fun W => cf_always12 _ W) (by rw [hO]; exact hrun) (by
    rintro e w1 ⟨rfl, h1, h2, h3⟩
    refine ⟨runPost_ends _ _ ⟨rfl, h1, h2, h3⟩, ?_, ?_⟩
    · rw [gr_cell h3 (p := ⟨w.heap.size, 0, none⟩) (by rw [hsz]; show w.heap.size < _; omega) (by simp; omega)]
      rw [← hO]; simp
    · rw [Int.zero_add] at h1
      refine behind_any _ _ _ y _ h1 ?_ ?_
      · rw [gr_cell h3 (p := ⟨bb, 0, none⟩) (by rw [hsz]; show bb < _; omega) (by simp; omega)]
        exact (hb.cell (p := ⟨bb, 0, none⟩) hbb).trans hc2
      · rw [gr_frozen h3 (p := ⟨bb, 0, none⟩) (by rw [hsz]; show bb < _; omega) (by simp; omega)]
        exact (hb.frozen (p := ⟨bb, 0, none⟩) hbb).trans hf2)
  have HAL := Lib.hid hal
  clear hal hrun
  go_enter Try.func15, Try.ntmps15
  go_wp2_with fail
  refine HAL.out.mono ?_
  rintro e w' ⟨w1, ⟨rfl, h1, h2, h3⟩, rfl⟩
  rw [Int.zero_add] at h1
  have hbc : w1.cell? ⟨bb, 0, none⟩ = some (.int .i64 y) := by
    rw [gr_cell h3 (p := ⟨bb, 0, none⟩) (by rw [hsz]; show bb < _; omega) (by simp; omega)]
    exact (hb.cell (p := ⟨bb, 0, none⟩) hbb).trans hc2
  have hfin : AlwPost w nb bb (run l) (RunEnd (run l)) (w1.setCell ⟨bb, 0, none⟩ (.int .i64 (run l).1)) := by
    refine ⟨rfl, ?_, World.cell?_setCell_same _ _ _ hbc, ?_⟩
    · rw [World.cell?_setCell_other _ _ _ _ (by simp only [ne_eq, Addr.mk.injEq]; omega)]; exact h1
    · refine ⟨h3.os, h3.tape, h3.output, ?_, fun k hk h4 h5 => ?_⟩
      · have := h3.size; simp [World.setCell] at this ⊢; omega
      · rw [Below.heap_setCell _ _ _ _ h5, h3.block k (by omega) (by simpa using h4)]
        exact hb.block k hk
  have HF := Lib.hid hfin
  clear hfin h1 h2 h3 hbc
  rcases runEnd_cases (run l) with ⟨_, hr⟩ | ⟨_, hr⟩
  · rw [hr] at HF ⊢
    simp only
    clear hr
    go_wp2
    go_end0
    exact HF.out
  · rw [hr] at HF ⊢
    simp only
    clear hr
    go_wp2
    exact ⟨rfl, HF.out⟩
theorem catchA_L (B nb bb : Nat) (ps : Addr) (v : Value) (l : List St) (y : Int) (w : World) (hl : l.length ≤ 1000) (hg : good l) (h : Lst w B v l) (hB : B ≤ nb) (hnb : nb < w.heap.size) (hbb : bb < w.heap.size) (hne : nb ≠ bb) (hps : w.cell? ps = some v) (lps : ps.block < w.heap.size)
    (hc : w.cell? ⟨nb, 0, none⟩ = some (.int .i64 0)) (hf : w.frozen? ⟨nb, 0, none⟩ = false) (hc2 : w.cell? ⟨bb, 0, none⟩ = some (.int .i64 y)) (hf2 : w.frozen? ⟨bb, 0, none⟩ = false) :
    Calls Try.prog 10 #[.func (.func 15) #[] #[.pointer (some ps), .pointer (some ⟨nb, 0, none⟩), .pointer (some ⟨bb, 0, none⟩)]] w fun e w' => e = .returned (.int .i64 (run l).2) ∧
      w'.cell? ⟨nb, 0, none⟩ = some (.int .i64 (run l).1) ∧ w'.cell? ⟨bb, 0, none⟩ = some (.int .i64 (run l).1) ∧ Kept2 w w' nb bb := by
  generalize hO : Obj.cells #[.int .i64 0] 27 = O
  have hb : Below w.heap.size w (w.alloc O) := (Below.refl _ _).alloc (Nat.le_refl _) _
  have hsz : (w.alloc O).heap.size = w.heap.size + 1 := by simp
  refine (catch_any 15 _ w _ (fun W => cf_always1 _ W) (by
    rw [hO]
    exact alwC_any B nb bb ps v l y (w.alloc O) hl hg (h.below (hb.mono (by omega))) hB (by omega) (by omega) hne ((hb.cell lps).trans hps) (by omega) ((hb.cell (p := ⟨nb, 0, none⟩) hnb).trans hc) ((hb.frozen (p := ⟨nb, 0, none⟩) hnb).trans hf) ((hb.cell (p := ⟨bb, 0, none⟩) hbb).trans hc2) ((hb.frozen (p := ⟨bb, 0, none⟩) hbb).trans hf2)) ?_).mono ?_
  · rintro e w1 ⟨rfl, h1, h2, h3⟩
    have hbk := h3.block w.heap.size (by omega) (by omega) (by omega)
    refine ⟨?_, ?_, ?_, ?_⟩
    · rw [World.cell?_of_block (a := ⟨w.heap.size, 0, none⟩) hbk, ← hO]; simp
    · rw [World.frozen?_of_block (a := ⟨w.heap.size, 0, none⟩) hbk, ← hO]; simp
    · have := h3.size; omega
    · rcases runEnd_cases (run l) with ⟨_, hr⟩ | ⟨_, hr⟩
      · exact .inl hr
      · exact .inr ⟨_, hr⟩
  · rintro e w' ⟨e1, w1, ⟨rfl, h1, h2, h3⟩, hgr, h4⟩
    have hs3 := h3.size
    refine ⟨?_, ?_, ?_, ?_⟩
    · rcases runEnd_cases (run l) with ⟨hz, hr⟩ | ⟨hz, hr⟩
      · rw [hr] at h4
        rcases h4 with ⟨_, rfl⟩ | ⟨c, hc, _⟩
        · rw [hz]
        · cases hc
      · rw [hr] at h4
        rcases h4 with ⟨hc, _⟩ | ⟨c, hc, rfl⟩
        · cases hc
        · rw [fault_inj (Ending.panicked.inj hc)]
    · rw [gr_cell hgr (p := ⟨nb, 0, none⟩) (by show nb < _; omega) (by simp; omega)]; exact h1
    · rw [gr_cell hgr (p := ⟨bb, 0, none⟩) (by show bb < _; omega) (by simp; omega)]; exact h2
    · refine ⟨hgr.os.trans h3.os, hgr.tape.trans h3.tape, hgr.output.trans h3.output, ?_, fun k hk h5 h6 => ?_⟩
      · have := hgr.size; omega
      · rw [hgr.block k (by omega) (by simp; omega), h3.block k (by omega) h5 h6]
        exact hb.block k hk
set_option maxHeartbeats 1000000 in
theorem trapAlways_short (B : Nat) (a : Option Addr) (cap : Nat) (l : List St) (w : World) (hl : l.length ≤ 40) (h : Lst w B (.slice a l.length cap) l) (hB : B ≤ w.heap.size) :
    Calls Try.prog 4 #[.slice a l.length cap] w fun e w' => e = .returned (.bool true) ∧ Below w.heap.size w w' := by
  have hmf : ∀ (fn : Fn) (first cap : Array Value) (w : World), (Instr.makeFunc fn first cap).run Try.prog w = .ok (.func fn first cap) w := fun _ _ _ _ => rfl
  have hgd := good_fixed l
  have hlm : (l.map fixed).length = l.length := List.length_map _
  have HL := Lib.hid h
  have CL := Lib.hid (fun B nb bb ps v y w h1 h2 h3 h4 h5 h6 h7 h8 h9 h10 h11 => catchA_L B nb bb ps v (l.map fixed) y w (by omega) hgd h1 h2 h3 h4 h5 h6 h7 h8 h9 h10 h11)
  have RL := Lib.hid (fun B v w h1 => refRun_L B v (l.map fixed) w (by omega) hgd h1)
  have PL := Lib.hid (fun w (h : Lst w B (.slice a l.length cap) l) (hB : B ≤ w.heap.size) => plain_L B _ l w (by omega) h hB)
  have HLM := Lib.hid hlm
  clear hlm hgd h
  generalize run (l.map fixed) = r at *
  generalize l.map fixed = m at *
  obtain ⟨r1, r2⟩ := r
  go_enter Try.func4, Try.ntmps4
  go_wp2_with fail
  refine (awake_any _).mono ?_
  rintro e w1 ⟨rfl, hb1⟩
  go_wp2_with fail
  have hs1 := hb1.size
  refine (PL.out w1 (HL.out.below (hb1.mono hB)) (by omega)).mono ?_
  rintro e w2 ⟨v2, rfl, hL2, hb2⟩
  have hs2 := hb2.size
  obtain ⟨a2, cap2, rfl⟩ := hL2.slice
  rw [HLM.out] at *
  have HL2 := Lib.hid hL2
  have HB2 := Lib.hid (hb1.trans (hb2.mono hs1))
  clear hL2 hb1 hb2 hs1
  go_wp2_with fail
  refine (RL.out w2.heap.size _ _ (HL2.out.below ((Below.refl _ _).alloc (Nat.le_refl _) _))).mono ?_
  rintro e w3 ⟨rfl, hb3⟩
  have hs3 := hb3.size
  simp only [World.size_alloc] at hs3
  have c3 : w3.cell? ⟨w2.heap.size, 0, none⟩ = some (.slice a2 l.length cap2) := by rw [hb3.cell (p := ⟨w2.heap.size, 0, none⟩) (by simp)]; simp
  have HL3 := Lib.hid ((HL2.out.below ((Below.refl _ _).alloc (Nat.le_refl _) (.cells #[.slice a2 l.length cap2] 22))).below (hb3.mono (by simp)))
  have HB3 := Lib.hid (HB2.out.trans ((((Below.refl w2.heap.size w2).alloc (Nat.le_refl _) (.cells #[.slice a2 l.length cap2] 22)).trans (hb3.mono (by simp))).mono (by have := HB2.out.size; omega)))
  clear hb3 HL2 HB2
  have hb4 : Below w3.heap.size w3 ((w3.alloc (.cells #[.int .i64 0] 3)).alloc (.cells #[.int .i64 (-1)] 3)) := ((Below.refl _ _).alloc (Nat.le_refl _) _).alloc (by simp) _
  have HB4 := Lib.hid hb4
  clear hb4
  go_wp2_with fail
  refine (CL.out w2.heap.size w3.heap.size (w3.heap.size + 1) ⟨w2.heap.size, 0, none⟩ _ (-1) _ (HL3.out.below (HB4.out.mono (by omega))) (by omega) (by simp; omega) (by simp) (by omega) ((HB4.out.cell (p := ⟨w2.heap.size, 0, none⟩) (by show w2.heap.size < _; omega)).trans c3) (by simp; omega) (by simp [go_sem]) (by simp [go_sem]) (by simp [go_sem]) (by simp [go_sem])).mono ?_
  rintro e w5 ⟨rfl, hc5, hd5, hg5⟩
  have hs5 := hg5.size
  simp only [World.size_alloc] at hs5
  have hbw : Below w3.heap.size ((w3.alloc (.cells #[.int .i64 0] 3)).alloc (.cells #[.int .i64 (-1)] 3)) w5 := ⟨hg5.os, hg5.tape, hg5.output, hg5.size, fun k hk => hg5.block k (by simp; omega) (by omega) (by omega)⟩
  have HB5 := Lib.hid (HB3.out.trans ((HB4.out.trans hbw).mono (by have := HB3.out.size; omega)))
  clear hg5 HB4 hbw c3
  have z3 : (r1 == r1) = true := by simp
  have z4 : (r2 == r2) = true := by simp
  go_wp2
  go_ret
  exact ⟨by simp, HB5.out⟩
set_option maxHeartbeats 1000000 in
theorem trapAlways_long (a : Option Addr) (n cap : Nat) (w : World) (hl : 40 < n) :
    Calls Try.prog 4 #[.slice a n cap] w fun e w' => e = .returned (.bool true) ∧ Below w.heap.size w w' := by
  go_enter Try.func4, Try.ntmps4
  go_wp2_with fail
  refine (awake_any _).mono ?_
  rintro e w1 ⟨rfl, hb1⟩
  have HB := Lib.hid hb1
  clear hb1
  go_wp2
  go_ret
  exact ⟨rfl, HB.out⟩
theorem trapAlways_walk (B : Nat) (v : Value) (l : List St) (w : World) (h : Lst w B v l) (hB : B ≤ w.heap.size) :
    Calls Try.prog 4 #[v] w fun e w' => e = .returned (.bool true) ∧ Below w.heap.size w w' := by
  obtain ⟨a, cap, rfl⟩ := h.slice
  by_cases hl : l.length ≤ 40
  · exact trapAlways_short B a cap l w hl h hB
  · exact trapAlways_long a _ cap w (by omega)
end Go.Proofs.Ytkoimdlnkaphcaa
