/- Contracts of trap's Try at bytes, and of Reader's Bytes. -/
import Derived.Test.YtephiopgpfdchaaRd
import Derived.Test.YtephiopgpfdchaaMono
namespace Go.Proofs.Ytephiopgpfdchaa
open Go.RowKit
theorem fault_inj' {a b : Int} (h : fault a = fault b) : a = b := by
  unfold fault at h
  simpa using h
theorem OB.set {base : Nat} {w : World} {v : Value} {l : List UInt8} (h : OB base w v l) {k : Nat} (hk : k < base) (j : Nat) (u : Value) : OB base (w.setCell ⟨k, j, none⟩ u) v l :=
  World.ownsRow.kept h (only_setCell (only_refl w (some k)) (.inl rfl) u) (by
    cases hb : v.ownBlock with
    | none => exact .inl rfl
    | some g => exact .inr (fun e => by injection e with e; have := (World.ownsRow.lt h g hb).1; omega))
theorem OB.gr {base : Nat} {w w' : World} {v : Value} {l : List UInt8} (h : OB base w v l) {k : Nat} (hg : w.grownBy w' (some k)) (hk : k < base) : OB base w' v l :=
  World.ownsRow.kept h hg (by
    cases hb : v.ownBlock with
    | none => exact .inl rfl
    | some g => exact .inr (fun e => by injection e with e; have := (World.ownsRow.lt h g hb).1; omega))
theorem cf_try1B (cap : Array Value) (w : World) : (callFunc 31 cap).run Try.prog w = .ok (.enter 31 cap) w := by kernel_rfl
/-- What a call that yields bytes leaves. -/
def RetB (rb q : Nat) (l out : List UInt8) (W : World) (e : Ending) (w1 : World) : Prop := ∃ a n c, e = .returned (.slice a n c) ∧ OB W.heap.size w1 (.slice a n c) out ∧ RD w1 rb l q ∧ Bx [rb] W.heap.size W w1
def ThrowB (rb q : Nat) (l : List UInt8) (c : Int) (W : World) (e : Ending) (w1 : World) : Prop := e = .panicked (fault c) ∧ RD w1 rb l q ∧ Bx [rb] W.heap.size W w1
set_option maxHeartbeats 1000000 in
theorem try1B_ret (b1 b4 rb q : Nat) (l out : List UInt8) (g : FuncId) (cap : Array Value) (W : World) (hf : W.cell? ⟨b1, 0, none⟩ = some (.func (.func g) #[] cap)) (h4 : Own W b4 [.slice none 0 0]) (hb4 : b4 < W.heap.size) (hne : rb < b4)
    (hcf : ∀ W : World, (callFunc g cap).run Try.prog W = .ok (.enter g cap) W) (hcall : Calls Try.prog g cap W (RetB rb q l out W)) :
    Calls Try.prog 31 #[.pointer (some ⟨b1, 0, none⟩), .pointer (some ⟨b4, 0, none⟩)] W fun e w' => e = .returned (.tuple #[]) ∧ (∃ a n c, Own w' b4 [.slice a n c] ∧ OB W.heap.size w' (.slice a n c) out) ∧ RD w' rb l q ∧ Bx [rb, b4] W.heap.size W w' := by
  have HC := Lib.hid hcall
  have HO4 := Lib.hid h4
  clear hcall h4
  go_enter Try.func31, Try.ntmps31
  go_wp2_with fail
  refine HC.out.mono ?_
  rintro e w1 ⟨a, n, c, rfl, ho, hd, hb⟩
  have HD := Lib.hid hd
  have HB1 := Lib.hid ho
  have HO := Lib.hid (HO4.out.bx hb hb4 (by simp; omega))
  have HB := Lib.hid (hb.weak (T := [rb, b4]) (by intro k _ hk; simp at hk ⊢; exact .inl hk))
  have hlt : b4 < w1.heap.size := Nat.lt_of_lt_of_le hb4 hb.size
  clear hd hb hcf ho
  have z0 := HO.out.1 0 _ rfl
  have hg := HO.out.2
  go_wp2
  go_end0
  refine ⟨rfl, ⟨a, n, c, (HO.out).set 0 (.slice a n c) (by simp), HB1.out.set hb4 0 _⟩, ?_, ?_⟩
  · exact HD.out.set_other (b := b4) hne 0 _
  · exact (HB.out).setCell (p := ⟨b4, 0, none⟩) (.inl (by simp)) _
theorem try1B_throw (b1 b4 rb q : Nat) (l : List UInt8) (g : FuncId) (cap : Array Value) (W : World) (c : Int) (hf : W.cell? ⟨b1, 0, none⟩ = some (.func (.func g) #[] cap))
    (hcf : ∀ W : World, (callFunc g cap).run Try.prog W = .ok (.enter g cap) W) (hcall : Calls Try.prog g cap W (ThrowB rb q l c W)) :
    Calls Try.prog 31 #[.pointer (some ⟨b1, 0, none⟩), .pointer (some ⟨b4, 0, none⟩)] W fun e w' => e = .panicked (fault c) ∧ RD w' rb l q ∧ Bx [rb] W.heap.size W w' := by
  have HC := Lib.hid hcall
  clear hcall
  go_enter Try.func31, Try.ntmps31
  go_wp2_with fail
  refine HC.out.mono ?_
  rintro e w1 ⟨rfl, hd, hb⟩
  have HD := Lib.hid hd
  have HB := Lib.hid hb
  clear hd hb hcf
  go_wp2
  exact ⟨rfl, rfl, HD.out, HB.out⟩
theorem catchB_ret (g : FuncId) (cap : Array Value) (w w3 : World) (rb q : Nat) (l out : List UInt8) (hrb : rb < w.heap.size) (hcf : ∀ W : World, (callFunc g cap).run Try.prog W = .ok (.enter g cap) W)
    (hcall : ∀ W : World, Below w.heap.size w W → Calls Try.prog g cap W (RetB rb q l out W))
    (hs : w3.heap.size = w.heap.size + 2) (hb : Below w.heap.size w w3) (hf : w3.cell? ⟨w.heap.size, 0, none⟩ = some (.func (.func g) #[] cap)) (h4 : Own w3 (w.heap.size + 1) [.slice none 0 0]) :
    Calls Try.prog 30 #[.func (.func 31) #[] #[.pointer (some ⟨w.heap.size, 0, none⟩), .pointer (some ⟨w.heap.size + 1, 0, none⟩)]] w3 fun e w' => e = .returned (.int .i64 0) ∧ RD w' rb l q ∧ Bx [rb] w.heap.size w w' ∧ (∃ a n c, Own w' (w.heap.size + 1) [.slice a n c] ∧ Byt w' w'.heap.size (.slice a n c) out) ∧ w.heap.size + 1 < w'.heap.size := by
  have hba : Below w3.heap.size w3 (w3.alloc (.cells #[.int .i64 0] 46)) := (Below.refl _ _).alloc (Nat.le_refl _) _
  have hfc := (hba.cell (p := ⟨w.heap.size, 0, none⟩) (by show w.heap.size < _; omega)).trans hf
  have hoc := h4.below hba (by omega)
  have hbc := hb.trans (hba.mono (by omega))
  have hsa : (w3.alloc (.cells #[.int .i64 0] 46)).heap.size = w.heap.size + 3 := by simp [hs]
  have he0 := Own.new_at w3 [.int .i64 0] 46 (w.heap.size + 2) hs.symm
  have key := try1B_ret w.heap.size (w.heap.size + 1) rb q l out g cap _ hfc hoc (by omega) (by omega) hcf (hcall _ hbc)
  refine (catch_any 31 _ w3 _ (fun W => cf_try1B _ W) key ?_).mono ?_
  · rintro e w4 ⟨rfl, h1, h2, h3⟩
    have hO := he0.bx h3 (by omega) (by simp; omega)
    refine ⟨?_, ?_, ?_, .inl rfl⟩
    · rw [hs]; exact hO.1 0 _ rfl
    · rw [hs]; exact hO.2 0
    · have := h3.size; omega
  · rintro e w5 ⟨e1, w4, ⟨rfl, ⟨a, n, c, h1, h1b⟩, h2, h3⟩, hg, he⟩
    rw [hs] at hg
    have hg' : Bx [w.heap.size + 2] w4.heap.size w4 w5 := Bx.of_gr hg
    have hz := h3.size
    refine ⟨?_, h2.bx hg' (by omega) (by simp; omega), ?_, ⟨a, n, c, h1.bx hg' (by omega) (by simp), (h1b.gr hg (by omega)).byt⟩, by have := hg'.size; omega⟩
    · rcases he with ⟨hx, rfl⟩ | ⟨c', hx, rfl⟩
      · rfl
      · cases hx
    · refine (Bx.of_below hbc : Bx [rb] w.heap.size w _).trans (((h3.mono (B' := w.heap.size) (by omega)).weak (by intro k hk hm; simp at hm ⊢; omega)).trans ((hg'.mono (by omega)).weak (by intro k hk hm; simp at hm; omega)))
theorem catchB_throw (g : FuncId) (cap : Array Value) (w w3 : World) (rb q : Nat) (l : List UInt8) (c : Int) (hrb : rb < w.heap.size) (hcf : ∀ W : World, (callFunc g cap).run Try.prog W = .ok (.enter g cap) W)
    (hcall : ∀ W : World, Below w.heap.size w W → Calls Try.prog g cap W (ThrowB rb q l c W))
    (hs : w3.heap.size = w.heap.size + 2) (hb : Below w.heap.size w w3) (hf : w3.cell? ⟨w.heap.size, 0, none⟩ = some (.func (.func g) #[] cap)) (h4 : Own w3 (w.heap.size + 1) [.slice none 0 0]) :
    Calls Try.prog 30 #[.func (.func 31) #[] #[.pointer (some ⟨w.heap.size, 0, none⟩), .pointer (some ⟨w.heap.size + 1, 0, none⟩)]] w3 fun e w' => e = .returned (.int .i64 c) ∧ RD w' rb l q ∧ Bx [rb] w.heap.size w w' ∧ Own w' (w.heap.size + 1) [.slice none 0 0] ∧ w.heap.size + 1 < w'.heap.size := by
  have hba : Below w3.heap.size w3 (w3.alloc (.cells #[.int .i64 0] 46)) := (Below.refl _ _).alloc (Nat.le_refl _) _
  have hfc := (hba.cell (p := ⟨w.heap.size, 0, none⟩) (by show w.heap.size < _; omega)).trans hf
  have hoc := h4.below hba (by omega)
  have hbc := hb.trans (hba.mono (by omega))
  have hsa : (w3.alloc (.cells #[.int .i64 0] 46)).heap.size = w.heap.size + 3 := by simp [hs]
  have he0 := Own.new_at w3 [.int .i64 0] 46 (w.heap.size + 2) hs.symm
  have key := try1B_throw w.heap.size (w.heap.size + 1) rb q l g cap _ c hfc hcf (hcall _ hbc)
  refine (catch_any 31 _ w3 _ (fun W => cf_try1B _ W) key ?_).mono ?_
  · rintro e w4 ⟨rfl, h2, h3⟩
    have hO := he0.bx h3 (by omega) (by simp; omega)
    refine ⟨?_, ?_, ?_, .inr ⟨c, rfl⟩⟩
    · rw [hs]; exact hO.1 0 _ rfl
    · rw [hs]; exact hO.2 0
    · have := h3.size; omega
  · rintro e w5 ⟨e1, w4, ⟨rfl, h2, h3⟩, hg, he⟩
    have hg' : Bx [w.heap.size + 2] w4.heap.size w4 w5 := by rw [hs] at hg; exact Bx.of_gr hg
    have hz := h3.size
    refine ⟨?_, h2.bx hg' (by omega) (by simp; omega), ?_, (hoc.bx h3 (by omega) (by simp; omega)).bx hg' (by omega) (by simp), by have := hg'.size; omega⟩
    · rcases he with ⟨hx, rfl⟩ | ⟨c', hx, rfl⟩
      · cases hx
      · rw [fault_inj' (Ending.panicked.inj hx)]
    · refine (Bx.of_below hbc : Bx [rb] w.heap.size w _).trans (((h3.mono (B' := w.heap.size) (by omega)).weak (by intro k hk hm; simp at hm ⊢; omega)).trans ((hg'.mono (by omega)).weak (by intro k hk hm; simp at hm; omega)))
set_option maxHeartbeats 1000000 in
theorem tryB_ret (g : FuncId) (cap : Array Value) (w : World) (rb q : Nat) (l out : List UInt8) (hrb : rb < w.heap.size) (hcf : ∀ W : World, (callFunc g cap).run Try.prog W = .ok (.enter g cap) W)
    (hcall : ∀ W : World, Below w.heap.size w W → Calls Try.prog g cap W (RetB rb q l out W)) :
    Calls Try.prog 25 #[.func (.func g) #[] cap] w fun e w' => ∃ a n c, e = .returned (.tuple #[.slice a n c, .int .i64 0]) ∧ Byt w' w'.heap.size (.slice a n c) out ∧ RD w' rb l q ∧ Bx [rb] w.heap.size w w' := by
  have hmf : ∀ (fn : Fn) (first cap : Array Value) (w : World), (Instr.makeFunc fn first cap).run Try.prog w = .ok (.func fn first cap) w := fun _ _ _ _ => rfl
  have HK := Lib.hid (fun w3 => catchB_ret g cap w w3 rb q l out hrb hcf hcall)
  have HO4 := Lib.hid (Own.new_at (w.alloc (.cells #[.func (.func g) #[] cap] 60)) [.slice none 0 0] 22 (w.heap.size + 1) (by simp))
  have HF : Hid (((w.alloc (.cells #[.func (.func g) #[] cap] 60)).alloc (.cells #[.slice none 0 0] 22)).cell? ⟨w.heap.size, 0, none⟩ = some (.func (.func g) #[] cap)) := by
    show _ = _
    rw [World.cell?_alloc_past _ _ _ (by simp), World.cell?_alloc_at _ _ _ _ rfl]; rfl
  have HB0 : Hid (Below w.heap.size w ((w.alloc (.cells #[.func (.func g) #[] cap] 60)).alloc (.cells #[.slice none 0 0] 22))) := ((Below.refl _ _).alloc (Nat.le_refl _) _).alloc (by simp) _
  have HS : Hid (((w.alloc (.cells #[.func (.func g) #[] cap] 60)).alloc (.cells #[.slice none 0 0] 22)).heap.size = w.heap.size + 2) := Lib.hid (by simp)
  clear hcall hcf
  go_enter Try.func25, Try.ntmps25
  go_wp2_with fail
  refine (HK.out _ HS.out HB0.out HF.out HO4.out).mono ?_
  rintro e w5 ⟨rfl, hd, hb, ⟨a, n, c, ho4, hby⟩, hlt⟩
  have HD := Lib.hid hd
  have HB := Lib.hid hb
  have HO4 := Lib.hid ho4
  have HY := Lib.hid hby
  clear hd hb ho4 hmf hby
  have y0 := HO4.out.1 0 _ rfl
  go_wp2
  go_ret2
  exact ⟨a, n, c, rfl, HY.out, HD.out, HB.out⟩
set_option maxHeartbeats 1000000 in
theorem tryB_throw (g : FuncId) (cap : Array Value) (w : World) (rb q : Nat) (l : List UInt8) (c : Int) (hrb : rb < w.heap.size) (hcf : ∀ W : World, (callFunc g cap).run Try.prog W = .ok (.enter g cap) W)
    (hcall : ∀ W : World, Below w.heap.size w W → Calls Try.prog g cap W (ThrowB rb q l c W)) :
    Calls Try.prog 25 #[.func (.func g) #[] cap] w fun e w' => e = .returned (.tuple #[.slice none 0 0, .int .i64 c]) ∧ RD w' rb l q ∧ Bx [rb] w.heap.size w w' := by
  have hmf : ∀ (fn : Fn) (first cap : Array Value) (w : World), (Instr.makeFunc fn first cap).run Try.prog w = .ok (.func fn first cap) w := fun _ _ _ _ => rfl
  have HK := Lib.hid (fun w3 => catchB_throw g cap w w3 rb q l c hrb hcf hcall)
  have HO4 := Lib.hid (Own.new_at (w.alloc (.cells #[.func (.func g) #[] cap] 60)) [.slice none 0 0] 22 (w.heap.size + 1) (by simp))
  have HF : Hid (((w.alloc (.cells #[.func (.func g) #[] cap] 60)).alloc (.cells #[.slice none 0 0] 22)).cell? ⟨w.heap.size, 0, none⟩ = some (.func (.func g) #[] cap)) := by
    show _ = _
    rw [World.cell?_alloc_past _ _ _ (by simp), World.cell?_alloc_at _ _ _ _ rfl]; rfl
  have HB0 : Hid (Below w.heap.size w ((w.alloc (.cells #[.func (.func g) #[] cap] 60)).alloc (.cells #[.slice none 0 0] 22))) := ((Below.refl _ _).alloc (Nat.le_refl _) _).alloc (by simp) _
  have HS : Hid (((w.alloc (.cells #[.func (.func g) #[] cap] 60)).alloc (.cells #[.slice none 0 0] 22)).heap.size = w.heap.size + 2) := Lib.hid (by simp)
  clear hcall hcf
  go_enter Try.func25, Try.ntmps25
  go_wp2_with fail
  refine (HK.out _ HS.out HB0.out HF.out HO4.out).mono ?_
  rintro e w5 ⟨rfl, hd, hb, ho4, hlt⟩
  have HD := Lib.hid hd
  have HB := Lib.hid hb
  have HO4 := Lib.hid ho4
  clear hd hb ho4 hmf
  have y0 := HO4.out.1 0 _ rfl
  go_wp2
  go_ret2
  exact ⟨rfl, HD.out, HB.out⟩
end Go.Proofs.Ytephiopgpfdchaa
