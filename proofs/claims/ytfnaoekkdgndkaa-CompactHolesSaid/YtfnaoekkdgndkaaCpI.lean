/- Lists of spans that are written in place; rows that stay. -/
import Derived.Test.YtfnaoekkdgndkaaCpH
import Derived.OneCell
namespace Go.Proofs.Ytfnaoekkdgndkaa
set_option maxRecDepth 100000
set_option linter.unusedVariables false
set_option linter.unusedSimpArgs false
open Go.RowKit
def updA {α : Type} (us : Nat → α) (j : Nat) (v : α) : Nat → α := fun k => if k = j then v else us k
theorem updA_at {α : Type} (us : Nat → α) (j : Nat) (v : α) : updA us j v j = v := if_pos rfl
theorem updA_ne {α : Type} (us : Nat → α) (j : Nat) (v : α) {k : Nat} (h : k ≠ j) : updA us j v k = us k := if_neg h
theorem pcells_set {n j : Nat} (us : Nat → Value) (v : Value) (h : j < n) : (pcells n us).set j v = pcells n (updA us j v) := by
  refine List.ext_getElem? fun k => ?_
  by_cases hk : k < n
  · rw [pcells_get _ hk]
    by_cases e : j = k
    · subst e
      rw [List.getElem?_set_self (by rw [pcells_len]; exact hk), updA_at]
    · rw [List.getElem?_set_ne e, pcells_get _ hk, updA_ne _ _ _ (fun q => e q.symm)]
  · rw [List.getElem?_eq_none (by simp [pcells_len]; omega), List.getElem?_eq_none (by rw [pcells_len]; omega)]
theorem Sl.kept {w w' : World} {B size n : Nat} {v : Value} {cs : List Value} {row : Option Nat} (h : Sl w B size v n cs) (hB : B ≤ w.heap.size) (hg : w.grownBy w' row) (hne : ∀ g, v.ownBlock = some g → some g ≠ row) : Sl w' B size v n cs := by
  obtain ⟨h1, a, cap, h2, h3, h4⟩ := h
  refine ⟨h1, a, cap, h2, h3, ?_⟩
  rcases h4 with h4 | ⟨b, off, h5, h6, h7⟩
  · exact .inl h4
  · refine .inr ⟨b, off, h5, h6, fun j u hj => ?_⟩
    have := hne b (by rw [h2, h5]; rfl)
    exact (World.cell?_of_block (w := w) (a := ⟨b, off + j, none⟩) (hg.block b (by omega) this)).trans (h7 j u hj)
theorem Sl.other {w : World} {B size n c : Nat} {v : Value} {cs : List Value} (h : Sl w B size v n cs) (hne : ∀ g, v.ownBlock = some g → g ≠ c) (k : Nat) (x : Value) : Sl (w.setCell ⟨c, k, none⟩ x) B size v n cs := by
  obtain ⟨h1, a, cap, h2, h3, h4⟩ := h
  refine ⟨h1, a, cap, h2, h3, ?_⟩
  rcases h4 with h4 | ⟨b, off, h5, h6, h7⟩
  · exact .inl h4
  · refine .inr ⟨b, off, h5, h6, fun j u hj => ?_⟩
    have := hne b (by rw [h2, h5]; rfl)
    rw [World.cell?_setCell_other _ _ _ _ (by simp <;> omega)]
    exact h7 j u hj
theorem Row.setc {w : World} {base e size n c : Nat} {v : Value} {xs : List Value} (h : Row base e size w v n xs) (hne : v.ownBlock ≠ some c) (k : Nat) (x : Value) : Row base e size (w.setCell ⟨c, k, none⟩ x) v n xs :=
  ownsRow_setCell_other h (a := ⟨c, k, none⟩) hne x
/-- Lists of spans, each in a block of its own. -/
structure LL (base e : Nat) (w : World) (n : Nat) (us : Nat → Value) (ls : Nat → List Sp) : Prop where
  row : ∀ o, o < n → Row base e 2 w (us o) (ls o).length (lc spC (ls o))
  apart : ∀ o o', o < n → o' < n → o ≠ o' → ∀ g, (us o).ownBlock = some g → (us o').ownBlock ≠ some g
section
variable {base e n : Nat} {w w' : World} {us : Nat → Value} {ls : Nat → List Sp}
theorem LL.nil : LL base e w n (fun _ => .slice none 0 0) (fun _ => []) := ⟨fun _ _ => Row.nil, fun _ _ _ _ _ g h => by cases h⟩
theorem LL.below (h : LL base e w n us ls) (hb : Below w.heap.size w w') : LL base e w' n us ls := ⟨fun o ho => (h.row o ho).below hb, h.apart⟩
theorem LL.sl (h : LL base e w n us ls) {o : Nat} (ho : o < n) : Sl w w.heap.size 2 (us o) (ls o).length (lc spC (ls o)) := (h.row o ho).sl
theorem LL.lt (h : LL base e w n us ls) {o g : Nat} (ho : o < n) (hg : (us o).ownBlock = some g) : base ≤ g ∧ g < w.heap.size := (h.row o ho).lt g hg
theorem LL.putNew {v : Value} {l : List Sp} {j : Nat} (h : LL base e w n us ls) (hb : Below w.heap.size w w') (hr : Row w.heap.size e 2 w' v l.length (lc spC l)) (hbase : base ≤ w.heap.size) : LL base e w' n (updA us j v) (updA ls j l) := by
  refine ⟨fun o ho => ?_, fun o o' ho ho' hne g hg hg' => ?_⟩
  · by_cases e : o = j
    · subst e; rw [updA_at, updA_at]; exact hr.mono hbase
    · rw [updA_ne _ _ _ e, updA_ne _ _ _ e]; exact (h.row o ho).below hb
  · by_cases e : o = j
    · subst e
      rw [updA_at] at hg
      rw [updA_ne _ _ _ (fun q => hne q.symm)] at hg'
      have h1 := (hr.lt g hg).1
      have h2 := (h.lt ho' hg').2
      omega
    · rw [updA_ne _ _ _ e] at hg
      by_cases e' : o' = j
      · subst e'
        rw [updA_at] at hg'
        have h1 := (hr.lt g hg').1
        have h2 := (h.lt ho hg).2
        omega
      · rw [updA_ne _ _ _ e'] at hg'
        exact h.apart o o' ho ho' hne g hg hg'
theorem LL.store (h : LL base e w n us ls) {o i g cap m : Nat} (t : Nat) (ho : o < n) (hv : us o = .slice (some ⟨g, 0, none⟩) m cap) (hi : i < (ls o).length) : LL base e (w.setCell ⟨g, i * 2, none⟩ (.int .i64 (t : Nat))) n us (setL ls o i t) := by
  refine ⟨fun q hq => ?_, h.apart⟩
  by_cases eq : q = o
  · subst eq
    have hr := h.row q hq
    have hm : m = (ls q).length := by
      obtain ⟨a, c, h1, _⟩ := hr.form
      rw [hv] at h1
      injection h1
    subst hm
    rw [hv] at hr ⊢
    have h1 := (World.ownsRow.stored hr (i * 2) (.int .i64 (t : Nat))).1
    have h2 := lc_set (c := spC) spC_len (l := ls q) (j := i) (a := atS (ls q) i) (a' := (t, (atS (ls q) i).2)) (i := 0) (v := .int .i64 (t : Nat)) (atS_get hi) (by omega) rfl
    rw [Nat.add_zero] at h2
    rw [h2] at h1
    have h3 : setL ls q i t q = (ls q).set i (t, (atS (ls q) i).2) := by unfold setL; rw [if_pos rfl]
    rw [h3, List.length_set]
    exact h1
  · have h3 : setL ls o i t q = ls q := by unfold setL; rw [if_neg eq]
    rw [h3]
    refine (h.row q hq).setc (fun hg => ?_) _ _
    exact h.apart q o hq ho eq g hg (by rw [hv]; rfl)
theorem LL.kept_ne {base2 e2 size2 m : Nat} {u : Value} {ys : List Value} (h : LL base e w n us ls) (h2 : Row base2 e2 size2 w u m ys) (hg : w.grownBy w' u.ownBlock) (hne : e ≠ e2) : LL base e w' n us ls :=
  ⟨fun o ho => (h.row o ho).kept_ne h2 hg hne, h.apart⟩
theorem LL.setC (h : LL base e w n us ls) {c : Nat} (hc : c < base) (k : Nat) (x : Value) : LL base e (w.setCell ⟨c, k, none⟩ x) n us ls :=
  ⟨fun o ho => (h.row o ho).other hc k x, h.apart⟩
theorem LL.mono {base' : Nat} (h : LL base e w n us ls) (hb : base' ≤ base) : LL base' e w n us ls := ⟨fun o ho => (h.row o ho).mono hb, h.apart⟩
theorem LL.form (h : LL base e w n us ls) {o : Nat} (ho : o < n) (hl : 0 < (ls o).length) : ∃ g cap, us o = .slice (some ⟨g, 0, none⟩) (ls o).length cap ∧ base ≤ g ∧ g < w.heap.size := by
  rcases row_form (h.row o ho) with ⟨_, h0, _⟩ | ⟨g, cap, hv, _, hb, hg⟩
  · omega
  · exact ⟨g, cap, hv, hb, hg⟩
end
theorem Chn.setC {base : Nat} {w : World} {p : Value} {l : List Sp} (h : Chn base w p l) {c : Nat} (hc : c < base) (k : Nat) (x : Value) : Chn base (w.setCell ⟨c, k, none⟩ x) p l := by
  obtain ⟨b, v, h1, h2, h3, h4, h5⟩ := h
  exact ⟨b, v, h1, h2, h3.other (by omega) k x, by simpa using h4, h5.other (by omega) k x⟩
/-- A move's cells. -/
def mvC (m : Mv) : List Value := [.int .i64 (m.f : Nat), .int .i64 (m.t : Nat), .int .i64 (m.l : Nat)]
theorem mvC_len (m : Mv) : (mvC m).length = 3 := rfl
end Go.Proofs.Ytfnaoekkdgndkaa
