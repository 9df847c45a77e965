/- Two rows of the call's own side by side: chains, and lists of spans. -/
import Derived.Test.YtfnaoekkdgndkaaCpW
namespace Go.Proofs.Ytfnaoekkdgndkaa
set_option maxRecDepth 100000
set_option linter.unusedVariables false
set_option linter.unusedSimpArgs false
open Go.RowKit
theorem info_pch : (Try.prog.info? 41).map (fun i => (i.zero, i.size, i.bytes)) = some (some (.pointer none), 1, 8) := by kernel_rfl
theorem info_lsr : (Try.prog.info? 39).map (fun i => (i.zero, i.size, i.bytes)) = some (some (.slice none 0 0), 1, 24) := by kernel_rfl
theorem ChB.kept_ne {base e size m b : Nat} {w w' : World} {v u : Value} {l : List Sp} {ys : List Value} (h : ChB w b v l) (h2 : Row base e size w u m ys) (hg : w.grownBy w' u.ownBlock) (hne : 57 ≠ e) (hb : u.ownBlock ≠ some b) : ChB w' b v l :=
  ⟨h.1.grown hg (fun q => hb q.symm) h.2.1, Nat.lt_of_lt_of_le h.2.1 hg.size, h.2.2.kept_ne h2 hg hne⟩
/-- The chains' row, the lists' row, and what they hold. -/
structure Two (base : Nat) (w : World) (cv rv : Value) (q q' : Nat) (ps vs : Nat → Value) (ls : Nat → List Sp) : Prop where
  cr : Row base 41 1 w cv q (pcells q ps)
  rr : Row base 39 1 w rv q' (pcells q' vs)
  ll : LL base 34 w q' vs ls
  ch : ∀ o, o < q → ∃ b v, ps o = .pointer (some ⟨b, 0, none⟩) ∧ base ≤ b ∧ ChB w b v (ls o) ∧ cv.ownBlock ≠ some b ∧ rv.ownBlock ≠ some b
section
variable {base q q' : Nat} {w w' : World} {cv rv : Value} {ps vs : Nat → Value} {ls : Nat → List Sp}
theorem Two.nil : Two base w (.slice none 0 0) (.slice none 0 0) 0 0 ps vs ls :=
  ⟨Row.nil, Row.nil, ⟨fun o ho => by omega, fun o _ ho => by omega⟩, fun o ho => by omega⟩
theorem Two.below (h : Two base w cv rv q q' ps vs ls) (hb : Below w.heap.size w w') : Two base w' cv rv q q' ps vs ls :=
  ⟨h.cr.below hb, h.rr.below hb, h.ll.below hb, fun o ho => by
    obtain ⟨b, v, h1, h2, h3, h4, h5⟩ := h.ch o ho
    exact ⟨b, v, h1, h2, h3.below hb, h4, h5⟩⟩
theorem Two.pushC {B : Nat} {cv' p : Value} (h : Two base w cv rv q q' ps vs ls) (hB : base ≤ B) (hcl : ∀ g, cv.ownBlock = some g → g < B) (hrl : ∀ g, rv.ownBlock = some g → g < B) (hp : Chn B w p (ls q)) (hr : Row base 41 1 w' cv' (q + 1) (pcells q ps ++ [p])) (hg : w.grownBy w' cv.ownBlock) (hw : cv'.ownBlock = cv.ownBlock ∨ ∀ g, cv'.ownBlock = some g → w.heap.size ≤ g) : Two base w' cv' rv (q + 1) q' (updA ps q p) vs ls := by
  refine ⟨?_, h.rr.kept_ne h.cr hg (by decide), h.ll.kept_ne h.cr hg (by decide), fun o ho => ?_⟩
  · have e : pcells (q + 1) (updA ps q p) = pcells q ps ++ [p] := by
      rw [pcells_succ, updA_at]
      congr 1
      unfold pcells
      exact List.map_congr_left fun k hk => updA_ne _ _ _ (by have := List.mem_range.1 hk; omega)
    rw [e]; exact hr
  · have key : ∀ b v l, ChB w b v l → cv.ownBlock ≠ some b → rv.ownBlock ≠ some b → ChB w' b v l ∧ cv'.ownBlock ≠ some b ∧ rv.ownBlock ≠ some b := fun b v l h3 h4 h5 => by
      refine ⟨h3.kept_ne h.cr hg (by decide) h4, fun e => ?_, h5⟩
      rcases hw with hw | hw
      · rw [hw] at e; exact h4 e
      · have := hw b e; have := h3.2.1; omega
    by_cases e : o = q
    · subst e
      rw [updA_at]
      obtain ⟨b, v, h1, h2, h3⟩ := hp
      obtain ⟨k1, k2, k3⟩ := key b v _ h3 (fun e => by have := hcl b e; omega) (fun e => by have := hrl b e; omega)
      exact ⟨b, v, h1, by omega, k1, k2, k3⟩
    · rw [updA_ne _ _ _ e]
      obtain ⟨b, v, h1, h2, h3, h4, h5⟩ := h.ch o (by omega)
      obtain ⟨k1, k2, k3⟩ := key b v _ h3 h4 h5
      exact ⟨b, v, h1, h2, k1, k2, k3⟩
theorem Two.pushR {B : Nat} {rv' v : Value} (h : Two base w cv rv q q' ps vs ls) (hB : base ≤ B) (hlt : ∀ o, o < q' → ∀ g, (vs o).ownBlock = some g → g < B) (hv : Row B 34 2 w v (ls q').length (lc spC (ls q'))) (hr : Row base 39 1 w' rv' (q' + 1) (pcells q' vs ++ [v])) (hg : w.grownBy w' rv.ownBlock) (hw : rv'.ownBlock = rv.ownBlock ∨ ∀ g, rv'.ownBlock = some g → w.heap.size ≤ g) : Two base w' cv rv' q (q' + 1) ps (updA vs q' v) ls := by
  refine ⟨h.cr.kept_ne h.rr hg (by decide), ?_, ⟨fun o ho => ?_, fun o o' ho ho' hne g h1 h2 => ?_⟩, fun o ho => ?_⟩
  · have e : pcells (q' + 1) (updA vs q' v) = pcells q' vs ++ [v] := by
      rw [pcells_succ, updA_at]
      congr 1
      unfold pcells
      exact List.map_congr_left fun k hk => updA_ne _ _ _ (by have := List.mem_range.1 hk; omega)
    rw [e]; exact hr
  · by_cases e : o = q'
    · subst e; rw [updA_at]; exact (hv.kept_ne h.rr hg (by decide)).mono hB
    · rw [updA_ne _ _ _ e]; exact (h.ll.row o (by omega)).kept_ne h.rr hg (by decide)
  · by_cases e : o = q'
    · subst e
      rw [updA_at] at h1
      rw [updA_ne _ _ _ (fun q => hne q.symm)] at h2
      have a1 := (hv.lt g h1).1
      have a2 := hlt o' (by omega) g h2
      omega
    · rw [updA_ne _ _ _ e] at h1
      by_cases e' : o' = q'
      · subst e'
        rw [updA_at] at h2
        have a1 := (hv.lt g h2).1
        have a2 := hlt o (by omega) g h1
        omega
      · rw [updA_ne _ _ _ e'] at h2
        exact h.ll.apart o o' (by omega) (by omega) hne g h1 h2
  · obtain ⟨b, u, h1, h2, h3, h4, h5⟩ := h.ch o ho
    refine ⟨b, u, h1, h2, h3.kept_ne h.rr hg (by decide) h5, h4, fun e => ?_⟩
    rcases hw with hw | hw
    · rw [hw] at e; exact h5 e
    · have := hw b e; have := h3.2.1; omega
end
end Go.Proofs.Ytfnaoekkdgndkaa
