/- GlobMatches: both ways joined; how large texts are whose bulk is small. -/
import Derived.Test.YtlmdpmfahfgjkaaDoorGlW
namespace Go.Proofs.YtlmdpmfahfgjkaaDoor
set_option maxRecDepth 100000
set_option linter.unusedVariables false
set_option linter.unusedSimpArgs false
open Go.RowKit
theorem matches_walk (p : ByteArray) (ss : List ByteArray) (v : Value) (w : World) (hA : Amb w) (hm : p.size ≤ 9223372036854775807) (hS : Sl w w.heap.size 1 v ss.length (scells ss)) (hl : ss.length ≤ 2000000) (hs : ∀ s ∈ ss, s.size ≤ 2000000) :
    Calls Tryd.prog 5 #[.string p, v] w fun e w' => e = .returned (.bool true) ∧ Below w.heap.size w w' := by
  cases h : pars p with
  | none => exact matches_none p ss v w hA hm hS hl hs h
  | some ps => exact matches_some p ps ss v w hA hm hS hl hs h
theorem bulk_texts {H : Type} : ∀ ss : List ByteArray, ss.length ≤ Rows.uptoBulkAll (ss.map fun s => (DataW.lit (.string s.data.toList) : DataW H)) ∧ ∀ s ∈ ss, s.size ≤ Rows.uptoBulkAll (ss.map fun s => (DataW.lit (.string s.data.toList) : DataW H))
  | [] => ⟨by simp, fun s hs => by simp at hs⟩
  | t :: ss => by
    obtain ⟨h1, h2⟩ := bulk_texts (H := H) ss
    simp only [List.map_cons, Rows.uptoBulkAll, Rows.uptoBulk, List.length_cons]
    refine ⟨by omega, fun s hs => ?_⟩
    rcases List.mem_cons.1 hs with rfl | hs
    · have e : s.data.toList.length = s.size := Array.length_toList
      omega
    · have := h2 s hs
      omega
theorem strings_small {H : Type} {d0 d : DataW H} {ss : List ByteArray} (hor : d = .nil ∧ ss = [] ∨ ∃ sp : List (DataW H), d = .slice (ss.map fun s => .lit (.string s.data.toList)) sp) (hb : Rows.uptoSmall H ([d0, d] ++ []) = true) :
    ss.length ≤ 1048576 ∧ ∀ s ∈ ss, s.size ≤ 1048576 := by
  have h : Rows.uptoBulkAll ([d0, d] ++ []) ≤ 1048576 := of_decide_eq_true hb
  simp only [List.append_nil, Rows.uptoBulkAll] at h
  rcases hor with ⟨_, rfl⟩ | ⟨sp, rfl⟩
  · exact ⟨by simp, fun s hs => by simp at hs⟩
  · obtain ⟨h1, h2⟩ := bulk_texts (H := H) ss
    simp only [Rows.uptoBulk] at h
    exact ⟨by omega, fun s hs => by have := h2 s hs; omega⟩
end Go.Proofs.YtlmdpmfahfgjkaaDoor
