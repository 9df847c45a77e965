/- Calls that are handed in. -/
import Derived.Test.YtmcbgjkogggneaaDoorLiE
import Derived.Test.YtmcbgjkogggneaaDoorLaw
import Derived.Deep.Fields
import Derived.Lib.SmallJoins
namespace Go.Proofs.YtmcbgjkogggneaaDoor
set_option maxRecDepth 100000
set_option linter.unusedVariables false
set_option linter.unusedSimpArgs false
open Go.RowKit Go.Maps Go.ChangeShapes Go.WideShapes Go.Deep
def ccells (n : Nat) (cv : Nat → CallV) : List Value := (List.range n).flatMap fun k => (cv k).cells
theorem ccells_succ (n : Nat) (cv : Nat → CallV) : ccells (n + 1) cv = ccells n cv ++ (cv n).cells := by
  unfold ccells
  rw [List.range_succ, List.flatMap_append]
  simp
theorem ccells_len (n : Nat) (cv : Nat → CallV) : (ccells n cv).length = n * 6 := by
  induction n with
  | zero => rfl
  | succ n ih => rw [ccells_succ, List.length_append, ih, show (cv n).cells.length = 6 from rfl]; omega
theorem ccells_get {n : Nat} (cv : Nat → CallV) {k : Nat} (h : k < n) (j : Nat) (hj : j < 6) : (ccells n cv)[k * 6 + j]? = (cv k).cells[j]? := by
  induction n with
  | zero => omega
  | succ n ih =>
    rw [ccells_succ]
    by_cases hk : k = n
    · subst hk
      rw [List.getElem?_append_right (by rw [ccells_len]; omega), ccells_len, show k * 6 + j - k * 6 = j by omega]
    · rw [List.getElem?_append_left (by rw [ccells_len]; omega)]
      exact ih (by omega)
theorem calls_build (R : CallV → Prop) : ∀ (n : Nat) (cs : List Value), cs.length = n * 6 → (∀ i, i < n → ∃ c : CallV, (cs.drop (i * 6)).take 6 = c.cells ∧ R c) → ∃ cv, cs = ccells n cv ∧ ∀ i, i < n → R (cv i) := by
  intro n cs hl h
  refine ⟨fun k => if hk : k < n then (h k hk).choose else exC, ?_, fun i hi => ?_⟩
  · refine List.ext_getElem? fun q => ?_
    by_cases hq : q < n * 6
    · have e : q = (q / 6) * 6 + q % 6 := by omega
      have hk : q / 6 < n := by omega
      have hj : q % 6 < 6 := Nat.mod_lt _ (by omega)
      generalize q / 6 = k at e hk
      generalize q % 6 = j at e hj
      subst e
      rw [ccells_get _ hk j hj]
      simp only [hk, dif_pos]
      have h1 := (h k hk).choose_spec.1
      rw [← h1, List.getElem?_take, if_pos hj, List.getElem?_drop]
    · rw [List.getElem?_eq_none (by omega), List.getElem?_eq_none (by rw [ccells_len]; omega)]
  · simp only [hi, dif_pos]
    exact (h i hi).choose_spec.2
theorem cells_call : Tryd.prog.cellsOf 32 = 6 := by kernel_rfl
theorem cells_int : Tryd.prog.cellsOf 3 = 1 := by kernel_rfl
theorem cells_bool : Tryd.prog.cellsOf 4 = 1 := by kernel_rfl
theorem cells_string : Tryd.prog.cellsOf 9 = 1 := by kernel_rfl
theorem cells_strs : Tryd.prog.cellsOf 30 = 1 := by kernel_rfl
variable {H : Type} {enc : TypeId × Value → H} {w : World} {base : Nat} {spare : Nat → Bool} {held : Bool} {fuel : Nat}
theorem fld {n i off : Nat} {t : TypeId} {f : Field} {cs : List Value} {c : Value} {xs : List (DataW H × List MemPlace)} (h : DataW.trod enc Tryd.prog w base spare held n f.type ((cs.drop f.offset).take (Tryd.prog.cellsOf f.type)) = xs[i]?) (ht : f.type = t) (ho : f.offset = off) (hc : Tryd.prog.cellsOf t = 1) (hd : cs[off]? = some c) (hi : i < xs.length) :
    DataW.trod enc Tryd.prog w base spare held n t [c] = some xs[i] := by
  obtain ⟨hlt, e⟩ := List.getElem?_eq_some_iff.1 hd
  rw [ht, ho, hc, List.drop_eq_getElem_cons hlt, e, List.take_succ_cons, List.take_zero, List.getElem?_eq_getElem hi] at h
  exact h
theorem str_open {c : Value} {y : DataW H × List MemPlace} (h : DataW.trod enc Tryd.prog w base spare held fuel 9 [c] = some y) : ∃ s : ByteArray, c = .string s ∧ s.size ≤ maxLen := by
  cases fuel with
  | zero => simp [DataW.trod] at h
  | succ n =>
    unfold DataW.trod at h
    rw [Tryd.underlying9] at h
    split at h <;> simp_all
theorem strs_build : ∀ (n : Nat) (cs : List Value), cs.length = n → (∀ i, i < n → ∃ s : ByteArray, (cs.drop i).take 1 = [.string s] ∧ s.size ≤ maxLen) → ∃ l : List ByteArray, l.length = n ∧ cs = l.map .string ∧ ∀ s ∈ l, s.size ≤ maxLen
  | 0, cs, h, _ => ⟨[], rfl, List.eq_nil_of_length_eq_zero h, fun s hs => by cases hs⟩
  | n + 1, cs, h, hall => by
    obtain ⟨s, h1, h2⟩ := hall 0 (by omega)
    rw [List.drop_zero] at h1
    obtain ⟨l, h3, h4, h5⟩ := strs_build n (cs.drop 1) (by rw [List.length_drop]; omega) (fun i hi => by
      obtain ⟨q, hq, hv⟩ := hall (i + 1) (by omega)
      refine ⟨q, ?_, hv⟩
      rw [List.drop_drop, show 1 + i = i + 1 by omega]
      exact hq)
    refine ⟨s :: l, by simp [h3], ?_, fun t ht => ?_⟩
    · rw [← List.take_append_drop 1 cs, h1, h4]
      rfl
    · rcases List.mem_cons.1 ht with rfl | ht
      · exact h2
      · exact h5 t ht
/-- Texts as cells. -/
def scells (l : List ByteArray) : List Value := l.map .string
theorem strs_open {v : Value} {y : DataW H × List MemPlace} (h : DataW.trod enc Tryd.prog w base spare held fuel 30 [v] = some y) : ∃ l : List ByteArray, Sl w w.heap.size 1 v l.length (scells l) ∧ ∀ s ∈ l, s.size ≤ maxLen := by
  obtain ⟨n, cs, h1, _, h3⟩ := sl_open Tryd.underlying30 cells_string (by omega) h
  have hl : cs.length = n := by have := h1.1; omega
  obtain ⟨l, h4, h5, h6⟩ := strs_build n cs hl (fun i hi => by
    obtain ⟨f, z, hz⟩ := h3 i hi
    rw [Nat.mul_one] at hz
    match hc : (cs.drop i).take 1, hz with
    | [c], hz =>
      obtain ⟨s, rfl, hs⟩ := str_open hz
      exact ⟨s, rfl, hs⟩
    | [], hz =>
      have := congrArg List.length hc
      simp at this
      omega
    | a :: b :: r, hz =>
      have := congrArg List.length hc
      simp at this
      omega)
  subst h4 h5
  exact ⟨l, h1, h6⟩
/-- What is known of a call that is handed in. -/
def CallOK (w : World) (c : CallV) : Prop := c.name.size ≤ maxLen ∧ (∃ l : List ByteArray, l.length = c.nn ∧ Sl w w.heap.size 1 (.slice c.na c.nn c.nc) c.nn (scells l) ∧ ∀ s ∈ l, s.size ≤ maxLen) ∧ (Lit.int .i64 c.kind).wf = true ∧ (Lit.int .i64 c.beg).wf = true ∧ (Lit.int .i64 c.fin).wf = true
theorem call_open {cs : List Value} {y : DataW H × List MemPlace} (h : DataW.trod enc Tryd.prog w base spare held fuel 32 cs = some y) : ∃ c : CallV, cs = c.cells ∧ CallOK w c := by
  obtain ⟨xs, n, _, _, hlen, hx, hg⟩ := DataW.trod_struct Tryd.underlying32 h
  rw [cells_call] at hlen
  have hx2 : xs.length = 6 := hx
  match cs, hlen with
  | [a, b, c, d, e, f], _ =>
    have h0 := fld (t := 3) (off := 0) (c := a) (hg 0 _ rfl) rfl rfl cells_int rfl (by omega)
    have h1 := fld (t := 9) (off := 1) (c := b) (hg 1 _ rfl) rfl rfl cells_string rfl (by omega)
    have h2 := fld (t := 4) (off := 2) (c := c) (hg 2 _ rfl) rfl rfl cells_bool rfl (by omega)
    have h3 := fld (t := 30) (off := 3) (c := d) (hg 3 _ rfl) rfl rfl cells_strs rfl (by omega)
    have h4 := fld (t := 3) (off := 4) (c := e) (hg 4 _ rfl) rfl rfl cells_int rfl (by omega)
    have h5 := fld (t := 3) (off := 5) (c := f) (hg 5 _ rfl) rfl rfl cells_int rfl (by omega)
    obtain ⟨k0, e0, _, w0⟩ := DataW.trod_int Tryd.underlying3 h0
    obtain ⟨s1, e1, z1⟩ := str_open h1
    obtain ⟨k2, e2, _⟩ := DataW.trod_bool Tryd.underlying4 h2
    obtain ⟨l, hl, hz⟩ := strs_open h3
    obtain ⟨k4, e4, _, w4⟩ := DataW.trod_int Tryd.underlying3 h4
    obtain ⟨k5, e5, _, w5⟩ := DataW.trod_int Tryd.underlying3 h5
    injection e0 with e0
    injection e2 with e2
    injection e4 with e4
    injection e5 with e5
    obtain ⟨na, nc, e3, _⟩ := hl.form
    subst e0 e1 e2 e3 e4 e5
    exact ⟨⟨k0, s1, k2, na, l.length, nc, k4, k5⟩, rfl, z1, ⟨l, rfl, hl, hz⟩, w0, w4, w5⟩
theorem calls_open {v : Value} {y : DataW H × List MemPlace} (h : DataW.trod enc Tryd.prog w base spare held fuel 22 [v] = some y) : ∃ n cv, Sl w w.heap.size 6 v n (ccells n cv) ∧ n ≤ maxLen ∧ ∀ i, i < n → CallOK w (cv i) := by
  obtain ⟨n, cs, h1, h2, h3⟩ := sl_open Tryd.underlying22 cells_call (by omega) h
  obtain ⟨cv, h4, h5⟩ := calls_build (CallOK w) n cs h1.1 (fun i hi => by
    obtain ⟨f, z, hz⟩ := h3 i hi
    exact call_open hz)
  subst h4
  exact ⟨n, cv, h1, h2, h5⟩
end Go.Proofs.YtmcbgjkogggneaaDoor
