/- Arguments that are patterns, or lists of texts. -/
import Derived.Test.YtlmdpmfahfgjkaaDoorSlO
import Derived.Test.YtlmdpmfahfgjkaaDoorGlJ
import Derived.Lib.SmallJoins
namespace Go.Proofs.YtlmdpmfahfgjkaaDoor
set_option maxRecDepth 100000
set_option linter.unusedVariables false
set_option linter.unusedSimpArgs false
open Go.RowKit Go.ChangeShapes Go.WideShapes Go.Deep
section
variable {H : Type} {enc : TypeId × Value → H} {w : World} {base : Nat} {spare : Nat → Bool} {held : Bool} {fuel : Nat}
theorem ranges_build : ∀ (n : Nat) (cs : List Value), cs.length = n * 2 → (∀ i, i < n → ∃ r : Int × Int, (cs.drop (i * 2)).take 2 = [.int .i32 r.1, .int .i32 r.2]) → ∃ rs : List (Int × Int), rs.length = n ∧ cs = rcells .i32 rs
  | 0, cs, h, _ => ⟨[], rfl, List.eq_nil_of_length_eq_zero (by omega)⟩
  | n + 1, cs, h, hall => by
    obtain ⟨r, hr⟩ := hall 0 (by omega)
    rw [Nat.zero_mul, List.drop_zero] at hr
    obtain ⟨rs, h1, h2⟩ := ranges_build n (cs.drop 2) (by rw [List.length_drop]; omega) (fun i hi => by
      obtain ⟨q, hq⟩ := hall (i + 1) (by omega)
      refine ⟨q, ?_⟩
      rw [List.drop_drop, show 2 + i * 2 = (i + 1) * 2 by omega]
      exact hq)
    refine ⟨r :: rs, by simp [h1], ?_⟩
    rw [← List.take_append_drop 2 cs, hr, h2]
    rfl
theorem parts_build (R : PartV → Value → Prop) : ∀ (n : Nat) (cs : List Value), cs.length = n * 4 → (∀ i, i < n → ∃ (p : PartV) (u : Value), (cs.drop (i * 4)).take 4 = [.int .i64 p.kind, .int .i32 p.sign, u, .bool p.neg] ∧ R p u) →
    ∃ (vs : List Value) (ps : List PartV), vs.length = n ∧ ps.length = n ∧ cs = pcells .i32 vs ps ∧ ∀ (j : Nat) (u : Value) (p : PartV), vs[j]? = some u → ps[j]? = some p → R p u
  | 0, cs, h, _ => ⟨[], [], rfl, rfl, List.eq_nil_of_length_eq_zero (by omega), fun j u p hu _ => by simp at hu⟩
  | n + 1, cs, h, hall => by
    obtain ⟨p, u, hp, hR⟩ := hall 0 (by omega)
    rw [Nat.zero_mul, List.drop_zero] at hp
    obtain ⟨vs, ps, h1, h2, h3, h4⟩ := parts_build R n (cs.drop 4) (by rw [List.length_drop]; omega) (fun i hi => by
      obtain ⟨q, v, hq, hv⟩ := hall (i + 1) (by omega)
      refine ⟨q, v, ?_, hv⟩
      rw [List.drop_drop, show 4 + i * 4 = (i + 1) * 4 by omega]
      exact hq)
    refine ⟨u :: vs, p :: ps, by simp [h1], by simp [h2], ?_, fun j v q hv hq => ?_⟩
    · rw [← List.take_append_drop 4 cs, hp, h3]
      rfl
    · cases j with
      | zero =>
        simp only [List.getElem?_cons_zero, Option.some.injEq] at hv hq
        subst hv hq
        exact hR
      | succ j => exact h4 j v q (by simpa using hv) (by simpa using hq)
theorem cells_range : Tryd.prog.cellsOf 62 = 2 := by kernel_rfl
theorem cells_part : Tryd.prog.cellsOf 35 = 4 := by kernel_rfl
theorem cells_i32 : Tryd.prog.cellsOf 21 = 1 := by kernel_rfl
theorem cells_int : Tryd.prog.cellsOf 3 = 1 := by kernel_rfl
theorem cells_bool : Tryd.prog.cellsOf 4 = 1 := by kernel_rfl
theorem cells_rngs : Tryd.prog.cellsOf 33 = 1 := by kernel_rfl
theorem fld {n i off : Nat} {t : TypeId} {f : Field} {cs : List Value} {c : Value} {xs : List (DataW H × List MemPlace)} (h : DataW.trod enc Tryd.prog w base spare held n f.type ((cs.drop f.offset).take (Tryd.prog.cellsOf f.type)) = xs[i]?) (ht : f.type = t) (ho : f.offset = off) (hc : Tryd.prog.cellsOf t = 1) (hd : cs[off]? = some c) (hi : i < xs.length) :
    DataW.trod enc Tryd.prog w base spare held n t [c] = some xs[i] := by
  obtain ⟨hlt, e⟩ := List.getElem?_eq_some_iff.1 hd
  rw [ht, ho, hc, List.drop_eq_getElem_cons hlt, e, List.take_succ_cons, List.take_zero, List.getElem?_eq_getElem hi] at h
  exact h
theorem range_open {cs : List Value} {y : DataW H × List MemPlace} (h : DataW.trod enc Tryd.prog w base spare held fuel 62 cs = some y) : ∃ r : Int × Int, cs = [.int .i32 r.1, .int .i32 r.2] := by
  obtain ⟨xs, n, _, _, hlen, hx, hg⟩ := DataW.trod_struct Tryd.underlying62 h
  rw [cells_range] at hlen
  have hx2 : xs.length = 2 := hx
  match cs, hlen with
  | [a, b], _ =>
    have h0 := fld (t := 21) (off := 0) (c := a) (hg 0 _ rfl) rfl rfl cells_i32 rfl (by omega)
    have h1 := fld (t := 21) (off := 1) (c := b) (hg 1 _ rfl) rfl rfl cells_i32 rfl (by omega)
    obtain ⟨k0, e0, _, _⟩ := DataW.trod_int Tryd.underlying21 h0
    obtain ⟨k1, e1, _, _⟩ := DataW.trod_int Tryd.underlying21 h1
    injection e0 with e0
    injection e1 with e1
    subst e0 e1
    exact ⟨(k0, k1), rfl⟩
theorem ranges_open {v : Value} {y : DataW H × List MemPlace} (h : DataW.trod enc Tryd.prog w base spare held fuel 33 [v] = some y) : ∃ rs : List (Int × Int), Sl w w.heap.size 2 v rs.length (rcells .i32 rs) := by
  obtain ⟨n, cs, h1, _, h3⟩ := sl_open Tryd.underlying33 cells_range (by omega) h
  obtain ⟨rs, h4, h5⟩ := ranges_build n cs h1.1 (fun i hi => by
    obtain ⟨f, z, hz⟩ := h3 i hi
    exact range_open hz)
  subst h4 h5
  exact ⟨rs, h1⟩
theorem part_open {cs : List Value} {y : DataW H × List MemPlace} (h : DataW.trod enc Tryd.prog w base spare held fuel 35 cs = some y) :
    ∃ (p : PartV) (u : Value), cs = [.int .i64 p.kind, .int .i32 p.sign, u, .bool p.neg] ∧ Sl w w.heap.size 2 u p.rs.length (rcells .i32 p.rs) := by
  obtain ⟨xs, n, _, _, hlen, hx, hg⟩ := DataW.trod_struct Tryd.underlying35 h
  rw [cells_part] at hlen
  have hx2 : xs.length = 4 := hx
  match cs, hlen with
  | [a, b, c, d], _ =>
    have h0 := fld (t := 3) (off := 0) (c := a) (hg 0 _ rfl) rfl rfl cells_int rfl (by omega)
    have h1 := fld (t := 21) (off := 1) (c := b) (hg 1 _ rfl) rfl rfl cells_i32 rfl (by omega)
    have h2 := fld (t := 33) (off := 2) (c := c) (hg 2 _ rfl) rfl rfl cells_rngs rfl (by omega)
    have h3 := fld (t := 4) (off := 3) (c := d) (hg 3 _ rfl) rfl rfl cells_bool rfl (by omega)
    obtain ⟨k0, e0, _, _⟩ := DataW.trod_int Tryd.underlying3 h0
    obtain ⟨k1, e1, _, _⟩ := DataW.trod_int Tryd.underlying21 h1
    obtain ⟨rs, hrs⟩ := ranges_open h2
    obtain ⟨k3, e3, _⟩ := DataW.trod_bool Tryd.underlying4 h3
    injection e0 with e0
    injection e1 with e1
    injection e3 with e3
    subst e0 e1 e3
    exact ⟨⟨k0, k1, rs, k3⟩, c, rfl, hrs⟩
/-- A pattern that is handed in. -/
theorem pattern_open {v : Value} {y : DataW H × List MemPlace} (h : DataW.trod enc Tryd.prog w base spare held fuel 24 [v] = some y) : ∃ ps : List PartV, Pat .i32 w w.heap.size v ps ∧ ps.length ≤ maxLen := by
  obtain ⟨n, cs, h1, h2, h3⟩ := sl_open Tryd.underlying24 cells_part (by omega) h
  obtain ⟨vs, ps, h4, h5, h6, h7⟩ := parts_build (fun p u => Sl w w.heap.size 2 u p.rs.length (rcells .i32 p.rs)) n cs h1.1 (fun i hi => by
    obtain ⟨f, z, hz⟩ := h3 i hi
    exact part_open hz)
  subst h5 h6
  exact ⟨ps, ⟨vs, h4, h7, h1⟩, h2⟩
end
end Go.Proofs.YtlmdpmfahfgjkaaDoor
