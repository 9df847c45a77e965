/- Gaps and moves that are handed in. -/
import Derived.Test.YtfnaoekkdgndkaaCpU
import Derived.Test.YtfnaoekkdgndkaaSlO
import Derived.Lib.SmallJoins
import Derived.Deep.Fields
namespace Go.Proofs.Ytfnaoekkdgndkaa
set_option maxRecDepth 100000
set_option linter.unusedVariables false
set_option linter.unusedSimpArgs false
open Go.RowKit Go.ChangeShapes Go.WideShapes Go.Deep
theorem rows_build {α : Type} {c : α → List Value} {s : Nat} {P : α → Prop} (hc : ∀ a, (c a).length = s) : ∀ (n : Nat) (cs : List Value), cs.length = n * s → (∀ i, i < n → ∃ a, P a ∧ (cs.drop (i * s)).take s = c a) → ∃ l : List α, l.length = n ∧ cs = lc c l ∧ ∀ a ∈ l, P a
  | 0, cs, h, _ => ⟨[], rfl, List.eq_nil_of_length_eq_zero (by omega), fun a ha => by cases ha⟩
  | n + 1, cs, h, hall => by
    obtain ⟨a, hPa, ha⟩ := hall 0 (by omega)
    rw [Nat.zero_mul, List.drop_zero] at ha
    have hl : (cs.drop s).length = n * s := by rw [List.length_drop, h, Nat.succ_mul]; omega
    obtain ⟨l, h1, h2, h3⟩ := rows_build hc n (cs.drop s) hl (fun i hi => by
      obtain ⟨b, hPb, hb⟩ := hall (i + 1) (by omega)
      refine ⟨b, hPb, ?_⟩
      rw [List.drop_drop, ← hb]
      congr 2
      rw [Nat.succ_mul, Nat.add_comm])
    refine ⟨a :: l, by rw [List.length_cons, h1], ?_, fun x hx => ?_⟩
    · rw [lc_cons, ← h2, ← ha, List.take_append_drop]
    · rcases List.mem_cons.1 hx with rfl | hx
      · exact hPa
      · exact h3 x hx
section
variable {H : Type} {enc : TypeId × Value → H} {w : World} {base : Nat} {spare : Nat → Bool} {held : Bool} {fuel : Nat}
theorem fld {n i off : Nat} {t : TypeId} {f : Field} {cs : List Value} {c : Value} {xs : List (DataW H × List MemPlace)} (h : DataW.trod enc Try.prog w base spare held n f.type ((cs.drop f.offset).take (Try.prog.cellsOf f.type)) = xs[i]?) (ht : f.type = t) (ho : f.offset = off) (hc : Try.prog.cellsOf t = 1) (hd : cs[off]? = some c) (hi : i < xs.length) :
    DataW.trod enc Try.prog w base spare held n t [c] = some xs[i] := by
  obtain ⟨hlt, e⟩ := List.getElem?_eq_some_iff.1 hd
  rw [ht, ho, hc, List.drop_eq_getElem_cons hlt, e, List.take_succ_cons, List.take_zero, List.getElem?_eq_getElem hi] at h
  exact h
theorem u8_bd {n : Int} (h : (Lit.int .u8 n).wf = true) : 0 ≤ n ∧ n ≤ 255 := by
  simpa [Lit.wf, IntKind.min, IntKind.max, IntKind.signed, IntKind.bits] using h
theorem i64_bd {n : Int} (h : (Lit.int .i64 n).wf = true) : -9223372036854775808 ≤ n ∧ n ≤ 9223372036854775807 := by
  simpa [Lit.wf, IntKind.min, IntKind.max, IntKind.signed, IntKind.bits] using h
theorem cells_gap : Try.prog.cellsOf 61 = 3 := by kernel_rfl
theorem cells_mv : Try.prog.cellsOf 38 = 3 := by kernel_rfl
theorem cells_u8 : Try.prog.cellsOf 5 = 1 := by kernel_rfl
theorem cells_int : Try.prog.cellsOf 3 = 1 := by kernel_rfl
theorem gap_open {cs : List Value} {y : DataW H × List MemPlace} (h : DataW.trod enc Try.prog w base spare held fuel 61 cs = some y) : ∃ x : Nat × Nat × Nat, (x.1 < 256 ∧ x.2.1 < 256 ∧ x.2.2 < 256) ∧ cs = gpC x := by
  obtain ⟨xs, n, _, _, hlen, hx, hg⟩ := DataW.trod_struct Try.underlying61 h
  rw [cells_gap] at hlen
  have hx3 : xs.length = 3 := hx
  match cs, hlen with
  | [a, b, c], _ =>
    have h0 := fld (t := 5) (off := 0) (c := a) (hg 0 _ rfl) rfl rfl cells_u8 rfl (by omega)
    have h1 := fld (t := 5) (off := 1) (c := b) (hg 1 _ rfl) rfl rfl cells_u8 rfl (by omega)
    have h2 := fld (t := 5) (off := 2) (c := c) (hg 2 _ rfl) rfl rfl cells_u8 rfl (by omega)
    obtain ⟨k0, e0, _, w0⟩ := DataW.trod_int Try.underlying5 h0
    obtain ⟨k1, e1, _, w1⟩ := DataW.trod_int Try.underlying5 h1
    obtain ⟨k2, e2, _, w2⟩ := DataW.trod_int Try.underlying5 h2
    injection e0 with e0
    injection e1 with e1
    injection e2 with e2
    subst e0 e1 e2
    have b0 := u8_bd w0
    have b1 := u8_bd w1
    have b2 := u8_bd w2
    refine ⟨(k0.toNat, k1.toNat, k2.toNat), ⟨by show k0.toNat < 256; omega, by show k1.toNat < 256; omega, by show k2.toNat < 256; omega⟩, ?_⟩
    show _ = [Value.int .u8 ((k0.toNat : Nat) : Int), .int .u8 ((k1.toNat : Nat) : Int), .int .u8 ((k2.toNat : Nat) : Int)]
    rw [Int.toNat_of_nonneg b0.1, Int.toNat_of_nonneg b1.1, Int.toNat_of_nonneg b2.1]
theorem gaps_open {v : Value} {y : DataW H × List MemPlace} (h : DataW.trod enc Try.prog w base spare held fuel 22 [v] = some y) : ∃ (L : List (Nat × Nat × Nat)) (n : Nat), Sl w w.heap.size 3 v n (lc gpC L) ∧ n = L.length ∧ (∀ x ∈ L, x.1 < 256 ∧ x.2.1 < 256 ∧ x.2.2 < 256) ∧ n ≤ maxLen := by
  obtain ⟨n, cs, h1, h2, h3⟩ := sl_open Try.underlying22 cells_gap (by omega) h
  obtain ⟨L, h4, h5, h6⟩ := rows_build gpC_len n cs h1.1 (fun i hi => by
    obtain ⟨q, z, hz⟩ := h3 i hi
    exact gap_open hz)
  subst h5
  exact ⟨L, n, h1, h4.symm, h6, h2⟩
theorem move_open {cs : List Value} {y : DataW H × List MemPlace} (h : DataW.trod enc Try.prog w base spare held fuel 38 cs = some y) : ∃ x : MvI, ((-9223372036854775808 ≤ x.f ∧ x.f ≤ 9223372036854775807) ∧ (-9223372036854775808 ≤ x.t ∧ x.t ≤ 9223372036854775807) ∧ -9223372036854775808 ≤ x.l ∧ x.l ≤ 9223372036854775807) ∧ cs = mvI x := by
  obtain ⟨xs, n, _, _, hlen, hx, hg⟩ := DataW.trod_struct Try.underlying38 h
  rw [cells_mv] at hlen
  have hx3 : xs.length = 3 := hx
  match cs, hlen with
  | [a, b, c], _ =>
    have h0 := fld (t := 3) (off := 0) (c := a) (hg 0 _ rfl) rfl rfl cells_int rfl (by omega)
    have h1 := fld (t := 3) (off := 1) (c := b) (hg 1 _ rfl) rfl rfl cells_int rfl (by omega)
    have h2 := fld (t := 3) (off := 2) (c := c) (hg 2 _ rfl) rfl rfl cells_int rfl (by omega)
    obtain ⟨k0, e0, _, w0⟩ := DataW.trod_int Try.underlying3 h0
    obtain ⟨k1, e1, _, w1⟩ := DataW.trod_int Try.underlying3 h1
    obtain ⟨k2, e2, _, w2⟩ := DataW.trod_int Try.underlying3 h2
    injection e0 with e0
    injection e1 with e1
    injection e2 with e2
    subst e0 e1 e2
    exact ⟨⟨k0, k1, k2⟩, ⟨i64_bd w0, i64_bd w1, i64_bd w2⟩, rfl⟩
theorem moves_open {v : Value} {y : DataW H × List MemPlace} (h : DataW.trod enc Try.prog w base spare held fuel 28 [v] = some y) : ∃ (l : List MvI) (n : Nat), Sl w w.heap.size 3 v n (lc mvI l) ∧ n = l.length ∧ (∀ x ∈ l, (-9223372036854775808 ≤ x.f ∧ x.f ≤ 9223372036854775807) ∧ (-9223372036854775808 ≤ x.t ∧ x.t ≤ 9223372036854775807) ∧ -9223372036854775808 ≤ x.l ∧ x.l ≤ 9223372036854775807) ∧ n ≤ maxLen := by
  obtain ⟨n, cs, h1, h2, h3⟩ := sl_open Try.underlying28 cells_mv (by omega) h
  obtain ⟨L, h4, h5, h6⟩ := rows_build mvI_len n cs h1.1 (fun i hi => by
    obtain ⟨q, z, hz⟩ := h3 i hi
    exact move_open hz)
  subst h5
  exact ⟨L, n, h1, h4.symm, h6, h2⟩
theorem turn_open {n : Int} (h : (Lit.int .u8 n).wf = true) : ∃ x : Nat, n = (x : Int) ∧ x < 256 := by
  have := u8_bd h
  exact ⟨n.toNat, (Int.toNat_of_nonneg this.1).symm, by omega⟩
end
end Go.Proofs.Ytfnaoekkdgndkaa
