/- An argument that is a descriptor reads as numbers and a truth. -/
import Derived.Test.YtodjoccdjmmilaaLaw
import Derived.Lib.SmallJoins
import Derived.Deep.Fields
namespace Go.Proofs.Ytodjoccdjmmilaa
open Go.RowKit Go.ChangeShapes Go.WideShapes Go.Deep Go.Joins
theorem desc_open {H : Type} {enc : TypeId × Value → H} {w : World} {base : Nat} {spare : Nat → Bool} {held : Bool} {r : Reach} {b0 : Nat} {v : Value} {d : DataW H} {p : List MemPlace}
    (hv : Value.okWide Try.prog w r b0 24 v) (h : DataW.Trod enc Try.prog w base spare held 24 v d p) :
    ∃ (k0 : Int) (k1 : Int) (k2 : Int) (k3 : Bool), v = .agg #[.int .u32 k0, .int .i64 k1, .int .i64 k2, .bool k3] ∧ (Lit.int .u32 k0).wf = true ∧ (Lit.int .i64 k1).wf = true ∧ (Lit.int .i64 k2).wf = true := by
  obtain ⟨cs, rfl, hsz⟩ := okWide_struct Try.underlying24 hv
  obtain ⟨l⟩ := cs
  have c_bool : Try.prog.cellsOf 4 = 1 := by kernel_rfl
  have c_int : Try.prog.cellsOf 3 = 1 := by kernel_rfl
  have c_uint32 : Try.prog.cellsOf 22 = 1 := by kernel_rfl
  have c6 : Try.prog.cellsOf 24 = 4 := by kernel_rfl
  obtain ⟨fuel, hf⟩ := h
  obtain ⟨xs, n, _, hx, _, hlen, hg⟩ := DataW.trod_struct Try.underlying24 hf
  match l, hsz.trans c6 with
  | [e0, e1, e2, e3], _ =>
    have key_uint32 : ∀ (j : Nat) (f : Field) (e : Value) (off : Nat), (#[e0, e1, e2, e3] : Array Value).toList.drop off = e :: (#[e0, e1, e2, e3] : Array Value).toList.drop (off + 1) → f.type = 22 → f.offset = off → j < xs.length →
        DataW.trod enc Try.prog w base spare held n f.type (((#[e0, e1, e2, e3] : Array Value).toList.drop f.offset).take (Try.prog.cellsOf f.type)) = xs[j]? → ∃ k : Int, e = .int .u32 k ∧ (Lit.int .u32 k).wf = true := by
      intro j f e off hd ht ho hj hh
      rw [ht, ho, c_uint32, hd, List.take_succ_cons, List.take_zero, List.getElem?_eq_getElem hj] at hh
      obtain ⟨k, ek, _, hwf⟩ := DataW.trod_int Try.underlying22 hh
      injection ek with ek
      exact ⟨k, ek, hwf⟩
    have key_int : ∀ (j : Nat) (f : Field) (e : Value) (off : Nat), (#[e0, e1, e2, e3] : Array Value).toList.drop off = e :: (#[e0, e1, e2, e3] : Array Value).toList.drop (off + 1) → f.type = 3 → f.offset = off → j < xs.length →
        DataW.trod enc Try.prog w base spare held n f.type (((#[e0, e1, e2, e3] : Array Value).toList.drop f.offset).take (Try.prog.cellsOf f.type)) = xs[j]? → ∃ k : Int, e = .int .i64 k ∧ (Lit.int .i64 k).wf = true := by
      intro j f e off hd ht ho hj hh
      rw [ht, ho, c_int, hd, List.take_succ_cons, List.take_zero, List.getElem?_eq_getElem hj] at hh
      obtain ⟨k, ek, _, hwf⟩ := DataW.trod_int Try.underlying3 hh
      injection ek with ek
      exact ⟨k, ek, hwf⟩
    have key_bool : ∀ (j : Nat) (f : Field) (e : Value) (off : Nat), (#[e0, e1, e2, e3] : Array Value).toList.drop off = e :: (#[e0, e1, e2, e3] : Array Value).toList.drop (off + 1) → f.type = 4 → f.offset = off → j < xs.length →
        DataW.trod enc Try.prog w base spare held n f.type (((#[e0, e1, e2, e3] : Array Value).toList.drop f.offset).take (Try.prog.cellsOf f.type)) = xs[j]? → ∃ k : Bool, e = .bool k := by
      intro j f e off hd ht ho hj hh
      rw [ht, ho, c_bool, hd, List.take_succ_cons, List.take_zero, List.getElem?_eq_getElem hj] at hh
      obtain ⟨k, ek, _⟩ := DataW.trod_bool Try.underlying4 hh
      injection ek with ek
      exact ⟨k, ek⟩
    have hl6 : xs.length = 4 := hlen
    obtain ⟨k0, rfl, w0⟩ := key_uint32 0 _ _ 0 rfl rfl rfl (by omega) (hg 0 _ rfl)
    obtain ⟨k1, rfl, w1⟩ := key_int 1 _ _ 1 rfl rfl rfl (by omega) (hg 1 _ rfl)
    obtain ⟨k2, rfl, w2⟩ := key_int 2 _ _ 2 rfl rfl rfl (by omega) (hg 2 _ rfl)
    obtain ⟨k3, rfl⟩ := key_bool 3 _ _ 3 rfl rfl rfl (by omega) (hg 3 _ rfl)
    exact ⟨k0, k1, k2, k3, rfl, w0, w1, w2⟩
theorem u32_bd {n : Int} (h : (Lit.int .u32 n).wf = true) : 0 ≤ n ∧ n ≤ 4294967295 := by
  simpa [Lit.wf, IntKind.min, IntKind.max, IntKind.signed, IntKind.bits] using h
end Go.Proofs.Ytodjoccdjmmilaa
