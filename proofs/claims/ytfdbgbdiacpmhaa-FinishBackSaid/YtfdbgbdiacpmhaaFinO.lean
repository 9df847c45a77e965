/- An argument that is a tail reads as three numbers and a truth. -/
import Derived.Test.YtfdbgbdiacpmhaaLaw
import Derived.Lib.SmallJoins
import Derived.Deep.Fields
namespace Go.Proofs.Ytfdbgbdiacpmhaa
open Go.RowKit Go.ChangeShapes Go.WideShapes Go.Deep Go.Joins
theorem tail_open {H : Type} {enc : TypeId × Value → H} {w : World} {base : Nat} {spare : Nat → Bool} {held : Bool} {r : Reach} {b0 : Nat} {v : Value} {d : DataW H} {p : List MemPlace}
    (hv : Value.okWide Try.prog w r b0 23 v) (h : DataW.Trod enc Try.prog w base spare held 23 v d p) :
    ∃ (n s c : Int) (g : Bool), v = .agg #[.int .i64 n, .int .i64 s, .int .i64 c, .bool g] := by
  obtain ⟨cs, rfl, hsz⟩ := okWide_struct Try.underlying23 hv
  obtain ⟨l⟩ := cs
  have c1 : Try.prog.cellsOf 3 = 1 := by kernel_rfl
  have c2 : Try.prog.cellsOf 4 = 1 := by kernel_rfl
  have c6 : Try.prog.cellsOf 23 = 4 := by kernel_rfl
  obtain ⟨fuel, hf⟩ := h
  obtain ⟨xs, n, _, hx, _, hlen, hg⟩ := DataW.trod_struct Try.underlying23 hf
  match l, hsz.trans c6 with
  | [e0, e1, e2, e3], _ =>
    have key : ∀ (j : Nat) (f : Field) (e : Value) (off : Nat), (#[e0, e1, e2, e3] : Array Value).toList.drop off = e :: (#[e0, e1, e2, e3] : Array Value).toList.drop (off + 1) → f.type = 3 → f.offset = off → j < xs.length →
        DataW.trod enc Try.prog w base spare held n f.type (((#[e0, e1, e2, e3] : Array Value).toList.drop f.offset).take (Try.prog.cellsOf f.type)) = xs[j]? → ∃ k : Int, e = .int .i64 k := by
      intro j f e off hd ht ho hj hh
      rw [ht, ho, c1, hd, List.take_succ_cons, List.take_zero, List.getElem?_eq_getElem hj] at hh
      obtain ⟨k, ek, _⟩ := DataW.trod_int Try.underlying3 hh
      injection ek with ek
      exact ⟨k, ek⟩
    have keyb : ∀ (j : Nat) (f : Field) (e : Value) (off : Nat), (#[e0, e1, e2, e3] : Array Value).toList.drop off = e :: (#[e0, e1, e2, e3] : Array Value).toList.drop (off + 1) → f.type = 4 → f.offset = off → j < xs.length →
        DataW.trod enc Try.prog w base spare held n f.type (((#[e0, e1, e2, e3] : Array Value).toList.drop f.offset).take (Try.prog.cellsOf f.type)) = xs[j]? → ∃ k : Bool, e = .bool k := by
      intro j f e off hd ht ho hj hh
      rw [ht, ho, c2, hd, List.take_succ_cons, List.take_zero, List.getElem?_eq_getElem hj] at hh
      obtain ⟨k, ek, _⟩ := DataW.trod_bool Try.underlying4 hh
      injection ek with ek
      exact ⟨k, ek⟩
    have hl6 : xs.length = 4 := hlen
    obtain ⟨k0, rfl⟩ := key 0 _ _ 0 rfl rfl rfl (by omega) (hg 0 _ rfl)
    obtain ⟨k1, rfl⟩ := key 1 _ _ 1 rfl rfl rfl (by omega) (hg 1 _ rfl)
    obtain ⟨k2, rfl⟩ := key 2 _ _ 2 rfl rfl rfl (by omega) (hg 2 _ rfl)
    obtain ⟨k3, rfl⟩ := keyb 3 _ _ 3 rfl rfl rfl (by omega) (hg 3 _ rfl)
    exact ⟨k0, k1, k2, k3, rfl⟩
end Go.Proofs.Ytfdbgbdiacpmhaa
