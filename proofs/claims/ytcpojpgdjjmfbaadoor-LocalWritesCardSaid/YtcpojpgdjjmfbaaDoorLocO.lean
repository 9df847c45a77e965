/- An argument that is a header reads as a text, numbers and truths. -/
import Derived.Test.YtcpojpgdjjmfbaaDoorLaw
import Derived.Lib.SmallJoins
import Derived.Deep.Fields
set_option linter.unusedVariables false
set_option linter.unusedSimpArgs false
namespace Go.Proofs.YtcpojpgdjjmfbaaDoor
set_option maxRecDepth 100000
open Go.RowKit Go.ChangeShapes Go.WideShapes Go.Deep Go.Joins
theorem hdr_open {H : Type} {enc : TypeId × Value → H} {w : World} {base : Nat} {spare : Nat → Bool} {held : Bool} {r : Reach} {b0 : Nat} {v : Value} {d : DataW H} {p : List MemPlace}
    (hv : Value.okWide Tryd.prog w r b0 26 v) (h : DataW.Trod enc Tryd.prog w base spare held 26 v d p) :
    ∃ (nm : ByteArray) (y mo da ho mi se me cr pk sz : Int) (gw gl : Bool), v = .agg #[.string nm, .int .i64 y, .int .i64 mo, .int .i64 da, .int .i64 ho, .int .i64 mi, .int .i64 se, .int .i64 me, .int .u32 cr, .int .i64 pk, .int .i64 sz, .bool gw, .bool gl] ∧ nm.size ≤ maxLen ∧ (Lit.int .u32 cr).wf = true := by
  obtain ⟨cs, rfl, hsz⟩ := okWide_struct Tryd.underlying26 hv
  obtain ⟨l⟩ := cs
  have c_bool : Tryd.prog.cellsOf 4 = 1 := by kernel_rfl
  have c_int : Tryd.prog.cellsOf 3 = 1 := by kernel_rfl
  have c_uint32 : Tryd.prog.cellsOf 24 = 1 := by kernel_rfl
  have c_string : Tryd.prog.cellsOf 9 = 1 := by kernel_rfl
  have c_time : Tryd.prog.cellsOf 23 = 6 := by kernel_rfl
  have cH : Tryd.prog.cellsOf 26 = 13 := by kernel_rfl
  obtain ⟨fuel, hf⟩ := h
  obtain ⟨xs, n, _, hx, _, hlen, hg⟩ := DataW.trod_struct Tryd.underlying26 hf
  have hl8 : xs.length = 8 := hlen
  match l, hsz.trans cH with
  | [e0, e1, e2, e3, e4, e5, e6, e7, e8, e9, e10, e11, e12], _ =>
    have key : ∀ (j : Nat) (f : Field) (e : Value) (off : Nat), (#[e0, e1, e2, e3, e4, e5, e6, e7, e8, e9, e10, e11, e12] : Array Value).toList.drop off = e :: (#[e0, e1, e2, e3, e4, e5, e6, e7, e8, e9, e10, e11, e12] : Array Value).toList.drop (off + 1) → Tryd.prog.cellsOf f.type = 1 → f.offset = off → j < xs.length →
        DataW.trod enc Tryd.prog w base spare held n f.type (((#[e0, e1, e2, e3, e4, e5, e6, e7, e8, e9, e10, e11, e12] : Array Value).toList.drop f.offset).take (Tryd.prog.cellsOf f.type)) = xs[j]? → ∃ b, DataW.trod enc Tryd.prog w base spare held n f.type [e] = some b := by
      intro j f e off hd hc ho hj hh
      rw [ho, hc, hd, List.take_succ_cons, List.take_zero, List.getElem?_eq_getElem hj] at hh
      exact ⟨_, hh⟩
    have hT := hg 1 _ rfl
    rw [List.getElem?_eq_getElem (show 1 < xs.length by omega)] at hT
    change DataW.trod enc Tryd.prog w base spare held n 23 (((#[e0, e1, e2, e3, e4, e5, e6, e7, e8, e9, e10, e11, e12] : Array Value).toList.drop 1).take (Tryd.prog.cellsOf 23)) = some _ at hT
    rw [c_time] at hT
    change DataW.trod enc Tryd.prog w base spare held n 23 [e1, e2, e3, e4, e5, e6] = some _ at hT
    obtain ⟨ys, m, _, hy, _, hylen, hgy⟩ := DataW.trod_struct Tryd.underlying23 hT
    have hl6 : ys.length = 6 := hylen
    have keyT : ∀ (j : Nat) (f : Field) (e : Value), [e1, e2, e3, e4, e5, e6].drop j = e :: [e1, e2, e3, e4, e5, e6].drop (j + 1) → f.type = 3 → f.offset = j → j < ys.length →
        DataW.trod enc Tryd.prog w base spare held m f.type (([e1, e2, e3, e4, e5, e6].drop f.offset).take (Tryd.prog.cellsOf f.type)) = ys[j]? → ∃ k : Int, e = .int .i64 k := by
      intro j f e hd ht ho hj hh
      rw [ht, ho, c_int, hd, List.take_succ_cons, List.take_zero, List.getElem?_eq_getElem hj] at hh
      obtain ⟨k, ek, _, _⟩ := DataW.trod_int Tryd.underlying3 hh
      injection ek with ek
      exact ⟨k, ek⟩
    obtain ⟨y, rfl⟩ := keyT 0 _ _ rfl rfl rfl (by omega) (hgy 0 _ rfl)
    obtain ⟨mo, rfl⟩ := keyT 1 _ _ rfl rfl rfl (by omega) (hgy 1 _ rfl)
    obtain ⟨da, rfl⟩ := keyT 2 _ _ rfl rfl rfl (by omega) (hgy 2 _ rfl)
    obtain ⟨ho, rfl⟩ := keyT 3 _ _ rfl rfl rfl (by omega) (hgy 3 _ rfl)
    obtain ⟨mi, rfl⟩ := keyT 4 _ _ rfl rfl rfl (by omega) (hgy 4 _ rfl)
    obtain ⟨se, rfl⟩ := keyT 5 _ _ rfl rfl rfl (by omega) (hgy 5 _ rfl)
    obtain ⟨b7, t7⟩ := key 2 _ e7 7 rfl c_int rfl (by omega) (hg 2 _ rfl)
    obtain ⟨me, ek, _, wme⟩ := DataW.trod_int Tryd.underlying3 t7
    injection ek with ek
    subst ek
    obtain ⟨b8, t8⟩ := key 3 _ e8 8 rfl c_uint32 rfl (by omega) (hg 3 _ rfl)
    obtain ⟨cr, ek, _, wcr⟩ := DataW.trod_int Tryd.underlying24 t8
    injection ek with ek
    subst ek
    obtain ⟨b9, t9⟩ := key 4 _ e9 9 rfl c_int rfl (by omega) (hg 4 _ rfl)
    obtain ⟨pk, ek, _, wpk⟩ := DataW.trod_int Tryd.underlying3 t9
    injection ek with ek
    subst ek
    obtain ⟨b10, t10⟩ := key 5 _ e10 10 rfl c_int rfl (by omega) (hg 5 _ rfl)
    obtain ⟨sz, ek, _, wsz⟩ := DataW.trod_int Tryd.underlying3 t10
    injection ek with ek
    subst ek
    obtain ⟨b11, t11⟩ := key 6 _ e11 11 rfl c_bool rfl (by omega) (hg 6 _ rfl)
    obtain ⟨gw, ek, _⟩ := DataW.trod_bool Tryd.underlying4 t11
    injection ek with ek
    subst ek
    obtain ⟨b12, t12⟩ := key 7 _ e12 12 rfl c_bool rfl (by omega) (hg 7 _ rfl)
    obtain ⟨gl, ek, _⟩ := DataW.trod_bool Tryd.underlying4 t12
    injection ek with ek
    subst ek
    obtain ⟨b0, t0⟩ := key 0 _ e0 0 rfl c_string rfl (by omega) (hg 0 _ rfl)
    obtain ⟨nm, ek, _, hnm⟩ := DataW.trod_string Tryd.underlying9 t0
    injection ek with ek
    subst ek
    exact ⟨nm, y, mo, da, ho, mi, se, me, cr, pk, sz, gw, gl, rfl, hnm, wcr⟩
theorem u32_bd {n : Int} (h : (Lit.int .u32 n).wf = true) : 0 ≤ n ∧ n ≤ 4294967295 := by
  simpa [Lit.wf, IntKind.min, IntKind.max, IntKind.signed, IntKind.bits] using h
end Go.Proofs.YtcpojpgdjjmfbaaDoor
