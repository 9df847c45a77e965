/- glob.Match; the law's examples; are two patterns the same? -/
import Derived.Test.YtlmdpmfahfgjkaaDoorGlI
import Derived.Test.YtlmdpmfahfgjkaaDoorGlM
import Derived.Test.YtlmdpmfahfgjkaaDoorGlN
namespace Go.Proofs.YtlmdpmfahfgjkaaDoor
set_option maxRecDepth 100000
set_option linter.unusedVariables false
set_option linter.unusedSimpArgs false
open Go.RowKit
theorem parse_any (s : ByteArray) (w : World) (hA : Amb w) (hs : s.size ≤ 2000000) : Calls Tryd.prog 8 #[.string s] w (Parse_p s w) := by
  cases h : u8 s with
  | false => exact parse_bad s w hA (by omega) h
  | true =>
    obtain ⟨l, h1, h2⟩ := pars_good h
    exact parse_good s l w hA hs h h1 h2
theorem pars_bd {s : ByteArray} {ps : List PartV} (h : pars s = some ps) : ps.length ≤ 256 ∧ ∀ p ∈ ps, PB s.size p := by
  unfold pars at h
  cases hs : sg s.data.toList with
  | none => rw [hs] at h; cases h
  | some l =>
    rw [hs] at h
    obtain ⟨h1, h2⟩ := parse_bd (sg_bd hs) h
    have hlen := sg_length hs
    have e : s.data.toList.length = s.size := Array.length_toList
    exact ⟨h1, fun p hp => ⟨by have := (h2 p hp).1; omega, (h2 p hp).2⟩⟩
/-- What glob.Match says. -/
def gm (p s : ByteArray) : Bool × Int := match pars p with | none => (false, 40) | some ps => (mtch ps s, 0)
theorem gm_none {p s : ByteArray} (h : pars p = none) : gm p s = (false, 40) := by unfold gm; rw [h]
theorem gm_some {p s : ByteArray} {ps : List PartV} (h : pars p = some ps) : gm p s = (mtch ps s, 0) := by unfold gm; rw [h]
def GM (p s : ByteArray) : Value := .tuple #[.bool (gm p s).1, .int .i64 (gm p s).2]
theorem gmatch_any (p s : ByteArray) (w : World) (hA : Amb w) (hp : p.size ≤ 2000000) (hs : s.size ≤ 2000000) :
    Calls Tryd.prog 15 #[.string p, .string s] w fun e w' => e = .returned (GM p s) ∧ Below w.heap.size w w' := by
  have HP := Lib.hid (parse_any p w hA hp)
  have HA := Lib.hid hA
  clear hA
  go_enter Tryd.func15, Tryd.ntmps15
  go_wp2_with (fail)
  refine HP.out.mono ?_
  rintro e w1 hq
  unfold Parse_p at hq
  cases h : pars p with
  | none =>
    rw [h] at hq
    obtain ⟨rfl, hb⟩ := hq
    have HG := Lib.hid (gm_none (s := s) h)
    have HB := Lib.hid hb
    clear h hb
    go_wp2_with (fail)
    go_ret2
    exact ⟨by unfold GM; rw [HG.out]; rfl, HB.out⟩
  | some ps =>
    rw [h] at hq
    obtain ⟨⟨v, rfl, hpo⟩, hb⟩ := hq
    have HG := Lib.hid (gm_some (s := s) h)
    have HB := Lib.hid hb
    obtain ⟨h1, h2⟩ := pars_bd h
    have HM := Lib.hid (match_any v ps w1.heap.size s w1 (HA.out.below hb) hs hpo.pat (Nat.le_refl _) (by omega) (fun p hp => by have := (h2 p hp).1; omega))
    clear h hb hpo h1 h2
    go_wp2_with (fail)
    refine HM.out.mono ?_
    rintro e w2 ⟨rfl, hb⟩
    have HB := Lib.hid (HB.out.trans (hb.mono HB.out.size))
    clear hb
    go_wp2_with (fail)
    go_ret2
    exact ⟨by unfold GM; rw [HG.out]; rfl, HB.out⟩
def ex1 : ByteArray := ⟨#[97, 47, 42, 46, 116, 120, 116]⟩
def ex2 : ByteArray := ⟨#[97, 47, 98, 46, 116, 120, 116]⟩
def ex3 : ByteArray := ⟨#[97, 47, 98, 47, 99, 46, 116, 120, 116]⟩
def ex4 : ByteArray := ⟨#[97, 47, 42, 42, 46, 116, 120, 116]⟩
theorem gm12 : GM ex1 ex2 = .tuple #[.bool true, .int .i64 0] := by kernel_rfl
theorem gm13 : GM ex1 ex3 = .tuple #[.bool false, .int .i64 0] := by kernel_rfl
theorem gm43 : GM ex4 ex3 = .tuple #[.bool true, .int .i64 0] := by kernel_rfl
theorem ex_size : ex1.size ≤ 2000000 ∧ ex2.size ≤ 2000000 ∧ ex3.size ≤ 2000000 ∧ ex4.size ≤ 2000000 := by decide
/-- The page's examples. -/
theorem gawake (w : World) (hA : Amb w) : Calls Tryd.prog 7 #[] w fun e w' => e = .returned (.bool true) ∧ Below w.heap.size w w' := by
  obtain ⟨z1, z2, z3, z4⟩ := ex_size
  have H1 := Lib.hid (fun (W : World) (hW : Below w.heap.size w W) => gmatch_any ex1 ex2 W (hA.below hW) z1 z2)
  have H2 := Lib.hid (fun (W : World) (hW : Below w.heap.size w W) => gmatch_any ex1 ex3 W (hA.below hW) z1 z3)
  have H3 := Lib.hid (fun (W : World) (hW : Below w.heap.size w W) => gmatch_any ex4 ex3 W (hA.below hW) z4 z3)
  rw [gm12] at H1
  rw [gm13] at H2
  rw [gm43] at H3
  clear hA z1 z2 z3 z4
  go_enter Tryd.func7, Tryd.ntmps7
  go_wp2_with (fail)
  refine (H1.out w (Below.refl _ _)).mono ?_
  rintro e w1 ⟨rfl, hb⟩
  have HB := Lib.hid hb
  clear hb
  go_wp2_with (fail)
  refine (H2.out w1 HB.out).mono ?_
  rintro e w2 ⟨rfl, hb⟩
  have HB := Lib.hid (HB.out.trans (hb.mono HB.out.size))
  clear hb
  go_wp2_with (fail)
  refine (H3.out w2 HB.out).mono ?_
  rintro e w3 ⟨rfl, hb⟩
  have HB := Lib.hid (HB.out.trans (hb.mono HB.out.size))
  clear hb
  go_wp2_with (fail)
  go_ret
  exact ⟨by rfl, HB.out⟩
end Go.Proofs.YtlmdpmfahfgjkaaDoor
