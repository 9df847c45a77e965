/- glob.Parse. -/
import Derived.Test.YtlmdpmfahfgjkaaDoorGlG
namespace Go.Proofs.YtlmdpmfahfgjkaaDoor
set_option maxRecDepth 100000
set_option linter.unusedVariables false
set_option linter.unusedSimpArgs false
open Go.RowKit
/-- What the conversion of a text to its signs makes. -/
theorem runes_world (s : ByteArray) (l : List Int) (w : World) (hs : s.size ≤ 2000000) (h : sg s.data.toList = some l) :
    ∃ (W : World) (cap : Nat), (convert 9 51 (.string s)).run Tryd.prog w = .ok (.slice (some ⟨w.heap.size, 0, none⟩) l.length cap) W ∧ l.length ≤ cap ∧ Below w.heap.size w W ∧ SgC .i32 W w.heap.size 0 l ∧ w.heap.size < W.heap.size := by
  have hr := runes_sg s l h
  have hlen := sg_length h
  have e : s.data.toList.length = s.size := Array.length_toList
  have hrun := run_runes_of_string (P := Tryd.prog) w 9 51 21 s Tryd.underlying9 Tryd.underlying51 Tryd.underlying21 (by rw [hr]; simp; omega)
  rw [hr] at hrun
  have hsz : ((l.map fun x => Value.int .i32 x).toArray).size = l.length := by simp
  rw [hsz] at hrun
  refine ⟨_, _, hrun, grownCap_ge _ _ _ _, ?_, ?_, ?_⟩
  · exact ((Below.refl w.heap.size w).drew).alloc (Nat.le_refl _) _
  · intro j c hj
    rw [World.cell?_alloc_at _ _ _ _ (by rfl)]
    have hl : j < l.length := (List.getElem?_eq_some_iff.1 hj).1
    rw [Nat.zero_add, Array.getElem?_append_left (by simpa using hl)]
    simp [hj]
  · simp
theorem Part_p_elim {l : List Int} {i : Nat} {w : World} {e : Ending} {w' : World} (h : Part_p l i w e w') : (partP l i = none ∧ (∃ (k0 s0 : Int) (a : Option Addr) (n c : Nat) (g : Bool), e = .returned (.tuple #[.agg #[.int .i64 k0, .int .i32 s0, .slice a n c, .bool g], .int .i64 0, .bool false])) ∧ Below w.heap.size w w') ∨
    (∃ p n, partP l i = some (p, n) ∧ (∃ v, e = .returned (.tuple #[.agg #[.int .i64 p.kind, .int .i32 p.sign, v, .bool p.neg], .int .i64 (n : Nat), .bool true]) ∧ Row w.heap.size 62 2 w' v p.rs.length (rcells .i32 p.rs)) ∧ Below w.heap.size w w') := by
  unfold Part_p at h
  cases hs : partP l i with
  | none => rw [hs] at h; exact .inl ⟨rfl, h⟩
  | some x => obtain ⟨p, n⟩ := x; rw [hs] at h; exact .inr ⟨p, n, rfl, h⟩
/-- What Parse says of a text: the signs, if it has them, and their parts. -/
def pars (s : ByteArray) : Option (List PartV) := (sg s.data.toList).bind parse
def Parse_p (s : ByteArray) (w : World) (e : Ending) (w' : World) : Prop :=
  match pars s with
  | none => e = .returned (.tuple #[.slice none 0 0, .int .i64 40]) ∧ Below w.heap.size w w'
  | some ps => (∃ v, e = .returned (.tuple #[v, .int .i64 0]) ∧ PatO .i32 35 62 w.heap.size w' v ps) ∧ Below w.heap.size w w'
theorem Parse_p_none {s : ByteArray} {w : World} {e : Ending} {w' : World} (h : pars s = none) (he : e = .returned (.tuple #[.slice none 0 0, .int .i64 40])) (hb : Below w.heap.size w w') : Parse_p s w e w' := by
  unfold Parse_p; rw [h]; exact ⟨he, hb⟩
theorem Parse_p_some {s : ByteArray} {w : World} {e : Ending} {w' : World} {ps : List PartV} (h : pars s = some ps) {v : Value} (he : e = .returned (.tuple #[v, .int .i64 0])) (hp : PatO .i32 35 62 w.heap.size w' v ps) (hb : Below w.heap.size w w') : Parse_p s w e w' := by
  unfold Parse_p; rw [h]; exact ⟨⟨v, he, hp⟩, hb⟩
theorem pars_bad {s : ByteArray} (h : u8 s = false) : pars s = none := by
  rw [u8_sg] at h
  unfold pars
  cases hs : sg s.data.toList with
  | none => rfl
  | some l => rw [hs] at h; cases h
theorem pars_good {s : ByteArray} (h : u8 s = true) : ∃ l, sg s.data.toList = some l ∧ pars s = parse l := by
  rw [u8_sg] at h
  unfold pars
  cases hs : sg s.data.toList with
  | none => rw [hs] at h; cases h
  | some l => exact ⟨l, rfl, rfl⟩
theorem parse_bad (s : ByteArray) (w : World) (hA : Amb w) (hs : s.size ≤ 9223372036854775807) (h : u8 s = false) : Calls Tryd.prog 8 #[.string s] w (Parse_p s w) := by
  have HU := Lib.hid (utf8_any s w hA hs)
  have HP := Lib.hid (pars_bad h)
  unfold U8 at HU
  rw [h] at HU
  clear hA h
  go_enter Tryd.func8, Tryd.ntmps8
  go_wp2_with (fail)
  refine HU.out.mono ?_
  rintro e w1 ⟨rfl, hb⟩
  have HB := Lib.hid hb
  clear hb
  go_wp2
  go_ret2
  exact Parse_p_none HP.out rfl HB.out
theorem PatO.snoc {k : IntKind} {te tr base : Nat} {w w' : World} {v v' : Value} {ps : List PartV} {p : PartV} {u : Value} {vs : List Value} (h1 : vs.length = ps.length) (h2 : ∀ (j : Nat) (u : Value) (p : PartV), vs[j]? = some u → ps[j]? = some p → Row 0 tr 2 w u p.rs.length (rcells k p.rs)) (h3 : Row base te 4 w v ps.length (pcells k vs ps))
    (hu : Row 0 tr 2 w u p.rs.length (rcells k p.rs)) (hne : tr ≠ te) (hr : Row base te 4 w' v' (ps.length + 1) (pcells k vs ps ++ [.int .i64 p.kind, .int k p.sign, u, .bool p.neg])) (hg : w.grownBy w' v.ownBlock) : PatO k te tr base w' v' (ps ++ [p]) := by
  refine ⟨vs ++ [u], by simp [h1], fun j x q hx hq => ?_, ?_⟩
  · by_cases hj : j < ps.length
    · rw [List.getElem?_append_left (by omega)] at hx
      rw [List.getElem?_append_left hj] at hq
      exact (h2 j x q hx hq).kept_ne h3 hg hne
    · have hjn : j = ps.length := by
        have := (List.getElem?_eq_some_iff.1 hq).1
        simp at this
        omega
      subst hjn
      simp only [List.getElem?_concat_length, Option.some.injEq] at hq
      rw [← h1] at hx
      simp only [List.getElem?_concat_length, Option.some.injEq] at hx
      subst hx hq
      exact hu.kept_ne h3 hg hne
  · rw [pcells_snoc k vs ps u p h1, List.length_append]
    exact hr
set_option maxHeartbeats 8000000 in
theorem parse_good (s : ByteArray) (l : List Int) (w : World) (hA : Amb w) (hs : s.size ≤ 2000000) (h : u8 s = true) (hl : sg s.data.toList = some l) (hp : pars s = parse l) : Calls Tryd.prog 8 #[.string s] w (Parse_p s w) := by
  have HU := Lib.hid (utf8_any s w hA (by omega))
  unfold U8 at HU
  rw [h] at HU
  have HW := Lib.hid (fun W => runes_world s l W hs hl)
  have hlen := sg_length hl
  have e : s.data.toList.length = s.size := Array.length_toList
  have hll : l.length ≤ 2000000 := by omega
  have HPP : Hid (pars s = parseR l 0 []) := Lib.hid hp
  clear hA h hlen e hs hl hp
  go_enter Tryd.func8, Tryd.ntmps8
  go_wp2_with (fail)
  refine HU.out.mono ?_
  rintro e w1 ⟨rfl, hb⟩
  have HB := Lib.hid hb
  have hz1 := hb.size
  clear hb HU
  obtain ⟨W2, cap, hconv, hcap, hb2, hsc, hz2⟩ := HW.out w1
  have HB := Lib.hid (HB.out.trans (hb2.mono hz1))
  have HSC := Lib.hid hsc
  go_upto_region 4 with (fail)
  clear hconv hb2 hsc HW
  have hbb : w1.heap.size < W2.heap.size := hz2
  generalize w1.heap.size = b at *
  have HR := Lib.hid (Row.empty (base := W2.heap.size) (e := 35) (size := 4) W2 (Nat.le_refl _))
  have HSC := Lib.hid (HSC.out.below ((Below.refl W2.heap.size W2).alloc (Nat.le_refl _) (.cells #[] 35)) hbb)
  have HB := Lib.hid (HB.out.trans (((Below.refl W2.heap.size W2).alloc (Nat.le_refl _) (.cells #[] 35)).mono (by omega)))
  have hz3 : W2.heap.size < (W2.alloc (.cells #[] 35)).heap.size := by simp
  go_upto_region 6 with (fail)
  generalize W2.alloc (.cells #[] 35) = W3 at *
  generalize W2.heap.size = B0 at *
  have HPO : Hid (PatO .i32 35 62 B0 W3 (.slice (some ⟨B0, 0, none⟩) 0 0) []) := Lib.hid ⟨[], rfl, fun j u p hu _ => by simp at hu, HR.out⟩
  clear HR
  have HM := Lib.hid (fun (W : World) (hW : Below W3.heap.size W3 W) => HSC.out.below hW (show b < W3.heap.size by omega))
  go_loopw [5, 6, 7, 8, 9] (fun v i _ _ _ wr => ∃ (i' : Nat) (ps : List PartV), i = .int .i64 i' ∧ i' ≤ l.length ∧ ps.length ≤ 256 ∧ ps.length ≤ i' ∧ B0 < wr.heap.size ∧ W3.heap.size ≤ wr.heap.size ∧ Hid (parseR l i' ps = parseR l 0 []) ∧ Hid (PatO .i32 35 62 B0 wr v ps) ∧ Hid (Below B0 W3 wr)) (fun _ i _ _ _ _ => l.length - (intOf i).toNat)
  case atStart => exact ⟨0, [], rfl, by omega, by simp, by simp, hz3, Nat.le_refl _, Lib.hid rfl, HPO, Lib.hid (Below.refl _ _)⟩
  case round =>
    clear HPO
    obtain ⟨i, ps, rfl, hi, hp256, hps, hzr, hzr2, HST, HPO, HBR⟩ := hrel
    obtain ⟨av, cv, rfl, hcv⟩ := HPO.out.form
    have HCr := Lib.hid (HSC.out.below HBR.out (show b < B0 by omega))
    obtain ⟨wo, rfl⟩ : ∃ z : World, z = wr := ⟨_, rfl⟩
    by_cases hlt : i < l.length
    rotate_left
    · have d1 : decide (i < l.length) = false := decide_eq_false (by omega)
      have d2 : decide ((i : Int) < (l.length : Int)) = false := decide_eq_false (by omega)
      have HY := Lib.hid (HPP.out.trans (HST.out.symm.trans (parseR_end (out := ps) (show l.length ≤ i by omega))))
      have HZ := Lib.hid (HB.out.trans (HBR.out.mono (show w.heap.size ≤ B0 by omega)))
      clear hlt
      go_wp2_with (fail)
      go_ret2
      refine Parse_p_some HY.out rfl ?_ HZ.out
      obtain ⟨vs, k1, k2, k3⟩ := HPO.out
      exact ⟨vs, k1, k2, k3.mono (by omega)⟩
    have d1 : decide (i < l.length) = true := decide_eq_true hlt
    have d2 : decide ((i : Int) < (l.length : Int)) = true := decide_eq_true (by omega)
    have HRP := Lib.hid (readPart_any b 0 cap l i wo HCr.out (by omega) hll hlt)
    go_wp2_with (fail)
    refine HRP.out.mono ?_
    rintro e w4 hq
    rcases Part_p_elim hq with ⟨hpn, ⟨k0, s0, a, n, cc, g, rfl⟩, hb1⟩ | ⟨p, n, hpn, ⟨u, rfl, hr⟩, hb1⟩
    · have HN := Lib.hid (HPP.out.trans (HST.out.symm.trans (parseR_none hlt hpn)))
      have HZ := Lib.hid ((HB.out.trans (HBR.out.mono (show w.heap.size ≤ B0 by omega))).trans (hb1.mono (show w.heap.size ≤ wo.heap.size by omega)))
      have HZ2 := Lib.hid (fun cs : Array Value => HZ.out.alloc (show w.heap.size ≤ w4.heap.size by have := hb1.size; omega) (.cells cs 35))
      clear hq hpn hb1 d1 d2
      go_wp2_with (fail)
      go_ret2
      exact Parse_p_none HN.out rfl (HZ2.out _)
    obtain ⟨au, cu, rfl, hcu⟩ := Row.form hr
    have hnl := partP_lt hpn
    by_cases h256 : 256 ≤ ps.length
    · have HN := Lib.hid (HPP.out.trans (HST.out.symm.trans (parseR_many (out := ps) hlt h256)))
      have HZ := Lib.hid ((HB.out.trans (HBR.out.mono (show w.heap.size ≤ B0 by omega))).trans (hb1.mono (show w.heap.size ≤ wo.heap.size by omega)))
      have HZ2 := Lib.hid (fun cs : Array Value => HZ.out.alloc (show w.heap.size ≤ w4.heap.size by have := hb1.size; omega) (.cells cs 35))
      have t256 : ((ps.length : Int) == 256) = true := by rw [beq_iff_eq]; omega
      have t256' : (ps.length == 256) = true := by rw [beq_iff_eq]; omega
      clear hq hpn hb1 hr d1 d2 h256
      go_wp2_with (fail)
      go_ret2
      exact Parse_p_none HN.out rfl (HZ2.out _)
    have HPO := Lib.hid (HPO.out.below hb1)
    have HRU := Lib.hid (Row.mono hr (Nat.zero_le _))
    have HG := Lib.hid ((parseR_go (out := ps) hlt hpn (by omega)).symm.trans HST.out)
    have HBR := Lib.hid (HBR.out.trans (hb1.mono (by omega)))
    have hz4 := hb1.size
    clear hq hpn hb1 hr d1 d2 HCr HRP
    have t256 : ((ps.length : Int) == 256) = false := by rw [beq_eq_false_iff_ne]; omega
    have t256' : (ps.length == 256) = false := by rw [beq_eq_false_iff_ne]; omega
    have hA1 := (Below.refl w4.heap.size w4).alloc (Nat.le_refl _) (.cells #[.int .i64 p.kind, .int .i32 p.sign, .slice au p.rs.length cu, .bool p.neg] 35)
    have HPO := Lib.hid (HPO.out.below hA1)
    have HRU := Lib.hid (HRU.out.below hA1)
    have HBR := Lib.hid (HBR.out.trans (hA1.mono (by omega)))
    have HPB := Lib.hid (Own.new_at w4 [.int .i64 p.kind, .int .i32 p.sign, .slice au p.rs.length cu, .bool p.neg] 35 w4.heap.size rfl)
    have hz5 : w4.heap.size < (w4.alloc (.cells #[.int .i64 p.kind, .int .i32 p.sign, .slice au p.rs.length cu, .bool p.neg] 35)).heap.size := by simp
    go_upto_region 8 with (fail)
    clear hA1
    generalize w4.alloc (.cells #[.int .i64 p.kind, .int .i32 p.sign, .slice au p.rs.length cu, .bool p.neg] 35) = w5 at *
    generalize w4.heap.size = bp at *
    have y0 := HPB.out.1 0 _ rfl
    have y1 := HPB.out.1 1 _ rfl
    have y2 := HPB.out.1 2 _ rfl
    have y3 := HPB.out.1 3 _ rfl
    have hA2 := (Below.refl w5.heap.size w5).alloc (Nat.le_refl _) (.cells #[.int .i64 p.kind, .int .i32 p.sign, .slice au p.rs.length cu, .bool p.neg] 35)
    have HPO := Lib.hid (HPO.out.below hA2)
    have HRU := Lib.hid (HRU.out.below hA2)
    have HBR := Lib.hid (HBR.out.trans (hA2.mono (by omega)))
    obtain ⟨vs, j1, j2, j3⟩ := HPO.out
    have J2 := Lib.hid j2
    have J3 := Lib.hid j3
    have J1 := Lib.hid j1
    clear j1 j2 j3 HPO hA2
    go_wp2_with (at_builtin; refine append_rowG Tryd.underlying24 info_part_p rfl (by decide) rfl _ _ rfl rfl J3.out rfl (Sl.new _ 4 1 [.int .i64 p.kind, .int .i32 p.sign, .slice au p.rs.length cu, .bool p.neg] 35 rfl) (four_one _ _ _ _ _ _ _) ?_ ?_ ?_ ?_; omega; omega; (simp; omega))
    intro v6 w6 hr6 hb6 hg6
    have HPO : Hid (PatO .i32 35 62 B0 w6 v6 (ps ++ [p])) := Lib.hid (PatO.snoc J1.out J2.out J3.out HRU.out (by decide) hr6 hg6)
    have HBR := Lib.hid (HBR.out.trans hb6)
    have hz6 := hb6.size
    clear hr6 hb6 hg6 y0 y1 y2 y3 J1 J2 J3 HRU
    go_wp2_with (fail)
    go_roundw
    case rel => exact ⟨n, ps ++ [p], rfl, by omega, by simp only [List.length_append, List.length_cons, List.length_nil]; omega, by simp only [List.length_append, List.length_cons, List.length_nil]; omega, by simp at hz6; omega, by simp at hz6; omega, Lib.hid HG.out, HPO, HBR⟩
    case measure => simp [intOf]; omega
end Go.Proofs.YtlmdpmfahfgjkaaDoor
