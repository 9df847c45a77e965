/- The page's Signs and Parse of layer 46. -/
import Derived.Test.YtlmdpmfahfgjkaaDoorGlF
import Derived.Test.YtlmdpmfahfgjkaaDoorGlH
namespace Go.Proofs.YtlmdpmfahfgjkaaDoor
set_option maxRecDepth 100000
set_option linter.unusedVariables false
set_option linter.unusedSimpArgs false
open Go.RowKit
theorem info_int : (Tryd.prog.info? 3).map (fun i => (i.zero, i.size, i.bytes)) = some (some (.int .i64 0), 1, 8) := by kernel_rfl
def icells (l : List Int) : List Value := l.map (Value.int .i64)
/-- What the page's Signs does. -/
def Signs_r (s : ByteArray) (w : World) (e : Ending) (w' : World) : Prop :=
  match sg s.data.toList with
  | none => e = .returned (.tuple #[.slice none 0 0, .bool false]) ∧ Below w.heap.size w w'
  | some l => (∃ v, e = .returned (.tuple #[v, .bool true]) ∧ Row w.heap.size 3 1 w' v l.length (icells l)) ∧ Below w.heap.size w w'
theorem Signs_r_none {s : ByteArray} {w : World} {e : Ending} {w' : World} (h : sg s.data.toList = none) (he : e = .returned (.tuple #[.slice none 0 0, .bool false])) (hb : Below w.heap.size w w') : Signs_r s w e w' := by
  unfold Signs_r; rw [h]; exact ⟨he, hb⟩
theorem Signs_r_some {s : ByteArray} {w : World} {e : Ending} {w' : World} {l : List Int} (h : sg s.data.toList = some l) {v : Value} (he : e = .returned (.tuple #[v, .bool true])) (hr : Row w.heap.size 3 1 w' v l.length (icells l)) (hb : Below w.heap.size w w') : Signs_r s w e w' := by
  unfold Signs_r; rw [h]; exact ⟨⟨v, he, hr⟩, hb⟩
theorem one_one (k : IntKind) (c : Int) : ∀ u ∈ [Value.int k c], u.oneCell' = true := by
  intro u hu
  simp only [List.mem_cons, List.not_mem_nil, or_false] at hu
  rw [hu]; rfl
theorem sg_step {t : ByteArray} {acc : List Int} {R : Option (List Int)} (h : (sg t.data.toList).map (fun r => acc ++ r) = R) (h0 : 0 < t.size) (hd : (rn t).2 ≠ 0) : (sg (t.extract (rn t).2 t.size).data.toList).map (fun r => (acc ++ [((rn t).1 : Int)]) ++ r) = R := by
  have e : t.data.toList.length = t.size := Array.length_toList
  rw [ext_drop, ← h]
  rw [rn_dl] at hd ⊢
  rw [sg_go (by omega) hd, Option.map_map]
  congr 1
  funext r
  simp
set_option maxHeartbeats 4000000 in
theorem signs_any (s : ByteArray) (w : World) (hs : s.size ≤ 2000000) : Calls Tryd.prog 11 #[.string s] w (Signs_r s w) := by
  go_enter Tryd.func11, Tryd.ntmps11
  go_wp2_with (fail)
  go_loopw [0, 4, 5, 6] (fun sv v _ _ wr => ∃ (t : ByteArray) (acc : List Int), sv = .string t ∧ t.size + acc.length ≤ 2000000 ∧ Hid ((sg t.data.toList).map (fun r => acc ++ r) = sg s.data.toList) ∧ Hid (Row w.heap.size 3 1 wr v acc.length (icells acc)) ∧ Hid (Below w.heap.size w wr)) (fun sv _ _ _ _ => szOf sv)
  case atStart => exact ⟨s, [], rfl, by simp; omega, Lib.hid (by simp), Lib.hid Row.nil, Lib.hid (Below.refl _ _)⟩
  case round =>
    obtain ⟨t, acc, rfl, hta, HT, HR, HB⟩ := hrel
    obtain ⟨av, cv, rfl, hcv⟩ := HR.out.form
    obtain ⟨wo, rfl⟩ : ∃ z : World, z = wr := ⟨_, rfl⟩
    have e : t.data.toList.length = t.size := Array.length_toList
    by_cases hz : t.size = 0
    · have h0 : decide (0 < t.size) = false := decide_eq_false (by omega)
      have h1 : decide ((0 : Int) < (t.size : Int)) = false := decide_eq_false (by omega)
      have HY : Hid (sg s.data.toList = some acc) := Lib.hid (by
        have hn : t.data.toList = [] := List.eq_nil_of_length_eq_zero (by omega)
        rw [← HT.out, hn]; simp [sg_nil])
      clear hz e
      go_wp2_with (fail)
      go_ret2
      exact Signs_r_some HY.out rfl HR.out HB.out
    · have h0 : 0 < t.size := by omega
      have h0' : decide (0 < t.size) = true := decide_eq_true h0
      have hle := rn_le t
      have HRu := Lib.hid (refRune_any t wo (by omega))
      unfold RuQ at HRu
      by_cases hk : (rn t).2 = 0
      · have HN : Hid (sg s.data.toList = none) := Lib.hid (by
          rw [← HT.out, sg_bad (by omega) (by rw [← rn_dl]; exact hk)]; rfl)
        have hd : (((rn t).2 : Int) == 0) = true := by simp [hk]
        have hd' : ((rn t).2 == 0) = true := by simp [hk]
        clear hk e hz
        generalize rn t = r at *
        obtain ⟨r1, r2⟩ := r
        simp only at *
        go_wp2_with (fail)
        refine HRu.out.mono ?_
        rintro e w1 ⟨rfl, hb⟩
        have HB := Lib.hid (HB.out.trans (hb.mono HB.out.size))
        clear hb
        go_wp2_with (fail)
        go_ret2
        exact Signs_r_none HN.out rfl HB.out
      · have HST := Lib.hid (sg_step HT.out h0 hk)
        have hd : (((rn t).2 : Int) == 0) = false := by rw [beq_eq_false_iff_ne]; omega
        have hd' : ((rn t).2 == 0) = false := by rw [beq_eq_false_iff_ne]; omega
        have hpos : 0 < (rn t).2 := by omega
        have HSZ := Lib.hid (ext_size t (rn t).2)
        clear hk e hz HT
        generalize rn t = r at *
        obtain ⟨r1, r2⟩ := r
        simp only at *
        go_wp2_with (fail)
        refine HRu.out.mono ?_
        rintro e w1 ⟨rfl, hb⟩
        have hzb := hb.size
        have HR := Lib.hid (HR.out.below hb)
        have HB := Lib.hid (HB.out.trans (hb.mono HB.out.size))
        clear hb HRu
        have hzz := HB.out.size
        go_wp2_with (at_builtin; refine append_row Tryd.underlying37 info_int rfl (by decide) rfl _ _ rfl rfl (HR.out.below ((Below.refl _ _).alloc (Nat.le_refl _) (.cells #[.int .i64 (r1 : Nat)] 3))) rfl (Sl.new _ 1 1 [.int .i64 (r1 : Nat)] 3 rfl) (one_one _ _) ?_ ?_ ?_ ?_; omega; omega; (simp; omega))
        intro v2 w2 hr2 hb2
        obtain ⟨a2, c2, rfl, hc2⟩ := Row.form hr2
        have HR2 : Hid (Row w.heap.size 3 1 w2 (.slice a2 (acc.length + 1) c2) (acc ++ [(r1 : Int)]).length (icells (acc ++ [(r1 : Int)]))) := Lib.hid (by
          rw [List.length_append]; unfold icells; rw [List.map_append]; exact hr2)
        have HB := Lib.hid ((HB.out.alloc hzz (.cells #[.int .i64 (r1 : Nat)] 3)).trans hb2)
        clear hr2 hb2 HR
        go_wp2_with (fail)
        go_roundw
        case rel => exact ⟨_, acc ++ [(r1 : Int)], rfl, by rw [HSZ.out]; simp only [List.length_append, List.length_cons, List.length_nil]; omega, HST, HR2, HB⟩
        case measure => show (t.extract r2 t.size).size < t.size; rw [HSZ.out]; omega
/-- What the page's Parse does. -/
def Parse_r (s : ByteArray) (w : World) (e : Ending) (w' : World) : Prop :=
  match pars s with
  | none => e = .returned (.tuple #[.slice none 0 0, .bool false]) ∧ Below w.heap.size w w'
  | some ps => (∃ v, e = .returned (.tuple #[v, .bool true]) ∧ PatO .i64 56 63 w.heap.size w' v ps) ∧ Below w.heap.size w w'
theorem Parse_r_none {s : ByteArray} {w : World} {e : Ending} {w' : World} (h : pars s = none) (he : e = .returned (.tuple #[.slice none 0 0, .bool false])) (hb : Below w.heap.size w w') : Parse_r s w e w' := by
  unfold Parse_r; rw [h]; exact ⟨he, hb⟩
theorem Parse_r_some {s : ByteArray} {w : World} {e : Ending} {w' : World} {ps : List PartV} (h : pars s = some ps) {v : Value} (he : e = .returned (.tuple #[v, .bool true])) (hp : PatO .i64 56 63 w.heap.size w' v ps) (hb : Below w.heap.size w w') : Parse_r s w e w' := by
  unfold Parse_r; rw [h]; exact ⟨⟨v, he, hp⟩, hb⟩
theorem refParse_bad (s : ByteArray) (w : World) (hs : s.size ≤ 2000000) (h : sg s.data.toList = none) : Calls Tryd.prog 9 #[.string s] w (Parse_r s w) := by
  have HU := Lib.hid (signs_any s w hs)
  unfold Signs_r at HU
  rw [h] at HU
  have HP : Hid (pars s = none) := Lib.hid (by unfold pars; rw [h]; rfl)
  clear h
  go_enter Tryd.func9, Tryd.ntmps9
  go_wp2_with (fail)
  refine HU.out.mono ?_
  rintro e w1 ⟨rfl, hb⟩
  have HB := Lib.hid hb
  clear hb
  go_wp2
  go_ret2
  exact Parse_r_none HP.out rfl HB.out
theorem Set_r_elim {l : List Int} {i : Nat} {w : World} {e : Ending} {w' : World} (h : Set_r l i w e w') : (setS l i = none ∧ (∃ (k0 s0 : Int) (a : Option Addr) (n c : Nat) (g : Bool), e = .returned (.tuple #[.agg #[.int .i64 k0, .int .i64 s0, .slice a n c, .bool g], .int .i64 0, .bool false])) ∧ Below w.heap.size w w') ∨
    (∃ p n, setS l i = some (p, n) ∧ (∃ v, e = .returned (.tuple #[.agg #[.int .i64 5, .int .i64 0, v, .bool p.neg], .int .i64 (n : Nat), .bool true]) ∧ Row w.heap.size 63 2 w' v p.rs.length (rcells .i64 p.rs)) ∧ Below w.heap.size w w') := by
  unfold Set_r at h
  cases hs : setS l i with
  | none => rw [hs] at h; exact .inl ⟨rfl, h⟩
  | some x => obtain ⟨p, n⟩ := x; rw [hs] at h; exact .inr ⟨p, n, rfl, h⟩
set_option maxHeartbeats 16000000 in
theorem refParse_good (s : ByteArray) (l : List Int) (w : World) (hs : s.size ≤ 2000000) (hl : sg s.data.toList = some l) : Calls Tryd.prog 9 #[.string s] w (Parse_r s w) := by
  have HU := Lib.hid (signs_any s w hs)
  unfold Signs_r at HU
  rw [hl] at HU
  have hlen := sg_length hl
  have e : s.data.toList.length = s.size := Array.length_toList
  have hll : l.length ≤ 2000000 := by omega
  have HPP : Hid (pars s = parseR l 0 []) := Lib.hid (by unfold pars; rw [hl]; rfl)
  clear hlen e hs hl
  go_enter Tryd.func9, Tryd.ntmps9
  go_wp2_with (fail)
  refine HU.out.mono ?_
  rintro e w1 ⟨⟨v, rfl, hr⟩, hb⟩
  have HB := Lib.hid hb
  have HSL := Lib.hid (Row.sl hr)
  have hz1 := hb.size
  obtain ⟨al, cl, rfl, hcl⟩ := Row.form hr
  clear hb HU hr
  go_wp2_with (fail)
  have HPO : Hid (PatO .i64 56 63 w1.heap.size w1 (.slice none 0 0) []) := Lib.hid ⟨[], rfl, fun j u p hu _ => by simp at hu, Row.nil⟩
  go_loopw [5, 6, 7, 8] (fun g v i _ wr => ∃ (i' : Nat) (ps : List PartV), g = .bool true ∧ i = .int .i64 i' ∧ i' ≤ l.length ∧ ps.length ≤ i' ∧ w1.heap.size ≤ wr.heap.size ∧ w1.heap.size ≤ wr.heap.size ∧ Hid (parseR l i' ps = parseR l 0 []) ∧ Hid (PatO .i64 56 63 w1.heap.size wr v ps) ∧ Hid (Below w1.heap.size w1 wr)) (fun _ _ i _ _ => l.length - (intOf i).toNat)
  case atStart => exact ⟨0, [], rfl, rfl, by omega, by simp, Nat.le_refl _, Nat.le_refl _, Lib.hid rfl, HPO, Lib.hid (Below.refl _ _)⟩
  case round =>
    clear HPO
    obtain ⟨i, ps, rfl, rfl, hi, hps, hzr, hzr2, HST, HPO, HBR⟩ := hrel
    obtain ⟨av, cv, rfl, hcv⟩ := HPO.out.form
    obtain ⟨wo, rfl⟩ : ∃ z : World, z = wr := ⟨_, rfl⟩
    by_cases hlt : i < l.length
    rotate_left
    · have d1 : decide (i < l.length) = false := decide_eq_false (by omega)
      have d2 : decide ((i : Int) < (l.length : Int)) = false := decide_eq_false (by omega)
      have HY := Lib.hid (HPP.out.trans (HST.out.symm.trans (parseR_end (out := ps) (show l.length ≤ i by omega))))
      have HZ := Lib.hid (HB.out.trans (HBR.out.mono (show w.heap.size ≤ w1.heap.size by omega)))
      clear hlt
      go_wp2_with (fail)
      go_ret2
      refine Parse_r_some HY.out rfl ?_ HZ.out
      obtain ⟨vs, k1, k2, k3⟩ := HPO.out
      exact ⟨vs, k1, k2, k3.mono (by omega)⟩
    obtain ⟨b, off, cap, hlv, _, hbb, hsc⟩ := Sl.sgc HSL.out (by omega)
    injection hlv with hla _ hlc
    subst hla hlc
    have HSC : Hid (SgC .i64 wo b off l) := Lib.hid (hsc.below HBR.out hbb)
    have HSCA := Lib.hid (fun (W : World) (hW : Below wo.heap.size wo W) => HSC.out.below hW (show b < wo.heap.size by omega))
    clear hsc
    have d1 : decide (i < l.length) = true := decide_eq_true hlt
    have d2 : decide ((i : Int) < (l.length : Int)) = true := decide_eq_true (by omega)
    have q1 : IntKind.i64.wrap ((i : Int) + 1) = (i : Int) + 1 := IntWalk.i64_in _ (by omega)
    have q2 : IntKind.i64.wrap ((i : Int) + 1 + 1) = (i : Int) + 1 + 1 := IntWalk.i64_in _ (by omega)
    generalize hB0 : w1.heap.size = B0 at *
    clear hB0
    obtain ⟨c, hci⟩ : ∃ c, l[i]? = some c := ⟨_, List.getElem?_eq_getElem hlt⟩
    have k1 := HSC.out i c hci
    have HK1 := Lib.hid (fun o : Obj => HSCA.out _ ((Below.refl wo.heap.size wo).alloc (Nat.le_refl _) o) i c hci)
    by_cases c63 : c = 63
    · subst c63
      have kk := fun o : Obj => HK1.out o
      have HPN := Lib.hid (show partP l i = some (⟨2, 0, [], false⟩, i + 1) from by unfold partP; rw [if_pos hci])
      have HRU : Hid (Row 0 63 2 (wo.alloc (.cells #[.int .i64 2, .int .i64 0, .slice none 0 0, .bool false] 56)) (.slice none 0 0) ([] : List (Int × Int)).length (rcells .i64 [])) := Lib.hid Row.nil
      have hA1 := (Below.refl wo.heap.size wo).alloc (Nat.le_refl _) (.cells #[.int .i64 2, .int .i64 0, .slice none 0 0, .bool false] 56)
      have HPO := Lib.hid (HPO.out.below hA1)
      have HBR := Lib.hid (HBR.out.trans (hA1.mono (by omega)))
      have HZ := Lib.hid (HB.out.trans (HBR.out.mono (show w.heap.size ≤ B0 by omega)))
      have HPB := Lib.hid (Own.new_at wo [.int .i64 2, .int .i64 0, .slice none 0 0, .bool false] 56 wo.heap.size rfl)
      have hz5 : wo.heap.size < (wo.alloc (.cells #[.int .i64 2, .int .i64 0, .slice none 0 0, .bool false] 56)).heap.size := by simp
      go_upto_region 21 with (fail)
      clear hA1
      generalize wo.alloc (.cells #[.int .i64 2, .int .i64 0, .slice none 0 0, .bool false] 56) = w5 at *
      generalize wo.heap.size = bp at *
      by_cases h256 : 256 ≤ ps.length
      · have HN := Lib.hid (HPP.out.trans (HST.out.symm.trans (parseR_many (out := ps) hlt h256)))
        have t256 : decide (256 ≤ ps.length) = true := decide_eq_true h256
        have t256' : decide ((256 : Int) ≤ (ps.length : Int)) = true := decide_eq_true (by omega)
        clear h256
        go_wp2_with (fail)
        go_ret2
        exact Parse_r_none HN.out rfl HZ.out
      have HG := Lib.hid ((parseR_go (out := ps) hlt HPN.out (by omega)).symm.trans HST.out)
      have hnl := partP_lt HPN.out
      have t256 : decide (256 ≤ ps.length) = false := decide_eq_false h256
      have t256' : decide ((256 : Int) ≤ (ps.length : Int)) = false := decide_eq_false (by omega)
      have y0 := HPB.out.1 0 _ rfl
      have y1 := HPB.out.1 1 _ rfl
      have y2 := HPB.out.1 2 _ rfl
      have y3 := HPB.out.1 3 _ rfl
      have hA2 := (Below.refl w5.heap.size w5).alloc (Nat.le_refl _) (.cells #[.int .i64 2, .int .i64 0, .slice none 0 0, .bool false] 56)
      have HPO := Lib.hid (HPO.out.below hA2)
      have HRU := Lib.hid (HRU.out.below hA2)
      have HBR := Lib.hid (HBR.out.trans (hA2.mono (by omega)))
      obtain ⟨vs, j1, j2, j3⟩ := HPO.out
      have J2 := Lib.hid j2
      have J3 := Lib.hid j3
      have J1 := Lib.hid j1
      clear j1 j2 j3 HPO hA2
      go_wp2_with (at_builtin; refine append_rowG Tryd.underlying28 info_part_r rfl (by decide) rfl _ _ rfl rfl J3.out rfl (Sl.new _ 4 1 [.int .i64 2, .int .i64 0, .slice none 0 0, .bool false] 56 rfl) (four_one _ _ _ _ _ _ _) ?_ ?_ ?_ ?_; omega; omega; (simp; omega))
      intro v6 w6 hr6 hb6 hg6
      have HPO : Hid (PatO .i64 56 63 B0 w6 v6 (ps ++ [(⟨2, 0, [], false⟩ : PartV)])) := Lib.hid (PatO.snoc (p := (⟨2, 0, [], false⟩ : PartV)) J1.out J2.out J3.out HRU.out (by decide) hr6 hg6)
      have HBR := Lib.hid (HBR.out.trans hb6)
      have hz6 := hb6.size
      clear hr6 hb6 hg6 y0 y1 y2 y3 J1 J2 J3 HRU
      go_wp2_with (fail)
      go_roundw
      case rel => exact ⟨(i + 1), ps ++ [(⟨2, 0, [], false⟩ : PartV)], rfl, by go_num, by omega, by simp only [List.length_append, List.length_cons, List.length_nil]; omega, by simp at hz6; omega, by simp at hz6; omega, Lib.hid HG.out, HPO, HBR⟩
      case measure => simp [intOf]; omega
    have t63 : (c == 63) = false := by simpa using c63
    by_cases c42 : c = 42
    · subst c42
      by_cases h2 : l[i + 1]? = some 42
      · have hlt2 : i + 1 < l.length := (List.getElem?_eq_some_iff.1 h2).1
        have d3 : decide ((i : Int) + 1 < (l.length : Int)) = true := decide_eq_true (by omega)
        have k2 := fun o : Obj => HSCA.out _ ((Below.refl wo.heap.size wo).alloc (Nat.le_refl _) o) (i + 1) 42 h2
        have kk := HK1.out
        have HPN := Lib.hid (show partP l i = some (⟨4, 0, [], false⟩, i + 2) from by unfold partP; rw [if_neg (by rw [hci]; simp), if_pos hci, if_pos h2])
        have HRU : Hid (Row 0 63 2 (wo.alloc (.cells #[.int .i64 4, .int .i64 0, .slice none 0 0, .bool false] 56)) (.slice none 0 0) ([] : List (Int × Int)).length (rcells .i64 [])) := Lib.hid Row.nil
        have hA1 := (Below.refl wo.heap.size wo).alloc (Nat.le_refl _) (.cells #[.int .i64 4, .int .i64 0, .slice none 0 0, .bool false] 56)
        have HPO := Lib.hid (HPO.out.below hA1)
        have HBR := Lib.hid (HBR.out.trans (hA1.mono (by omega)))
        have HZ := Lib.hid (HB.out.trans (HBR.out.mono (show w.heap.size ≤ B0 by omega)))
        have HPB := Lib.hid (Own.new_at wo [.int .i64 4, .int .i64 0, .slice none 0 0, .bool false] 56 wo.heap.size rfl)
        have hz5 : wo.heap.size < (wo.alloc (.cells #[.int .i64 4, .int .i64 0, .slice none 0 0, .bool false] 56)).heap.size := by simp
        go_upto_region 21 with (fail)
        clear hA1
        generalize wo.alloc (.cells #[.int .i64 4, .int .i64 0, .slice none 0 0, .bool false] 56) = w5 at *
        generalize wo.heap.size = bp at *
        by_cases h256 : 256 ≤ ps.length
        · have HN := Lib.hid (HPP.out.trans (HST.out.symm.trans (parseR_many (out := ps) hlt h256)))
          have t256 : decide (256 ≤ ps.length) = true := decide_eq_true h256
          have t256' : decide ((256 : Int) ≤ (ps.length : Int)) = true := decide_eq_true (by omega)
          clear h256
          go_wp2_with (fail)
          go_ret2
          exact Parse_r_none HN.out rfl HZ.out
        have HG := Lib.hid ((parseR_go (out := ps) hlt HPN.out (by omega)).symm.trans HST.out)
        have hnl := partP_lt HPN.out
        have t256 : decide (256 ≤ ps.length) = false := decide_eq_false h256
        have t256' : decide ((256 : Int) ≤ (ps.length : Int)) = false := decide_eq_false (by omega)
        have y0 := HPB.out.1 0 _ rfl
        have y1 := HPB.out.1 1 _ rfl
        have y2 := HPB.out.1 2 _ rfl
        have y3 := HPB.out.1 3 _ rfl
        have hA2 := (Below.refl w5.heap.size w5).alloc (Nat.le_refl _) (.cells #[.int .i64 4, .int .i64 0, .slice none 0 0, .bool false] 56)
        have HPO := Lib.hid (HPO.out.below hA2)
        have HRU := Lib.hid (HRU.out.below hA2)
        have HBR := Lib.hid (HBR.out.trans (hA2.mono (by omega)))
        obtain ⟨vs, j1, j2, j3⟩ := HPO.out
        have J2 := Lib.hid j2
        have J3 := Lib.hid j3
        have J1 := Lib.hid j1
        clear j1 j2 j3 HPO hA2
        go_wp2_with (at_builtin; refine append_rowG Tryd.underlying28 info_part_r rfl (by decide) rfl _ _ rfl rfl J3.out rfl (Sl.new _ 4 1 [.int .i64 4, .int .i64 0, .slice none 0 0, .bool false] 56 rfl) (four_one _ _ _ _ _ _ _) ?_ ?_ ?_ ?_; omega; omega; (simp; omega))
        intro v6 w6 hr6 hb6 hg6
        have HPO : Hid (PatO .i64 56 63 B0 w6 v6 (ps ++ [(⟨4, 0, [], false⟩ : PartV)])) := Lib.hid (PatO.snoc (p := (⟨4, 0, [], false⟩ : PartV)) J1.out J2.out J3.out HRU.out (by decide) hr6 hg6)
        have HBR := Lib.hid (HBR.out.trans hb6)
        have hz6 := hb6.size
        clear hr6 hb6 hg6 y0 y1 y2 y3 J1 J2 J3 HRU
        go_wp2_with (fail)
        go_roundw
        case rel => exact ⟨(i + 2), ps ++ [(⟨4, 0, [], false⟩ : PartV)], rfl, by go_num, by omega, by simp only [List.length_append, List.length_cons, List.length_nil]; omega, by simp at hz6; omega, by simp at hz6; omega, Lib.hid HG.out, HPO, HBR⟩
        case measure => simp [intOf]; omega
      · have hdf : decide ((i : Int) + 1 < (l.length : Int)) = false ∨ (decide ((i : Int) + 1 < (l.length : Int)) = true ∧ i + 1 < l.length ∧ ∃ c, (∀ o : Obj, (wo.alloc o).cell? ⟨b, off + (i + 1), none⟩ = some (.int .i64 c)) ∧ (c == 42) = false) := by
          by_cases h3 : i + 1 < l.length
          · right
            refine ⟨decide_eq_true (by omega), h3, l[i + 1], fun o => HSCA.out _ ((Below.refl wo.heap.size wo).alloc (Nat.le_refl _) o) (i + 1) _ (List.getElem?_eq_getElem h3), ?_⟩
            rw [List.getElem?_eq_getElem h3] at h2
            simpa using h2
          · left; exact decide_eq_false (by omega)
        have HP3 := Lib.hid (show partP l i = some (⟨3, 0, [], false⟩, i + 1) from by unfold partP; rw [if_neg (by rw [hci]; simp), if_pos hci, if_neg h2])
        clear h2
        have kk := HK1.out
        rcases hdf with d3 | ⟨d3, hlt2, c2, k2, d4⟩
        all_goals
          have HPN := Lib.hid (HP3.out)
          have HRU : Hid (Row 0 63 2 (wo.alloc (.cells #[.int .i64 3, .int .i64 0, .slice none 0 0, .bool false] 56)) (.slice none 0 0) ([] : List (Int × Int)).length (rcells .i64 [])) := Lib.hid Row.nil
          have hA1 := (Below.refl wo.heap.size wo).alloc (Nat.le_refl _) (.cells #[.int .i64 3, .int .i64 0, .slice none 0 0, .bool false] 56)
          have HPO := Lib.hid (HPO.out.below hA1)
          have HBR := Lib.hid (HBR.out.trans (hA1.mono (by omega)))
          have HZ := Lib.hid (HB.out.trans (HBR.out.mono (show w.heap.size ≤ B0 by omega)))
          have HPB := Lib.hid (Own.new_at wo [.int .i64 3, .int .i64 0, .slice none 0 0, .bool false] 56 wo.heap.size rfl)
          have hz5 : wo.heap.size < (wo.alloc (.cells #[.int .i64 3, .int .i64 0, .slice none 0 0, .bool false] 56)).heap.size := by simp
          go_upto_region 21 with (fail)
          clear hA1
          generalize wo.alloc (.cells #[.int .i64 3, .int .i64 0, .slice none 0 0, .bool false] 56) = w5 at *
          generalize wo.heap.size = bp at *
          by_cases h256 : 256 ≤ ps.length
          · have HN := Lib.hid (HPP.out.trans (HST.out.symm.trans (parseR_many (out := ps) hlt h256)))
            have t256 : decide (256 ≤ ps.length) = true := decide_eq_true h256
            have t256' : decide ((256 : Int) ≤ (ps.length : Int)) = true := decide_eq_true (by omega)
            clear h256
            go_wp2_with (fail)
            go_ret2
            exact Parse_r_none HN.out rfl HZ.out
          have HG := Lib.hid ((parseR_go (out := ps) hlt HPN.out (by omega)).symm.trans HST.out)
          have hnl := partP_lt HPN.out
          have t256 : decide (256 ≤ ps.length) = false := decide_eq_false h256
          have t256' : decide ((256 : Int) ≤ (ps.length : Int)) = false := decide_eq_false (by omega)
          have y0 := HPB.out.1 0 _ rfl
          have y1 := HPB.out.1 1 _ rfl
          have y2 := HPB.out.1 2 _ rfl
          have y3 := HPB.out.1 3 _ rfl
          have hA2 := (Below.refl w5.heap.size w5).alloc (Nat.le_refl _) (.cells #[.int .i64 3, .int .i64 0, .slice none 0 0, .bool false] 56)
          have HPO := Lib.hid (HPO.out.below hA2)
          have HRU := Lib.hid (HRU.out.below hA2)
          have HBR := Lib.hid (HBR.out.trans (hA2.mono (by omega)))
          obtain ⟨vs, j1, j2, j3⟩ := HPO.out
          have J2 := Lib.hid j2
          have J3 := Lib.hid j3
          have J1 := Lib.hid j1
          clear j1 j2 j3 HPO hA2
          go_wp2_with (at_builtin; refine append_rowG Tryd.underlying28 info_part_r rfl (by decide) rfl _ _ rfl rfl J3.out rfl (Sl.new _ 4 1 [.int .i64 3, .int .i64 0, .slice none 0 0, .bool false] 56 rfl) (four_one _ _ _ _ _ _ _) ?_ ?_ ?_ ?_; omega; omega; (simp; omega))
          intro v6 w6 hr6 hb6 hg6
          have HPO : Hid (PatO .i64 56 63 B0 w6 v6 (ps ++ [(⟨3, 0, [], false⟩ : PartV)])) := Lib.hid (PatO.snoc (p := (⟨3, 0, [], false⟩ : PartV)) J1.out J2.out J3.out HRU.out (by decide) hr6 hg6)
          have HBR := Lib.hid (HBR.out.trans hb6)
          have hz6 := hb6.size
          clear hr6 hb6 hg6 y0 y1 y2 y3 J1 J2 J3 HRU
          go_wp2_with (fail)
          go_roundw
          case rel => exact ⟨(i + 1), ps ++ [(⟨3, 0, [], false⟩ : PartV)], rfl, by go_num, by omega, by simp only [List.length_append, List.length_cons, List.length_nil]; omega, by simp at hz6; omega, by simp at hz6; omega, Lib.hid HG.out, HPO, HBR⟩
          case measure => simp [intOf]; omega
    have t42 : (c == 42) = false := by simpa using c42
    by_cases c91 : c = 91
    · subst c91
      have HPE : Hid (partP l i = setS l (i + 1)) := Lib.hid (by unfold partP; rw [if_neg (by rw [hci]; simp), if_neg (by rw [hci]; simp), if_pos hci])
      have HS := Lib.hid (fun (W : World) (hB : Below wo.heap.size wo W) => refSet_any b off cl l (i + 1) W (HSCA.out W hB) (by have := hB.size; omega) hll (by omega))
      have q1c : ((i + 1 : Nat) : Int) = (i : Int) + 1 := by omega
      rw [q1c] at HS
      clear q1c
      have kk := HK1.out
      have hA1 := (Below.refl wo.heap.size wo).alloc (Nat.le_refl _) (.cells #[.int .i64 1, .int .i64 91, .slice none 0 0, .bool false] 56)
      have HBW := Lib.hid hA1
      have HBR := Lib.hid (HBR.out.trans (hA1.mono (by omega)))
      have HPB := Lib.hid (Own.new_at wo [.int .i64 1, .int .i64 91, .slice none 0 0, .bool false] 56 wo.heap.size rfl)
      have hz5 : wo.heap.size < (wo.alloc (.cells #[.int .i64 1, .int .i64 91, .slice none 0 0, .bool false] 56)).heap.size := by simp
      go_wp2_with (fail)
      refine (HS.out _ hA1).mono ?_
      clear hA1
      generalize wo.alloc (.cells #[.int .i64 1, .int .i64 91, .slice none 0 0, .bool false] 56) = w4 at *
      generalize hbp : wo.heap.size = bp at *
      have HBP := Lib.hid hbp
      clear hbp
      rintro e w5 hq
      rcases Set_r_elim hq with ⟨hsn, ⟨k0, s0, a, n, cc, g, rfl⟩, hb1⟩ | ⟨p, n, hsn, ⟨u, rfl, hr⟩, hb1⟩
      · have HN := Lib.hid (HPP.out.trans (HST.out.symm.trans (parseR_none hlt (by rw [HPE.out, hsn]))))
        have HPB := Lib.hid (HPB.out.below hb1 (by omega))
        have HZ := Lib.hid ((HB.out.trans (HBR.out.mono (show w.heap.size ≤ B0 by omega))).trans (hb1.mono (by omega)))
        have hz9 := hb1.size
        clear hq hsn hb1
        go_wp2_with (with_reducible refine stop_store ?_)
        refine store_own [.int .i64 k0, .int .i64 s0, .slice a n cc, .bool g] HPB.out rfl rfl rfl (by kernel_rfl) (by kernel_rfl) ?_
        intro w9 hO9 hg9 hz10
        have HZ := Lib.hid (HZ.out.trans (gr_below hg9 w.heap.size HZ.out.size (fun i h => by injection h with h; omega)))
        have qm : IntKind.i64.wrap ((0 : Int) - 1) = -1 := by decide
        clear hO9 hg9
        go_wp2_with (fail)
        go_ret2
        exact Parse_r_none HN.out rfl HZ.out
      · have HPN : Hid (partP l i = some (p, n)) := Lib.hid (by rw [HPE.out, hsn])
        obtain ⟨e5, e0⟩ := setS_kind hsn
        obtain ⟨au, cu, rfl, hcu⟩ := Row.form hr
        have HPB := Lib.hid (HPB.out.below hb1 (by omega))
        have HBR := Lib.hid (HBR.out.trans (hb1.mono (by omega)))
        have HBW := Lib.hid (HBW.out.trans (hb1.mono (by omega)))
        have HRU := Lib.hid hr
        have hz9 := hb1.size
        obtain ⟨pk, psn, prs, png⟩ := p
        simp only at e5 e0 hcu HRU
        subst e5 e0
        have hnn := partP_lt HPN.out
        have qm : IntKind.i64.wrap ((n : Int) - 1) = (n : Int) - 1 := IntWalk.i64_in _ (by omega)
        have qn : IntKind.i64.wrap ((n : Int) - 1 + 1) = (n : Int) := by rw [IntWalk.i64_in _ (by omega)]; omega
        clear hq hsn hb1 hr
        go_wp2_with (with_reducible refine stop_store ?_)
        refine store_own [.int .i64 5, .int .i64 0, .slice au prs.length cu, .bool png] HPB.out rfl rfl rfl (by kernel_rfl) (by kernel_rfl) ?_
        intro w9 hO9 hg9 hz10
        have HBW := Lib.hid (HBW.out.trans (gr_below hg9 bp (by have h1 := HBW.out.size; have h2 := HBP.out; omega) (fun i h => by injection h with h; omega)))
        have HPO := Lib.hid (HPO.out.below (by rw [HBP.out]; exact HBW.out))
        have HRU := Lib.hid (Row.mono (Row.kept9 HRU.out hg9 (by omega)) (Nat.zero_le _))
        have HPB := Lib.hid hO9
        have HBR := Lib.hid (HBR.out.trans (gr_below hg9 B0 (by have h1 := HBW.out.size; have h2 := HBP.out; omega) (fun i h => by injection h with h; omega)))
        have HZ := Lib.hid (HB.out.trans (HBR.out.mono (show w.heap.size ≤ B0 by omega)))
        have hz11 : w5.heap.size ≤ w9.heap.size := by omega
        clear hO9 hg9 HBW hz10
        by_cases h256 : 256 ≤ ps.length
        · have HN := Lib.hid (HPP.out.trans (HST.out.symm.trans (parseR_many (out := ps) hlt h256)))
          have t256 : decide (256 ≤ ps.length) = true := decide_eq_true h256
          have t256' : decide ((256 : Int) ≤ (ps.length : Int)) = true := decide_eq_true (by omega)
          clear h256
          go_wp2_with (fail)
          go_ret2
          exact Parse_r_none HN.out rfl HZ.out
        have HG := Lib.hid ((parseR_go (out := ps) hlt HPN.out (by omega)).symm.trans HST.out)
        have hnl := partP_lt HPN.out
        have t256 : decide (256 ≤ ps.length) = false := decide_eq_false h256
        have t256' : decide ((256 : Int) ≤ (ps.length : Int)) = false := decide_eq_false (by omega)
        have y0 := HPB.out.1 0 _ rfl
        have y1 := HPB.out.1 1 _ rfl
        have y2 := HPB.out.1 2 _ rfl
        have y3 := HPB.out.1 3 _ rfl
        have hA2 := (Below.refl w9.heap.size w9).alloc (Nat.le_refl _) (.cells #[.int .i64 5, .int .i64 0, .slice au prs.length cu, .bool png] 56)
        have HPO := Lib.hid (HPO.out.below hA2)
        have HRU := Lib.hid (HRU.out.below hA2)
        have HBR := Lib.hid (HBR.out.trans (hA2.mono (by omega)))
        obtain ⟨vs, j1, j2, j3⟩ := HPO.out
        have J2 := Lib.hid j2
        have J3 := Lib.hid j3
        have J1 := Lib.hid j1
        clear j1 j2 j3 HPO hA2
        go_wp2_with (at_builtin; refine append_rowG Tryd.underlying28 info_part_r rfl (by decide) rfl _ _ rfl rfl J3.out rfl (Sl.new _ 4 1 [.int .i64 5, .int .i64 0, .slice au prs.length cu, .bool png] 56 rfl) (four_one _ _ _ _ _ _ _) ?_ ?_ ?_ ?_; omega; omega; (simp; omega))
        intro v6 w6 hr6 hb6 hg6
        have HPO : Hid (PatO .i64 56 63 B0 w6 v6 (ps ++ [(⟨5, 0, prs, png⟩ : PartV)])) := Lib.hid (PatO.snoc (p := (⟨5, 0, prs, png⟩ : PartV)) J1.out J2.out J3.out HRU.out (by decide) hr6 hg6)
        have HBR := Lib.hid (HBR.out.trans hb6)
        have hz6 := hb6.size
        clear hr6 hb6 hg6 y0 y1 y2 y3 J1 J2 J3 HRU
        go_wp2_with (fail)
        go_roundw
        case rel => exact ⟨n, ps ++ [(⟨5, 0, prs, png⟩ : PartV)], rfl, by go_num, by omega, by simp only [List.length_append, List.length_cons, List.length_nil]; omega, by simp at hz6; omega, by simp at hz6; omega, Lib.hid HG.out, HPO, HBR⟩
        case measure => simp [intOf]; omega
    have t91 : (c == 91) = false := by simpa using c91
    have hp : partP l i = (oneP l i).map fun x => (⟨1, x.1, [], false⟩, x.2) := by unfold partP; rw [if_neg (by rw [hci]; simpa using c63), if_neg (by rw [hci]; simpa using c42), if_neg (by rw [hci]; simpa using c91)]
    by_cases c92 : c = 92
    · subst c92
      have kk := HK1.out
      cases ho : oneP l i with
      | none =>
        rw [ho] at hp
        have HN := Lib.hid (HPP.out.trans (HST.out.symm.trans (parseR_none hlt hp)))
        have HS := Lib.hid (fun (W : World) (hB : Below wo.heap.size wo W) => refOne_no b off cl l i W (HSCA.out W hB) hll (by omega) ho)
        have hA1 := (Below.refl wo.heap.size wo).alloc (Nat.le_refl _) (.cells #[.int .i64 1, .int .i64 92, .slice none 0 0, .bool false] 56)
        have HZx := Lib.hid (fun cs : Array Value => HB.out.trans ((HBR.out.alloc (show B0 ≤ wo.heap.size by omega) (.cells cs 56)).mono (show w.heap.size ≤ B0 by omega)))
        have qm : IntKind.i64.wrap ((0 : Int) - 1) = -1 := by decide
        clear hp ho
        go_wp2_with (fail)
        refine (HS.out _ hA1).mono ?_
        rintro e w' ⟨rfl, hw⟩
        subst w'
        clear hA1
        go_wp2_with (fail)
        go_ret2
        exact Parse_r_none HN.out rfl (HZx.out _)
      | some y =>
        obtain ⟨c1, n1⟩ := y
        rw [ho] at hp
        have hn1 := oneP_lt ho
        have HPN : Hid (partP l i = some (⟨1, c1, [], false⟩, n1)) := Lib.hid hp
        have HS := Lib.hid (fun (W : World) (hB : Below wo.heap.size wo W) => refOne_yes b off cl l i W (HSCA.out W hB) hll (by omega) ho)
        have hA0 := (Below.refl wo.heap.size wo).alloc (Nat.le_refl _) (.cells #[.int .i64 1, .int .i64 92, .slice none 0 0, .bool false] 56)
        have qm : IntKind.i64.wrap ((n1 : Int) - 1) = (n1 : Int) - 1 := IntWalk.i64_in _ (by omega)
        have qn : IntKind.i64.wrap ((n1 : Int) - 1 + 1) = (n1 : Int) := by rw [IntWalk.i64_in _ (by omega)]; omega
        clear hp ho
        go_wp2_with (fail)
        refine (HS.out _ hA0).mono ?_
        rintro e w' ⟨rfl, hw⟩
        subst w'
        clear hA0
        have HRU : Hid (Row 0 63 2 (wo.alloc (.cells #[.int .i64 1, .int .i64 c1, .slice none 0 0, .bool false] 56)) (.slice none 0 0) ([] : List (Int × Int)).length (rcells .i64 [])) := Lib.hid Row.nil
        have hA1 := (Below.refl wo.heap.size wo).alloc (Nat.le_refl _) (.cells #[.int .i64 1, .int .i64 c1, .slice none 0 0, .bool false] 56)
        have HPO := Lib.hid (HPO.out.below hA1)
        have HBR := Lib.hid (HBR.out.trans (hA1.mono (by omega)))
        have HZ := Lib.hid (HB.out.trans (HBR.out.mono (show w.heap.size ≤ B0 by omega)))
        have HPB := Lib.hid (Own.new_at wo [.int .i64 1, .int .i64 c1, .slice none 0 0, .bool false] 56 wo.heap.size rfl)
        have hz5 : wo.heap.size < (wo.alloc (.cells #[.int .i64 1, .int .i64 c1, .slice none 0 0, .bool false] 56)).heap.size := by simp
        go_upto_region 21 with (fail)
        clear hA1
        generalize wo.alloc (.cells #[.int .i64 1, .int .i64 c1, .slice none 0 0, .bool false] 56) = w5 at *
        generalize wo.heap.size = bp at *
        by_cases h256 : 256 ≤ ps.length
        · have HN := Lib.hid (HPP.out.trans (HST.out.symm.trans (parseR_many (out := ps) hlt h256)))
          have t256 : decide (256 ≤ ps.length) = true := decide_eq_true h256
          have t256' : decide ((256 : Int) ≤ (ps.length : Int)) = true := decide_eq_true (by omega)
          clear h256
          go_wp2_with (fail)
          go_ret2
          exact Parse_r_none HN.out rfl HZ.out
        have HG := Lib.hid ((parseR_go (out := ps) hlt HPN.out (by omega)).symm.trans HST.out)
        have hnl := partP_lt HPN.out
        have t256 : decide (256 ≤ ps.length) = false := decide_eq_false h256
        have t256' : decide ((256 : Int) ≤ (ps.length : Int)) = false := decide_eq_false (by omega)
        have y0 := HPB.out.1 0 _ rfl
        have y1 := HPB.out.1 1 _ rfl
        have y2 := HPB.out.1 2 _ rfl
        have y3 := HPB.out.1 3 _ rfl
        have hA2 := (Below.refl w5.heap.size w5).alloc (Nat.le_refl _) (.cells #[.int .i64 1, .int .i64 c1, .slice none 0 0, .bool false] 56)
        have HPO := Lib.hid (HPO.out.below hA2)
        have HRU := Lib.hid (HRU.out.below hA2)
        have HBR := Lib.hid (HBR.out.trans (hA2.mono (by omega)))
        obtain ⟨vs, j1, j2, j3⟩ := HPO.out
        have J2 := Lib.hid j2
        have J3 := Lib.hid j3
        have J1 := Lib.hid j1
        clear j1 j2 j3 HPO hA2
        go_wp2_with (at_builtin; refine append_rowG Tryd.underlying28 info_part_r rfl (by decide) rfl _ _ rfl rfl J3.out rfl (Sl.new _ 4 1 [.int .i64 1, .int .i64 c1, .slice none 0 0, .bool false] 56 rfl) (four_one _ _ _ _ _ _ _) ?_ ?_ ?_ ?_; omega; omega; (simp; omega))
        intro v6 w6 hr6 hb6 hg6
        have HPO : Hid (PatO .i64 56 63 B0 w6 v6 (ps ++ [(⟨1, c1, [], false⟩ : PartV)])) := Lib.hid (PatO.snoc (p := (⟨1, c1, [], false⟩ : PartV)) J1.out J2.out J3.out HRU.out (by decide) hr6 hg6)
        have HBR := Lib.hid (HBR.out.trans hb6)
        have hz6 := hb6.size
        clear hr6 hb6 hg6 y0 y1 y2 y3 J1 J2 J3 HRU
        go_wp2_with (fail)
        go_roundw
        case rel => exact ⟨n1, ps ++ [(⟨1, c1, [], false⟩ : PartV)], rfl, by go_num, by omega, by simp only [List.length_append, List.length_cons, List.length_nil]; omega, by simp at hz6; omega, by simp at hz6; omega, Lib.hid HG.out, HPO, HBR⟩
        case measure => simp [intOf]; omega
    · have t92 : (c == 92) = false := by simpa using c92
      have kk := HK1.out
      have ho : oneP l i = some (c, i + 1) := by unfold oneP; rw [if_neg (by rw [hci]; simpa using c92), hci]; rfl
      rw [ho] at hp
      have HPN := Lib.hid (show partP l i = some (⟨1, c, [], false⟩, i + 1) from hp)
      have HRU : Hid (Row 0 63 2 (wo.alloc (.cells #[.int .i64 1, .int .i64 c, .slice none 0 0, .bool false] 56)) (.slice none 0 0) ([] : List (Int × Int)).length (rcells .i64 [])) := Lib.hid Row.nil
      have hA1 := (Below.refl wo.heap.size wo).alloc (Nat.le_refl _) (.cells #[.int .i64 1, .int .i64 c, .slice none 0 0, .bool false] 56)
      have HPO := Lib.hid (HPO.out.below hA1)
      have HBR := Lib.hid (HBR.out.trans (hA1.mono (by omega)))
      have HZ := Lib.hid (HB.out.trans (HBR.out.mono (show w.heap.size ≤ B0 by omega)))
      have HPB := Lib.hid (Own.new_at wo [.int .i64 1, .int .i64 c, .slice none 0 0, .bool false] 56 wo.heap.size rfl)
      have hz5 : wo.heap.size < (wo.alloc (.cells #[.int .i64 1, .int .i64 c, .slice none 0 0, .bool false] 56)).heap.size := by simp
      go_upto_region 21 with (fail)
      clear hA1
      generalize wo.alloc (.cells #[.int .i64 1, .int .i64 c, .slice none 0 0, .bool false] 56) = w5 at *
      generalize wo.heap.size = bp at *
      by_cases h256 : 256 ≤ ps.length
      · have HN := Lib.hid (HPP.out.trans (HST.out.symm.trans (parseR_many (out := ps) hlt h256)))
        have t256 : decide (256 ≤ ps.length) = true := decide_eq_true h256
        have t256' : decide ((256 : Int) ≤ (ps.length : Int)) = true := decide_eq_true (by omega)
        clear h256
        go_wp2_with (fail)
        go_ret2
        exact Parse_r_none HN.out rfl HZ.out
      have HG := Lib.hid ((parseR_go (out := ps) hlt HPN.out (by omega)).symm.trans HST.out)
      have hnl := partP_lt HPN.out
      have t256 : decide (256 ≤ ps.length) = false := decide_eq_false h256
      have t256' : decide ((256 : Int) ≤ (ps.length : Int)) = false := decide_eq_false (by omega)
      have y0 := HPB.out.1 0 _ rfl
      have y1 := HPB.out.1 1 _ rfl
      have y2 := HPB.out.1 2 _ rfl
      have y3 := HPB.out.1 3 _ rfl
      have hA2 := (Below.refl w5.heap.size w5).alloc (Nat.le_refl _) (.cells #[.int .i64 1, .int .i64 c, .slice none 0 0, .bool false] 56)
      have HPO := Lib.hid (HPO.out.below hA2)
      have HRU := Lib.hid (HRU.out.below hA2)
      have HBR := Lib.hid (HBR.out.trans (hA2.mono (by omega)))
      obtain ⟨vs, j1, j2, j3⟩ := HPO.out
      have J2 := Lib.hid j2
      have J3 := Lib.hid j3
      have J1 := Lib.hid j1
      clear j1 j2 j3 HPO hA2
      go_wp2_with (at_builtin; refine append_rowG Tryd.underlying28 info_part_r rfl (by decide) rfl _ _ rfl rfl J3.out rfl (Sl.new _ 4 1 [.int .i64 1, .int .i64 c, .slice none 0 0, .bool false] 56 rfl) (four_one _ _ _ _ _ _ _) ?_ ?_ ?_ ?_; omega; omega; (simp; omega))
      intro v6 w6 hr6 hb6 hg6
      have HPO : Hid (PatO .i64 56 63 B0 w6 v6 (ps ++ [(⟨1, c, [], false⟩ : PartV)])) := Lib.hid (PatO.snoc (p := (⟨1, c, [], false⟩ : PartV)) J1.out J2.out J3.out HRU.out (by decide) hr6 hg6)
      have HBR := Lib.hid (HBR.out.trans hb6)
      have hz6 := hb6.size
      clear hr6 hb6 hg6 y0 y1 y2 y3 J1 J2 J3 HRU
      go_wp2_with (fail)
      go_roundw
      case rel => exact ⟨(i + 1), ps ++ [(⟨1, c, [], false⟩ : PartV)], rfl, by go_num, by omega, by simp only [List.length_append, List.length_cons, List.length_nil]; omega, by simp at hz6; omega, by simp at hz6; omega, Lib.hid HG.out, HPO, HBR⟩
      case measure => simp [intOf]; omega
theorem refParse_any (s : ByteArray) (w : World) (hs : s.size ≤ 2000000) : Calls Tryd.prog 9 #[.string s] w (Parse_r s w) := by
  cases h : sg s.data.toList with
  | none => exact refParse_bad s w hs h
  | some l => exact refParse_good s l w hs h
end Go.Proofs.YtlmdpmfahfgjkaaDoor
