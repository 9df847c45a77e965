/- glob.Filter; are two lists of texts the same? Lists of texts that are handed in. -/
import Derived.Test.YtlmdpmfahfgjkaaDoorGlU
import Derived.Test.YtlmdpmfahfgjkaaDoorSlO
import Derived.SliceStrings
namespace Go.Proofs.YtlmdpmfahfgjkaaDoor
set_option maxRecDepth 100000
set_option linter.unusedVariables false
set_option linter.unusedSimpArgs false
open Go.RowKit Go.ChangeShapes Go.WideShapes Go.Deep
def scells (ss : List ByteArray) : List Value := ss.map Value.string
theorem info_string : (Tryd.prog.info? 9).map (fun i => (i.zero, i.size, i.bytes)) = some (some (.string ByteArray.empty), 1, 16) := by kernel_rfl
theorem str_one (s : ByteArray) : ∀ u ∈ [Value.string s], u.oneCell' = true := by
  intro u hu
  simp only [List.mem_cons, List.not_mem_nil, or_false] at hu
  subst hu
  rfl
theorem scells_get {ss : List ByteArray} {j : Nat} {s : ByteArray} (h : ss[j]? = some s) : (scells ss)[j]? = some (.string s) := by unfold scells; rw [List.getElem?_map, h]; rfl
/-- Lists of texts that are handed in. -/
theorem texts_open {H : Type} {enc : TypeId × Value → H} {w : World} {base : Nat} {spare : Nat → Bool} {held : Bool} {fuel : Nat} {v : Value} {d : DataW H} {pl : List MemPlace} (h : DataW.trod enc Tryd.prog w base spare held fuel 41 [v] = some (d, pl)) :
    ∃ ss : List ByteArray, Sl w w.heap.size 1 v ss.length (scells ss) ∧ ss.length ≤ maxLen ∧ (d = .nil ∧ ss = [] ∨ ∃ sp : List (DataW H), d = .slice (ss.map fun s => .lit (.string s.data.toList)) sp) := by
  rcases open_strings Tryd.underlying41 Tryd.underlying9 (by kernel_rfl) h with ⟨h0, h1⟩ | ⟨a, len, cap, ss, hcs, hb, hl, hm, hmm, hx, hi, hw⟩
  · injection h0 with h0
    subst h0
    injection h1 with h1 _
    exact ⟨[], Sl.nil, Nat.zero_le _, .inl ⟨h1, rfl⟩⟩
  · injection hcs with hv
    injection hx with hx _
    have hsl : len ≤ ss.length := by rw [hmm]; split <;> omega
    have htl : (ss.take len).length = len := by rw [List.length_take]; omega
    refine ⟨ss.take len, ⟨by unfold scells; simp, some a, cap, by rw [htl]; exact hv, by omega, ?_⟩, by omega, .inr ⟨_, hx⟩⟩
    by_cases hz : len = 0
    · exact .inl ⟨by omega, fun h => by cases h⟩
    · have hpl : a = ⟨a.block, a.off, none⟩ := spot_none (hi 0 (by omega))
      have hbl : a.block < w.heap.size := by
        have := hi 0 (by omega)
        rw [show a.add 0 = a by simp [Addr.add]] at this
        exact World.block_lt_of_cell? w _ this
      refine .inr ⟨a.block, a.off, by rw [← hpl], hbl, fun j u hu => ?_⟩
      have hj : j < len := by
        have := (List.getElem?_eq_some_iff.1 hu).1
        unfold scells at this
        simp at this
        omega
      unfold scells at hu
      rw [List.getElem?_map, List.getElem?_take, if_pos hj] at hu
      have h1 := hi j (by omega)
      rw [hpl, add_plain] at h1
      rw [h1]
      rw [List.getElem?_eq_getElem (by omega)] at hu
      simp only [Option.map_some, Option.some.injEq] at hu
      rw [← hu, List.getD_eq_getElem?_getD, List.getElem?_eq_getElem (by omega)]
      rfl
set_option maxHeartbeats 4000000 in
theorem same33_any (ss : List ByteArray) (B B' : Nat) (v v' : Value) (w : World) (h : Sl w B 1 v ss.length (scells ss)) (h' : Sl w B' 1 v' ss.length (scells ss)) (hB : B ≤ w.heap.size) (hB' : B' ≤ w.heap.size) (hl : ss.length ≤ 2000000) :
    Calls Tryd.prog 16 #[v, v'] w fun e w' => e = .returned (.bool true) ∧ Below w.heap.size w w' := by
  obtain ⟨a, cap, rfl, hcap⟩ := h.form
  obtain ⟨a', cap', rfl, hcap'⟩ := h'.form
  have H1 := Lib.hid (fun (W : World) (hW : Below w.heap.size w W) => h.below (hW.mono hB))
  have H2 := Lib.hid (fun (W : World) (hW : Below w.heap.size w W) => h'.below (hW.mono hB'))
  clear h h'
  go_enter Tryd.func16, Tryd.ntmps16
  go_wp2_with (fail)
  go_loopw [5] (fun i wr => ∃ j : Nat, i = .int .i64 j ∧ j ≤ ss.length ∧ Hid (Below w.heap.size w wr)) (fun i _ => ss.length - (intOf i).toNat)
  case atStart => exact ⟨0, rfl, by omega, Lib.hid (Below.refl _ _)⟩
  case round =>
    obtain ⟨j, rfl, hj, HB⟩ := hrel
    by_cases hlt : j < ss.length
    rotate_left
    · have d1 : decide (j < ss.length) = false := decide_eq_false (by omega)
      have d2 : decide ((j : Int) < (ss.length : Int)) = false := decide_eq_false (by omega)
      clear hlt
      go_wp2_with (fail)
      go_ret
      exact ⟨by rfl, HB.out⟩
    have d1 : decide (j < ss.length) = true := decide_eq_true hlt
    have d2 : decide ((j : Int) < (ss.length : Int)) = true := decide_eq_true (by omega)
    have q1 : IntKind.i64.wrap ((j : Int) + 1) = (j : Int) + 1 := IntWalk.i64_in _ (by omega)
    obtain ⟨s, hs⟩ : ∃ s, ss[j]? = some s := ⟨_, List.getElem?_eq_getElem hlt⟩
    obtain ⟨b, off, rfl, hk⟩ := sl_cells (H1.out wr HB.out) (by omega)
    obtain ⟨b', off', rfl, hk'⟩ := sl_cells (H2.out wr HB.out) (by omega)
    have k1 := hk _ _ (scells_get hs)
    have k2 := hk' _ _ (scells_get hs)
    clear hk hk' hs
    go_upto_region 6 with (fail)
    go_quiet (fail)
    have HB := Lib.hid (below_drewN HB.out nq)
    clear k1 k2
    generalize wr.drewN nq = w2 at *
    go_wp2_with (fail)
    go_roundw
    case rel => exact ⟨j + 1, rfl, hlt, HB⟩
    case measure => simp [intOf] <;> omega
/-- What Filter does. -/
def Filter_p (p : ByteArray) (ss : List ByteArray) (w : World) (e : Ending) (w' : World) : Prop :=
  match pars p with
  | none => e = .returned (.tuple #[.slice none 0 0, .int .i64 40]) ∧ Below w.heap.size w w'
  | some ps => (∃ v, e = .returned (.tuple #[v, .int .i64 0]) ∧ Row w.heap.size 9 1 w' v (ss.filter (mtch ps)).length (scells (ss.filter (mtch ps)))) ∧ Below w.heap.size w w'
theorem take_snoc' {α : Type} {l : List α} {j : Nat} {x : α} (h : l[j]? = some x) : l.take (j + 1) = l.take j ++ [x] := by
  obtain ⟨hj, e⟩ := List.getElem?_eq_some_iff.1 h
  rw [List.take_succ_eq_append_getElem hj, e]
set_option maxHeartbeats 4000000 in
theorem filter_any (p : ByteArray) (ss : List ByteArray) (v : Value) (B : Nat) (w : World) (hA : Amb w) (hp : p.size ≤ 2000000) (hS : Sl w B 1 v ss.length (scells ss)) (hB : B ≤ w.heap.size) (hl : ss.length ≤ 2000000) (hs : ∀ s ∈ ss, s.size ≤ 2000000) :
    Calls Tryd.prog 13 #[.string p, v] w (Filter_p p ss w) := by
  obtain ⟨a, cap, rfl, hcap⟩ := hS.form
  have HP := Lib.hid (parse_any p w hA hp)
  have HA := Lib.hid hA
  have HSl := Lib.hid (fun (W : World) (hW : Below w.heap.size w W) => hS.below (hW.mono hB))
  have HSZ := Lib.hid hs
  clear hA hS hs
  go_enter Tryd.func13, Tryd.ntmps13
  go_wp2_with (fail)
  refine HP.out.mono ?_
  rintro e w1 hq
  unfold Parse_p at hq
  cases h : pars p with
  | none =>
    rw [h] at hq
    obtain ⟨rfl, hb⟩ := hq
    have HG := Lib.hid h
    have HB := Lib.hid hb
    clear h hb
    go_wp2_with (fail)
    go_ret2
    unfold Filter_p
    rw [HG.out]
    exact ⟨by rfl, HB.out⟩
  | some ps =>
    rw [h] at hq
    obtain ⟨⟨pv, rfl, hpo⟩, hb⟩ := hq
    have HG := Lib.hid h
    have HB := Lib.hid hb
    obtain ⟨h1, h2⟩ := pars_bd h
    have hz1 := hb.size
    have HM := Lib.hid (fun (s : ByteArray) (W : World) (hW : Below w1.heap.size w1 W) (hsz : s.size ≤ 2000000) => match_any pv ps w1.heap.size s W (HA.out.below (HB.out.trans (hW.mono hz1))) hsz (hpo.pat.below hW) hW.size (by omega) (fun p hp => by have := (h2 p hp).1; omega))
    obtain ⟨pa, pc, rfl, hpc⟩ := hpo.form
    clear h hb hpo h1 h2
    go_wp2_with (fail)
    go_loopw [8, 21] (fun fv i wr => ∃ j : Nat, i = .int .i64 j ∧ j ≤ ss.length ∧ Hid (Row w1.heap.size 9 1 wr fv ((ss.take j).filter (mtch ps)).length (scells ((ss.take j).filter (mtch ps)))) ∧ Hid (Below w1.heap.size w1 wr)) (fun _ i _ => ss.length - (intOf i).toNat)
    case atStart => exact ⟨0, rfl, by omega, Lib.hid Row.nil, Lib.hid (Below.refl _ _)⟩
    case round =>
      obtain ⟨j, rfl, hj, HR, HBR⟩ := hrel
      obtain ⟨wo, rfl⟩ : ∃ z : World, z = wr := ⟨_, rfl⟩
      obtain ⟨fa, fc, rfl, hfc⟩ := HR.out.form
      have HZ := Lib.hid (HB.out.trans (HBR.out.mono hz1))
      by_cases hlt : j < ss.length
      rotate_left
      · have d1 : decide (j < ss.length) = false := decide_eq_false (by omega)
        have d2 : decide ((j : Int) < (ss.length : Int)) = false := decide_eq_false (by omega)
        have hrow := HR.out
        rw [List.take_of_length_le (by omega)] at hrow
        have HRW := Lib.hid hrow
        have HLN : Hid (((ss.take j).filter (mtch ps)).length = (ss.filter (mtch ps)).length) := Lib.hid (by rw [List.take_of_length_le (by omega)])
        clear hlt hrow HR
        generalize ((ss.take j).filter (mtch ps)).length = n at *
        go_wp2_with (fail)
        go_ret2
        unfold Filter_p
        rw [HG.out]
        refine ⟨⟨_, rfl, ?_⟩, HZ.out⟩
        have := Row.mono HRW.out hz1
        rw [← HLN.out] at this
        rw [← HLN.out]
        exact this
      have d1 : decide (j < ss.length) = true := decide_eq_true hlt
      have d2 : decide ((j : Int) < (ss.length : Int)) = true := decide_eq_true (by omega)
      have q1 : IntKind.i64.wrap ((j : Int) + 1) = (j : Int) + 1 := IntWalk.i64_in _ (by omega)
      obtain ⟨s, hsj⟩ : ∃ s, ss[j]? = some s := ⟨_, List.getElem?_eq_getElem hlt⟩
      obtain ⟨b, off, rfl, hk⟩ := sl_cells (HSl.out wo HZ.out) (by omega)
      have k1 := hk _ _ (scells_get hsj)
      have HT := Lib.hid (take_snoc' hsj)
      have HMC := Lib.hid (HM.out s wo HBR.out (HSZ.out s (List.mem_of_getElem? hsj)))
      have hln : ((ss.take j).filter (mtch ps)).length ≤ ss.length := Nat.le_trans (List.length_filter_le _ _) (by rw [List.length_take]; omega)
      clear hk hsj
      cases hm : mtch ps s with
      | false =>
        have HN : Hid ((ss.take (j + 1)).filter (mtch ps) = (ss.take j).filter (mtch ps)) := Lib.hid (by rw [HT.out, List.filter_append]; simp [hm])
        rw [hm] at HMC
        clear hm
        go_wp2_with (fail)
        refine HMC.out.mono ?_
        rintro e w2 ⟨rfl, hb⟩
        have HBR := Lib.hid (HBR.out.trans (hb.mono HBR.out.size))
        have HR := Lib.hid (HR.out.below hb)
        rw [← HN.out] at HR
        clear hb k1
        go_wp2_with (fail)
        go_roundw
        case rel => exact ⟨j + 1, rfl, hlt, (by rw [← HN.out]; exact HR), HBR⟩
        case measure => simp [intOf] <;> omega
      | true =>
        have HN : Hid ((ss.take (j + 1)).filter (mtch ps) = (ss.take j).filter (mtch ps) ++ [s]) := Lib.hid (by rw [HT.out, List.filter_append]; simp [hm])
        rw [hm] at HMC
        clear hm
        go_wp2_with (fail)
        refine HMC.out.mono ?_
        rintro e w2 ⟨rfl, hb⟩
        have hzz := hb.size
        have HBR2 := Lib.hid (HBR.out.trans (hb.mono HBR.out.size))
        have HR := Lib.hid (HR.out.below hb)
        have hA2 := (Below.refl w2.heap.size w2).alloc (Nat.le_refl _) (.cells #[.string s] 9)
        have HR := Lib.hid (HR.out.below hA2)
        have hz2 : w1.heap.size ≤ w2.heap.size := HBR2.out.size
        have HBR2 := Lib.hid (HBR2.out.trans (hA2.mono hz2))
        generalize ((ss.take j).filter (mtch ps)) = L at *
        clear hb k1 hA2 HBR
        go_wp2_with (at_builtin; refine append_row Tryd.underlying41 info_string rfl (by decide) rfl _ _ rfl rfl HR.out rfl (Sl.new _ 1 1 [.string s] 9 rfl) (str_one _) ?_ ?_ ?_ ?_; omega; omega; (simp; omega))
        intro v7 w7 hr7 hb7
        have HR : Hid (Row w1.heap.size 9 1 w7 v7 ((ss.take (j + 1)).filter (mtch ps)).length (scells ((ss.take (j + 1)).filter (mtch ps)))) := Lib.hid (by
          rw [HN.out]
          unfold scells
          rw [List.map_append, List.length_append]
          exact hr7)
        have HBR := Lib.hid (HBR2.out.trans hb7)
        clear hr7 hb7
        go_wp2_with (fail)
        go_roundw
        case rel => exact ⟨j + 1, rfl, hlt, HR, HBR⟩
        case measure => simp [intOf] <;> omega
end Go.Proofs.YtlmdpmfahfgjkaaDoor
